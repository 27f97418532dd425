/- Parts of the proof: Scj. -/
import Derived.Deep.Cut
import Derived.Deep.CutRange
import Derived.Deep.CutBlock
import Derived.Test.YtcdiljebkpikbaaGreatU34
set_option linter.all false
set_option maxRecDepth 100000
set_option maxHeartbeats 64000000
namespace Go.Proofs.YtcdiljebkpikbaaGreat
section
open Go.RowKit Go.Lib
theorem Zq {α:Type} (one:Rd α) (n:Nat) (s:Bs):rdN one n s none=([],none):=by cases n<;>rfl
theorem Qu {α:Type} (one:Rd α) (n:Nat) (s:Bs) (a:Nat):rdN one (n+1) s (some a)=((one s (some a)).1::(rdN one n s (one s (some a)).2).1,(rdN one n s (one s (some a)).2).2):=rfl
theorem kM (s:Bs) (st:Option Nat):(rdC s st).1=(rdI s st).1:=by
 unfold rdC
 split
 ·rfl
 ·split<;>rfl
theorem xL {W:World} {B B' n k:Nat} {T:TypeId} {v:Value} {xs:List Value} (h:W.ownsRow B T k v n xs) (hb:B'≤B):W.ownsRow B' T k v n xs:=
 ⟨h.1,h.2.imp id fun ⟨g,c,cur,e,hg,r⟩=>⟨g,c,cur,e,Nat.le_trans hb hg,r⟩⟩
theorem yO (W:World) (B:Nat) (T:TypeId) (s:Nat):W.ownsRow B T s (.slice none 0 0) 0 []:=⟨by simp,.inl ⟨rfl,rfl⟩⟩
theorem an7 {W W':World} {B n k:Nat} {T:TypeId} {v:Value} {xs:List Value} {O:List Nat} (h:W.ownsRow B T k v n xs) (hk:Kp O W W') (ho: ∀b,v.ownBlock=some b→b∉O):W'.ownsRow B T k v n xs:=xN h fun b hb=>hk.block b (h.lt b hb).2 (ho b hb)
theorem qV {W W':World} {B n k g:Nat} {T U:TypeId} {v:Value} {xs:List Value} {cs:Array Value} (h:W.ownsRow B T k v n xs) (hb:Blk W g U cs) (ht:T≠U) (hk:Kp [g] W W'):W'.ownsRow B T k v n xs:=an7 h hk fun b e hm=>by
 rw[List.mem_singleton]at hm
 subst hm
 exact yo h hb ht e
theorem zJ {W W':World} {B B' n k m j:Nat} {T U:TypeId} {v u:Value} {xs ys:List Value} (h:W.ownsRow B T k v n xs) (hu:W.ownsRow B' U j u m ys) (ht:T≠U) (hk:Kp u.ownBlock.toList W W'):W'.ownsRow B T k v n xs:=an7 h hk fun b e hm=>aBF h hu ht e (Option.mem_toList.1 hm)
structure aNf {β:Type} (T:TypeId) (k:Nat) (At:Nat→World→β→Prop):Prop where
 low: ∀ {B B' W x},At B W x→B'≤B→At B' W x
 bel: ∀ {B W W' x},At B W x→Below W.heap.size W W'→At B W' x
 keep: ∀ {B W W' x g cs},At B W x→Blk W g 154 cs→Kp [g] W W'→At B W' x
 app: ∀ {B B' W W' x u n ys},At B W x→W.ownsRow B' T k u n ys→Kp u.ownBlock.toList W W'→At B W' x
def atN {β:Type} :Nat→World→β→Prop:=fun _ _ _=>True
theorem KL {β:Type} (T:TypeId) (k:Nat):aNf (β:=β) T k atN:=⟨fun _ _=>trivial,fun _ _=>trivial,fun _ _ _=>trivial,fun _ _ _=>trivial⟩
def atP (B:Nat) (W:World) (q:Prg):Prop:=q.n=q.l.length∧W.ownsRow B 84 4 (.slice q.p q.n q.c) q.n (yv inC q.l)
theorem acr:aNf 85 1 atP:=⟨fun h hb=>⟨h.1,xL h.2 hb⟩,fun h hb=>⟨h.1,xN h.2 fun b e=>hb.block b (h.2.lt b e).2⟩,fun h hb hk=>⟨h.1,qV h.2 hb (by decide) hk⟩,fun h hu hk=>⟨h.1,zJ h.2 hu (by decide) hk⟩⟩
def atL (B:Nat) (W:World) (q:LpR):Prop:=q.n=q.l.length∧W.ownsRow B 3 1 (.slice q.p q.n q.c) q.n (yv wdC q.l)
theorem acq:aNf 88 2 atL:=⟨fun h hb=>⟨h.1,xL h.2 hb⟩,fun h hb=>⟨h.1,xN h.2 fun b e=>hb.block b (h.2.lt b e).2⟩,fun h hb hk=>⟨h.1,qV h.2 hb (by decide) hk⟩,fun h hu hk=>⟨h.1,zJ h.2 hu (by decide) hk⟩⟩
structure RdD {α β:Type} (W0:World) (g:Nat) (s:Bs) (df:Nat) (fa:Array Value) (one:Rd α) (ab:β→α) (val:β→Value) (At:Nat→World→β→Prop):Prop where
 en: ∀vs W,Sem.run Tryz.prog (callFunc df vs) W= .ok (.enter df vs) W
 go: ∀(W:World) (k:Nat),RdM W g s (some k)→Kp [g] W0 W→Calls Tryz.prog df fa W fun r w'=> ∃x,r= .returned (val x)∧At W.heap.size w' x∧ab x=(one s (some k)).1∧RdM w' g s (one s (some k)).2∧Kp [g] W w'
def ItP {α β:Type} (W:World) (g:Nat) (s:Bs) (st:Option Nat) (one:Rd α) (ab:β→α) (enc:β→List Value) (At:Nat→World→β→Prop) (T:TypeId) (k:Nat) (e:Ending) (w':World):Prop:=
 ∃v xs,e= .returned v∧w'.ownsRow W.heap.size T k v xs.length (yv enc xs)∧(∀x∈xs,At W.heap.size w' x)∧xs.map ab=(rdL one s st).1∧RdM w' g s (rdL one s st).2∧Kp [g] W w'∧xs.length≤48
theorem aaq (x:Nat): ∀u∈flC x,u.oneCell'=true:=by intro u hu;simp[flC]at hu;rw[hu];rfl
theorem aba (x:Int): ∀u∈wdC x,u.oneCell'=true:=by intro u hu;simp[wdC]at hu;rw[hu];rfl
theorem aaS (x:Prg): ∀u∈prC x,u.oneCell'=true:=by intro u hu;simp[prC]at hu;rw[hu];rfl
theorem aax (x:In): ∀u∈inC x,u.oneCell'=true:=by intro u hu;simp[inC]at hu;rcases hu with rfl|rfl|rfl|rfl<;>rfl
theorem aaF (x:LpR): ∀u∈lpC x,u.oneCell'=true:=by intro u hu;simp[lpC]at hu;rcases hu with rfl|rfl<;>rfl
theorem Jr (x:Ini): ∀u∈aay x,u.oneCell'=true:=by intro u hu;simp[aay]at hu;rcases hu with rfl|rfl|rfl<;>rfl
structure ItI {α β:Type} (W:World) (g:Nat) (s:Bs) (st:Option Nat) (one:Rd α) (ab:β→α) (enc:β→List Value) (At:Nat→World→β→Prop) (T:TypeId) (k j:Nat) (v:Value) (wr:World) (xs:List β) (sj:Option Nat):Prop where
 own:wr.ownsRow W.heap.size T k v j (yv enc xs)
 len:j=xs.length
 ats: ∀x∈xs,At W.heap.size wr x
 rd:RdM wr g s sj
 kp:Kp [g] W wr
 eq:xs.map ab++(rdN one ((rdC s st).1.toNat-j) s sj).1=(rdL one s st).1
 eq2:(rdN one ((rdC s st).1.toNat-j) s sj).2=(rdL one s st).2
 few:sj≠none→(rdC s st).1.toNat≤48
 few2:j≤48
section
variable {α β:Type} {W0 W:World} {g df:Nat} {s:Bs} {st:Option Nat} {fa ca:Array Value} {one:Rd α} {ab:β→α} {enc:β→List Value} {At:Nat→World→β→Prop} {T:TypeId} {k j:Nat} {v:Value} {wr:World} {xs:List β} {sj:Option Nat} {n:Nat}
theorem ItI.start (h:RdM wr g s (rdC s st).2) (hk:Kp [g] W wr):ItI W g s st one ab enc At T k 0 (.slice none 0 0) wr [] (rdC s st).2:=by
 refine⟨yO _ _ _ _,rfl,by simp,h,hk,by simp[rdL],by simp[rdL],?_,by omega⟩
 intro hne
 unfold rdC at hne⊢
 split
 ·next e=>rw[e]at hne;exact absurd rfl hne
 ·split
  ·omega
  ·next e e2=>rw[e]at hne;simp only[]at hne;rw[if_neg e2]at hne;exact absurd rfl hne
theorem ItI.fin (h:ItI W g s st one ab enc At T k j v wr xs sj) (hd:sj=none∨(rdC s st).1.toNat≤j):ItP W g s st one ab enc At T k (.returned v) wr:=by
 have e1:=h.eq
 have e2:=h.eq2
 have e3:rdN one ((rdC s st).1.toNat-j) s sj=([],sj):=by
  rcases hd with rfl|hd
  ·exact Zq ..
  ·rw[show(rdC s st).1.toNat-j=0 by omega];rfl
 rw[e3]at e1 e2
 refine⟨v,xs,rfl,by rw[←h.len];exact h.own,h.ats,by rw[←e1];simp,by rw[←e2];exact h.rd,h.kp,by rw[←h.len];exact h.few2⟩
theorem ItI.next (hA:aNf T k At) (h:ItI W g s st one ab enc At T k j v wr xs (some n)) {x:β} {w1 w3:World} {v3:Value} (hj:j<(rdC s st).1.toNat) (hx:At wr.heap.size w1 x) (hab:ab x=(one s (some n)).1) (hr:RdM w1 g s (one s (some n)).2) (hk1:Kp [g] wr w1) (ht:T≠154) (ho1:w1.ownsRow W.heap.size T k v j (yv enc xs)) (ho3:w3.ownsRow W.heap.size T k v3 (j+1) (yv enc (xs++[x]))) (hk3:Kp v.ownBlock.toList w1 w3):
  ItI W g s st one ab enc At T k (j+1) v3 w3 (xs++[x]) (one s (some n)).2:=by
 have hN:=h.few (by simp)
 obtain⟨a,e,hb,_⟩:=h.rd
 have hr2:=hr
 obtain⟨a1,e1,hb1,_⟩:=hr2
 have hng:g∉v.ownBlock.toList:=fun hm=>yo ho1 hb1 ht (Option.mem_toList.1 hm)
 have hkt:Kp [g] W w3:=(h.kp.trans hk1).trans_gr (fun b hb=> .inr (ho1.lt b (Option.mem_toList.1 hb)).1) hk3
 have e1:=h.eq
 have e2:=h.eq2
 rw[show(rdC s st).1.toNat-j=(rdC s st).1.toNat- (j+1)+1 by omega,Qu]at e1 e2
 refine⟨ho3,by rw[h.len];simp,fun y hy=>?_,hr.kp hk3 hng,hkt,by rw[←e1];simp[hab],e2,fun _=>hN,by omega⟩
 rcases List.mem_append.1 hy with hy|hy
 ·exact hA.app (hA.keep (h.ats y hy) hb hk1) ho1 hk3
 ·rw[List.mem_singleton.1 hy]
  exact hA.app (hA.low hx h.kp.size) ho1 hk3
end
theorem aRM:(Tryz.prog.info? 23).map (fun i=>(i.zero,i.size,i.bytes))=some (some (.float .f64 0),1,8):=by kernel_rfl
theorem abC {W0 W:World} {g df:Nat} {s:Bs} {st:Option Nat} {fa ca:Array Value} {one:Rd (Nat)} (hD:RdD W0 g s df (fa++ca) one (fun x:Nat=>x) (fun x:Nat=>Value.float .f64 x) (atN)) (h:RdM W g s st) (h0:Kp [g] W0 W) (hs:s.length≤1000000):
  Calls Tryz.prog 91 #[.pointer (some ⟨g,0,none⟩),.func (.func df) fa ca] W (ItP W g s st one (fun x:Nat=>x) flC (atN) 23 1):=by
 obtain⟨N,hN⟩: ∃N,N=(rdC s st).1:=⟨_,rfl⟩
 have hNI:=kM s st
 have HI:=hid (zH h hs)
 rw[←hNI,←hN]at HI
 have HN:=hid hN
 have HD:=hid (⟨hD,h0,hs⟩:_∧_∧_)
 have hen:=hD.en
 have HC:Hid ((rdI s st).2=none∧(rdC s st).2=none∨(∃a,(rdI s st).2=some a∧0≤N∧N≤48∧(rdC s st).2=some a)∨ ∃a,(rdI s st).2=some a∧(N<0∨ ¬N<0∧48<N)∧(rdC s st).2=none):=hid (by
  rw[hN,hNI]
  unfold rdC
  cases e:(rdI s st).2 with
  |none=>exact .inl ⟨rfl,rfl⟩
  |some a=>
   by_cases h:0≤(rdI s st).1∧(rdI s st).1≤48
   ·exact .inr (.inl ⟨a,rfl,h.1,h.2,by simp only[];rw[if_pos h]⟩)
   ·exact .inr (.inr ⟨a,rfl,by omega,by simp only[];rw[if_neg h]⟩))
 clear hD h h0 hs hN hNI
 go_enter Tryz.func91,Tryz.ntmps91
 go_upto_region 2 with((with_reducible refine HI.out.mono ?_);rintro r w1 ⟨rfl,hr1,hk1⟩)
 have H1:=hid (⟨hr1,hk1⟩:_∧_)
 clear hr1 hk1
 go_cut [22]from 10 to 22 (fun s22 wc=> ∃tb:Bool,s22= .bool tb∧w1=wc∧Hid (tb=true∧(rdC s st).2=none∧(∃a,(rdI s st).2=some a)∨tb=false∧(rdC s st).2=(rdI s st).2))
 case first=>
  rcases HC.out with⟨e1,e2⟩ | ⟨a,e1,n0,n1,e2⟩ | ⟨a,e1,nn,e2⟩
  ·obtain⟨hr1,hk1⟩:=H1.out
   rw[e1]at hr1
   obtain⟨aa,ee,hb,hr⟩:=hr1
   have hne:(ee==0)=false:=by simpa[RdS]using hr
   have c2:w1.cell? ⟨g,2,none⟩=some (.int .i64 ee):=hb.cell 2
   have HE:=hid (e2.trans e1.symm)
   clear hb hr hk1 e1 e2 HC HI
   go_wp2
   go_meet
   case rel=>exact⟨false,rfl,rfl,hid (.inr ⟨rfl,HE.out⟩)⟩
  ·obtain⟨hr1,hk1⟩:=H1.out
   rw[e1]at hr1
   obtain⟨aa,ee,hb,rfl,rfl,_⟩:=hr1
   have c2:w1.cell? ⟨g,2,none⟩=some (.int .i64 0):=hb.cell 2
   have t1: ¬N<0:=by omega
   have t2: ¬48<N:=by omega
   have HE:=hid (e2.trans e1.symm)
   clear hb hk1 e1 e2 n0 n1 HC HI
   go_wp2
   go_meet
   case rel=>exact⟨false,rfl,rfl,hid (.inr ⟨rfl,HE.out⟩)⟩
  ·obtain⟨hr1,hk1⟩:=H1.out
   rw[e1]at hr1
   obtain⟨aa,ee,hb,rfl,rfl,_⟩:=hr1
   have c2:w1.cell? ⟨g,2,none⟩=some (.int .i64 0):=hb.cell 2
   have HE:=hid (⟨e2,_,e1⟩:_∧ ∃a,(rdI s st).2=some a)
   clear hb hk1 e1 e2 HC HI
   rcases nn with t1| ⟨t1,t2⟩
   all_goals
    go_wp2
    go_meet
    case rel=>exact⟨true,rfl,rfl,hid (.inl ⟨rfl,HE.out⟩)⟩
 case rest=>
 obtain⟨tb,rfl,rfl,HT⟩:=hcut
 go_upto_if 22 with fail
 go_cut [5]from 22 to 25 (fun s5 wc=>s5= .int .i64 N∧Hid (RdM wc g s (rdC s st).2∧Kp [g] W wc))
 case first=>
  rcases HT.out with⟨rfl,e2,a,e1⟩ | ⟨rfl,e2⟩
  ·obtain⟨hr1,hk1⟩:=H1.out
   rw[e1]at hr1
   obtain⟨aa,ee,hb,rfl,rfl,_⟩:=hr1
   have c2:w1.cell? ⟨g,2,none⟩=some (.int .i64 0):=hb.cell 2
   have f2:=hb.frozen 2
   have l2:=hb.lt
   have HR:Hid (RdM (w1.setCell ⟨g,2,none⟩ (.int .i64 6)) g s (rdC s st).2∧Kp [g] W (w1.setCell ⟨g,2,none⟩ (.int .i64 6))):=hid ⟨by rw[e2];exact⟨_,6,hb.set_ 2 _,show(6:Int)≠0 by decide⟩,hk1.setCell (.inl (by simp)) _⟩
   clear hb hk1 e1 e2 HC HI HT
   go_wp2
   go_meet
   case rel=>exact⟨rfl,HR⟩
  ·have HR:Hid (RdM w1 g s (rdC s st).2∧Kp [g] W w1):=hid (by rw[e2];exact H1.out)
   clear e2 HC HI HT
   go_wp2
   go_meet
   case rel=>exact⟨rfl,HR⟩
 case rest=>
  obtain⟨rfl,HR⟩:=hcut
  have HI0:Hid (∃xs sj,ItI W g s st one (fun x:Nat=>x) flC (atN) 23 1 0 (.slice none 0 0) wc xs sj):=hid ⟨[],_,ItI.start HR.out.1 HR.out.2⟩
  clear HR HC HI
  go_wp2
  go_loopg [6,7] (N.toNat+1) (fun gg s6 s7 wr=> ∃(j:Nat) (p:Option Addr) (c:Nat),N.toNat+1-j≤gg∧j≤N.toNat∧s6= .slice p j c∧s7= .int .i64 j∧Hid (∃xs sj,ItI W g s st one (fun x:Nat=>x) flC (atN) 23 1 j (.slice p j c) wr xs sj))
  case atStart=>exact⟨0,none,0,by omega,by omega,rfl,rfl,HI0⟩
  case round=>
   obtain⟨j,p,c,hgg,hj,rfl,rfl,HI⟩:=hrel
   obtain⟨xs,sj,hI⟩:=HI.out
   by_cases hjn:(j:Int)<N
   ·cases sj with
    |none=>
     have HF:=hid (hI.fin (.inl rfl))
     obtain⟨aa,ee,hb,hr⟩:=hI.rd
     have hne:(ee==0)=false:=by simpa[RdS]using hr
     have c2:wr.cell? ⟨g,2,none⟩=some (.int .i64 ee):=hb.cell 2
     clear hb hr hI HI
     go_wp2
     go_ret
     exact HF.out
    |some n=>
     have hN48:=hI.few (by simp)
     rw[←HN.out]at hN48
     have hj48:j<48:=by omega
     have HG:=hid (HD.out.1.go wr n hI.rd (HD.out.2.1.trans hI.kp))
     have HX:=hid hI
     obtain⟨aa,ee,hb,rfl,rfl,_⟩:=hI.rd
     have c2:wr.cell? ⟨g,2,none⟩=some (.int .i64 0):=hb.cell 2
     have hji:(j:Int)≤48:=by omega
     have HJ:=hid hjn
     clear hI HI hN48
     go_wp2_with fail
     (with_reducible refine HG.out.mono ?_)
     rintro r w1 ⟨x,rfl,hx,hab,hr1,hk1⟩
     have ho1:=qV HX.out.own hb (by decide) hk1
     have H1:=hid (⟨hx,hab,hr1,hk1,ho1⟩:_∧_∧_∧_∧_)
     clear hx hab hr1 hk1 ho1 hb c2
     go_wp2_with (with_reducible refine yd .append rfl ?_)
     with_reducible refine ki ?_
     refine zO rfl _ _ 24 rfl flC aRM Tryz.underlying24 rfl (by decide) (by decide) Ya aaq x H1.out.2.2.2.2 (by omega) (Nat.le_trans HX.out.kp.size H1.out.2.2.2.1.size) rfl rfl ?_
     intro v3 w3 ho3 hk3 _
     obtain⟨p3,c3,rfl⟩:=zm ho3
     have HF:Hid (∃xs sj,ItI W g s st one (fun x:Nat=>x) flC (atN) 23 1 (j+1) (.slice p3 (j+1) c3) w3 xs sj):=hid ⟨_,_,HX.out.next (KL _ _) (by have:=HJ.out;rw[←HN.out];omega) H1.out.1 H1.out.2.1 H1.out.2.2.1 H1.out.2.2.2.1 (by decide) H1.out.2.2.2.2 ho3 hk3⟩
     clear ho3 hk3
     go_wp2
     go_roundg (N.toNat+1- (j+1))
     case measure=>have:=HJ.out;omega
     case rel=>exact⟨j+1,p3,c3,by omega,by have:=HJ.out;omega,rfl,by go_num,HF⟩
   ·have HF:=hid (hI.fin (.inr (by rw[←HN.out];omega)))
    clear hI HI
    go_wp2
    go_ret
    exact HF.out
theorem aRR:(Tryz.prog.info? 3).map (fun i=>(i.zero,i.size,i.bytes))=some (some (.int .i64 0),1,8):=by kernel_rfl
theorem abH {W0 W:World} {g df:Nat} {s:Bs} {st:Option Nat} {fa ca:Array Value} {one:Rd (Int)} (hD:RdD W0 g s df (fa++ca) one (fun x:Int=>x) (fun x:Int=>Value.int .i64 x) (atN)) (h:RdM W g s st) (h0:Kp [g] W0 W) (hs:s.length≤1000000):
  Calls Tryz.prog 97 #[.pointer (some ⟨g,0,none⟩),.func (.func df) fa ca] W (ItP W g s st one (fun x:Int=>x) wdC (atN) 3 1):=by
 obtain⟨N,hN⟩: ∃N,N=(rdC s st).1:=⟨_,rfl⟩
 have hNI:=kM s st
 have HI:=hid (zH h hs)
 rw[←hNI,←hN]at HI
 have HN:=hid hN
 have HD:=hid (⟨hD,h0,hs⟩:_∧_∧_)
 have hen:=hD.en
 have HC:Hid ((rdI s st).2=none∧(rdC s st).2=none∨(∃a,(rdI s st).2=some a∧0≤N∧N≤48∧(rdC s st).2=some a)∨ ∃a,(rdI s st).2=some a∧(N<0∨ ¬N<0∧48<N)∧(rdC s st).2=none):=hid (by
  rw[hN,hNI]
  unfold rdC
  cases e:(rdI s st).2 with
  |none=>exact .inl ⟨rfl,rfl⟩
  |some a=>
   by_cases h:0≤(rdI s st).1∧(rdI s st).1≤48
   ·exact .inr (.inl ⟨a,rfl,h.1,h.2,by simp only[];rw[if_pos h]⟩)
   ·exact .inr (.inr ⟨a,rfl,by omega,by simp only[];rw[if_neg h]⟩))
 clear hD h h0 hs hN hNI
 go_enter Tryz.func97,Tryz.ntmps97
 go_upto_region 2 with((with_reducible refine HI.out.mono ?_);rintro r w1 ⟨rfl,hr1,hk1⟩)
 have H1:=hid (⟨hr1,hk1⟩:_∧_)
 clear hr1 hk1
 go_cut [22]from 10 to 22 (fun s22 wc=> ∃tb:Bool,s22= .bool tb∧w1=wc∧Hid (tb=true∧(rdC s st).2=none∧(∃a,(rdI s st).2=some a)∨tb=false∧(rdC s st).2=(rdI s st).2))
 case first=>
  rcases HC.out with⟨e1,e2⟩ | ⟨a,e1,n0,n1,e2⟩ | ⟨a,e1,nn,e2⟩
  ·obtain⟨hr1,hk1⟩:=H1.out
   rw[e1]at hr1
   obtain⟨aa,ee,hb,hr⟩:=hr1
   have hne:(ee==0)=false:=by simpa[RdS]using hr
   have c2:w1.cell? ⟨g,2,none⟩=some (.int .i64 ee):=hb.cell 2
   have HE:=hid (e2.trans e1.symm)
   clear hb hr hk1 e1 e2 HC HI
   go_wp2
   go_meet
   case rel=>exact⟨false,rfl,rfl,hid (.inr ⟨rfl,HE.out⟩)⟩
  ·obtain⟨hr1,hk1⟩:=H1.out
   rw[e1]at hr1
   obtain⟨aa,ee,hb,rfl,rfl,_⟩:=hr1
   have c2:w1.cell? ⟨g,2,none⟩=some (.int .i64 0):=hb.cell 2
   have t1: ¬N<0:=by omega
   have t2: ¬48<N:=by omega
   have HE:=hid (e2.trans e1.symm)
   clear hb hk1 e1 e2 n0 n1 HC HI
   go_wp2
   go_meet
   case rel=>exact⟨false,rfl,rfl,hid (.inr ⟨rfl,HE.out⟩)⟩
  ·obtain⟨hr1,hk1⟩:=H1.out
   rw[e1]at hr1
   obtain⟨aa,ee,hb,rfl,rfl,_⟩:=hr1
   have c2:w1.cell? ⟨g,2,none⟩=some (.int .i64 0):=hb.cell 2
   have HE:=hid (⟨e2,_,e1⟩:_∧ ∃a,(rdI s st).2=some a)
   clear hb hk1 e1 e2 HC HI
   rcases nn with t1| ⟨t1,t2⟩
   all_goals
    go_wp2
    go_meet
    case rel=>exact⟨true,rfl,rfl,hid (.inl ⟨rfl,HE.out⟩)⟩
 case rest=>
 obtain⟨tb,rfl,rfl,HT⟩:=hcut
 go_upto_if 22 with fail
 go_cut [5]from 22 to 25 (fun s5 wc=>s5= .int .i64 N∧Hid (RdM wc g s (rdC s st).2∧Kp [g] W wc))
 case first=>
  rcases HT.out with⟨rfl,e2,a,e1⟩ | ⟨rfl,e2⟩
  ·obtain⟨hr1,hk1⟩:=H1.out
   rw[e1]at hr1
   obtain⟨aa,ee,hb,rfl,rfl,_⟩:=hr1
   have c2:w1.cell? ⟨g,2,none⟩=some (.int .i64 0):=hb.cell 2
   have f2:=hb.frozen 2
   have l2:=hb.lt
   have HR:Hid (RdM (w1.setCell ⟨g,2,none⟩ (.int .i64 6)) g s (rdC s st).2∧Kp [g] W (w1.setCell ⟨g,2,none⟩ (.int .i64 6))):=hid ⟨by rw[e2];exact⟨_,6,hb.set_ 2 _,show(6:Int)≠0 by decide⟩,hk1.setCell (.inl (by simp)) _⟩
   clear hb hk1 e1 e2 HC HI HT
   go_wp2
   go_meet
   case rel=>exact⟨rfl,HR⟩
  ·have HR:Hid (RdM w1 g s (rdC s st).2∧Kp [g] W w1):=hid (by rw[e2];exact H1.out)
   clear e2 HC HI HT
   go_wp2
   go_meet
   case rel=>exact⟨rfl,HR⟩
 case rest=>
  obtain⟨rfl,HR⟩:=hcut
  have HI0:Hid (∃xs sj,ItI W g s st one (fun x:Int=>x) wdC (atN) 3 1 0 (.slice none 0 0) wc xs sj):=hid ⟨[],_,ItI.start HR.out.1 HR.out.2⟩
  clear HR HC HI
  go_wp2
  go_loopg [6,7] (N.toNat+1) (fun gg s6 s7 wr=> ∃(j:Nat) (p:Option Addr) (c:Nat),N.toNat+1-j≤gg∧j≤N.toNat∧s6= .slice p j c∧s7= .int .i64 j∧Hid (∃xs sj,ItI W g s st one (fun x:Int=>x) wdC (atN) 3 1 j (.slice p j c) wr xs sj))
  case atStart=>exact⟨0,none,0,by omega,by omega,rfl,rfl,HI0⟩
  case round=>
   obtain⟨j,p,c,hgg,hj,rfl,rfl,HI⟩:=hrel
   obtain⟨xs,sj,hI⟩:=HI.out
   by_cases hjn:(j:Int)<N
   ·cases sj with
    |none=>
     have HF:=hid (hI.fin (.inl rfl))
     obtain⟨aa,ee,hb,hr⟩:=hI.rd
     have hne:(ee==0)=false:=by simpa[RdS]using hr
     have c2:wr.cell? ⟨g,2,none⟩=some (.int .i64 ee):=hb.cell 2
     clear hb hr hI HI
     go_wp2
     go_ret
     exact HF.out
    |some n=>
     have hN48:=hI.few (by simp)
     rw[←HN.out]at hN48
     have hj48:j<48:=by omega
     have HG:=hid (HD.out.1.go wr n hI.rd (HD.out.2.1.trans hI.kp))
     have HX:=hid hI
     obtain⟨aa,ee,hb,rfl,rfl,_⟩:=hI.rd
     have c2:wr.cell? ⟨g,2,none⟩=some (.int .i64 0):=hb.cell 2
     have hji:(j:Int)≤48:=by omega
     have HJ:=hid hjn
     clear hI HI hN48
     go_wp2_with fail
     (with_reducible refine HG.out.mono ?_)
     rintro r w1 ⟨x,rfl,hx,hab,hr1,hk1⟩
     have ho1:=qV HX.out.own hb (by decide) hk1
     have H1:=hid (⟨hx,hab,hr1,hk1,ho1⟩:_∧_∧_∧_∧_)
     clear hx hab hr1 hk1 ho1 hb c2
     go_wp2_with (with_reducible refine yd .append rfl ?_)
     with_reducible refine ki ?_
     refine zO rfl _ _ 86 rfl wdC aRR Tryz.underlying86 rfl (by decide) (by decide) YG aba x H1.out.2.2.2.2 (by omega) (Nat.le_trans HX.out.kp.size H1.out.2.2.2.1.size) rfl rfl ?_
     intro v3 w3 ho3 hk3 _
     obtain⟨p3,c3,rfl⟩:=zm ho3
     have HF:Hid (∃xs sj,ItI W g s st one (fun x:Int=>x) wdC (atN) 3 1 (j+1) (.slice p3 (j+1) c3) w3 xs sj):=hid ⟨_,_,HX.out.next (KL _ _) (by have:=HJ.out;rw[←HN.out];omega) H1.out.1 H1.out.2.1 H1.out.2.2.1 H1.out.2.2.2.1 (by decide) H1.out.2.2.2.2 ho3 hk3⟩
     clear ho3 hk3
     go_wp2
     go_roundg (N.toNat+1- (j+1))
     case measure=>have:=HJ.out;omega
     case rel=>exact⟨j+1,p3,c3,by omega,by have:=HJ.out;omega,rfl,by go_num,HF⟩
   ·have HF:=hid (hI.fin (.inr (by rw[←HN.out];omega)))
    clear hI HI
    go_wp2
    go_ret
    exact HF.out
theorem aRP:(Tryz.prog.info? 84).map (fun i=>(i.zero,i.size,i.bytes))=some (some (.agg #[.int .i64 0,.int .i64 0,.int .i64 0,.int .i64 0]),4,32):=by kernel_rfl
theorem abF {W0 W:World} {g df:Nat} {s:Bs} {st:Option Nat} {fa ca:Array Value} {one:Rd (In)} (hD:RdD W0 g s df (fa++ca) one (fun x:In=>x) (fun x:In=>Value.agg #[.int .i64 x.op,.int .i64 x.a,.int .i64 x.b,.int .i64 x.c]) (atN)) (h:RdM W g s st) (h0:Kp [g] W0 W) (hs:s.length≤1000000):
  Calls Tryz.prog 94 #[.pointer (some ⟨g,0,none⟩),.func (.func df) fa ca] W (ItP W g s st one (fun x:In=>x) inC (atN) 84 4):=by
 obtain⟨N,hN⟩: ∃N,N=(rdC s st).1:=⟨_,rfl⟩
 have hNI:=kM s st
 have HI:=hid (zH h hs)
 rw[←hNI,←hN]at HI
 have HN:=hid hN
 have HD:=hid (⟨hD,h0,hs⟩:_∧_∧_)
 have hen:=hD.en
 have HC:Hid ((rdI s st).2=none∧(rdC s st).2=none∨(∃a,(rdI s st).2=some a∧0≤N∧N≤48∧(rdC s st).2=some a)∨ ∃a,(rdI s st).2=some a∧(N<0∨ ¬N<0∧48<N)∧(rdC s st).2=none):=hid (by
  rw[hN,hNI]
  unfold rdC
  cases e:(rdI s st).2 with
  |none=>exact .inl ⟨rfl,rfl⟩
  |some a=>
   by_cases h:0≤(rdI s st).1∧(rdI s st).1≤48
   ·exact .inr (.inl ⟨a,rfl,h.1,h.2,by simp only[];rw[if_pos h]⟩)
   ·exact .inr (.inr ⟨a,rfl,by omega,by simp only[];rw[if_neg h]⟩))
 clear hD h h0 hs hN hNI
 go_enter Tryz.func94,Tryz.ntmps94
 go_upto_region 2 with((with_reducible refine HI.out.mono ?_);rintro r w1 ⟨rfl,hr1,hk1⟩)
 have H1:=hid (⟨hr1,hk1⟩:_∧_)
 clear hr1 hk1
 go_cut [22]from 10 to 22 (fun s22 wc=> ∃tb:Bool,s22= .bool tb∧w1=wc∧Hid (tb=true∧(rdC s st).2=none∧(∃a,(rdI s st).2=some a)∨tb=false∧(rdC s st).2=(rdI s st).2))
 case first=>
  rcases HC.out with⟨e1,e2⟩ | ⟨a,e1,n0,n1,e2⟩ | ⟨a,e1,nn,e2⟩
  ·obtain⟨hr1,hk1⟩:=H1.out
   rw[e1]at hr1
   obtain⟨aa,ee,hb,hr⟩:=hr1
   have hne:(ee==0)=false:=by simpa[RdS]using hr
   have c2:w1.cell? ⟨g,2,none⟩=some (.int .i64 ee):=hb.cell 2
   have HE:=hid (e2.trans e1.symm)
   clear hb hr hk1 e1 e2 HC HI
   go_wp2
   go_meet
   case rel=>exact⟨false,rfl,rfl,hid (.inr ⟨rfl,HE.out⟩)⟩
  ·obtain⟨hr1,hk1⟩:=H1.out
   rw[e1]at hr1
   obtain⟨aa,ee,hb,rfl,rfl,_⟩:=hr1
   have c2:w1.cell? ⟨g,2,none⟩=some (.int .i64 0):=hb.cell 2
   have t1: ¬N<0:=by omega
   have t2: ¬48<N:=by omega
   have HE:=hid (e2.trans e1.symm)
   clear hb hk1 e1 e2 n0 n1 HC HI
   go_wp2
   go_meet
   case rel=>exact⟨false,rfl,rfl,hid (.inr ⟨rfl,HE.out⟩)⟩
  ·obtain⟨hr1,hk1⟩:=H1.out
   rw[e1]at hr1
   obtain⟨aa,ee,hb,rfl,rfl,_⟩:=hr1
   have c2:w1.cell? ⟨g,2,none⟩=some (.int .i64 0):=hb.cell 2
   have HE:=hid (⟨e2,_,e1⟩:_∧ ∃a,(rdI s st).2=some a)
   clear hb hk1 e1 e2 HC HI
   rcases nn with t1| ⟨t1,t2⟩
   all_goals
    go_wp2
    go_meet
    case rel=>exact⟨true,rfl,rfl,hid (.inl ⟨rfl,HE.out⟩)⟩
 case rest=>
 obtain⟨tb,rfl,rfl,HT⟩:=hcut
 go_upto_if 22 with fail
 go_cut [5]from 22 to 25 (fun s5 wc=>s5= .int .i64 N∧Hid (RdM wc g s (rdC s st).2∧Kp [g] W wc))
 case first=>
  rcases HT.out with⟨rfl,e2,a,e1⟩ | ⟨rfl,e2⟩
  ·obtain⟨hr1,hk1⟩:=H1.out
   rw[e1]at hr1
   obtain⟨aa,ee,hb,rfl,rfl,_⟩:=hr1
   have c2:w1.cell? ⟨g,2,none⟩=some (.int .i64 0):=hb.cell 2
   have f2:=hb.frozen 2
   have l2:=hb.lt
   have HR:Hid (RdM (w1.setCell ⟨g,2,none⟩ (.int .i64 6)) g s (rdC s st).2∧Kp [g] W (w1.setCell ⟨g,2,none⟩ (.int .i64 6))):=hid ⟨by rw[e2];exact⟨_,6,hb.set_ 2 _,show(6:Int)≠0 by decide⟩,hk1.setCell (.inl (by simp)) _⟩
   clear hb hk1 e1 e2 HC HI HT
   go_wp2
   go_meet
   case rel=>exact⟨rfl,HR⟩
  ·have HR:Hid (RdM w1 g s (rdC s st).2∧Kp [g] W w1):=hid (by rw[e2];exact H1.out)
   clear e2 HC HI HT
   go_wp2
   go_meet
   case rel=>exact⟨rfl,HR⟩
 case rest=>
  obtain⟨rfl,HR⟩:=hcut
  have HI0:Hid (∃xs sj,ItI W g s st one (fun x:In=>x) inC (atN) 84 4 0 (.slice none 0 0) wc xs sj):=hid ⟨[],_,ItI.start HR.out.1 HR.out.2⟩
  clear HR HC HI
  go_wp2
  go_loopg [6,7] (N.toNat+1) (fun gg s6 s7 wr=> ∃(j:Nat) (p:Option Addr) (c:Nat),N.toNat+1-j≤gg∧j≤N.toNat∧s6= .slice p j c∧s7= .int .i64 j∧Hid (∃xs sj,ItI W g s st one (fun x:In=>x) inC (atN) 84 4 j (.slice p j c) wr xs sj))
  case atStart=>exact⟨0,none,0,by omega,by omega,rfl,rfl,HI0⟩
  case round=>
   obtain⟨j,p,c,hgg,hj,rfl,rfl,HI⟩:=hrel
   obtain⟨xs,sj,hI⟩:=HI.out
   by_cases hjn:(j:Int)<N
   ·cases sj with
    |none=>
     have HF:=hid (hI.fin (.inl rfl))
     obtain⟨aa,ee,hb,hr⟩:=hI.rd
     have hne:(ee==0)=false:=by simpa[RdS]using hr
     have c2:wr.cell? ⟨g,2,none⟩=some (.int .i64 ee):=hb.cell 2
     clear hb hr hI HI
     go_wp2
     go_ret
     exact HF.out
    |some n=>
     have hN48:=hI.few (by simp)
     rw[←HN.out]at hN48
     have hj48:j<48:=by omega
     have HG:=hid (HD.out.1.go wr n hI.rd (HD.out.2.1.trans hI.kp))
     have HX:=hid hI
     obtain⟨aa,ee,hb,rfl,rfl,_⟩:=hI.rd
     have c2:wr.cell? ⟨g,2,none⟩=some (.int .i64 0):=hb.cell 2
     have hji:(j:Int)≤48:=by omega
     have HJ:=hid hjn
     clear hI HI hN48
     go_wp2_with fail
     (with_reducible refine HG.out.mono ?_)
     rintro r w1 ⟨x,rfl,hx,hab,hr1,hk1⟩
     have ho1:=qV HX.out.own hb (by decide) hk1
     have H1:=hid (⟨hx,hab,hr1,hk1,ho1⟩:_∧_∧_∧_∧_)
     clear hx hab hr1 hk1 ho1 hb c2
     go_wp2_with (with_reducible refine yd .append rfl ?_)
     with_reducible refine ki ?_
     refine zO rfl _ _ 85 rfl inC aRP Tryz.underlying85 rfl (by decide) (by decide) Ye aax x H1.out.2.2.2.2 (by omega) (Nat.le_trans HX.out.kp.size H1.out.2.2.2.1.size) rfl rfl ?_
     intro v3 w3 ho3 hk3 _
     obtain⟨p3,c3,rfl⟩:=zm ho3
     have HF:Hid (∃xs sj,ItI W g s st one (fun x:In=>x) inC (atN) 84 4 (j+1) (.slice p3 (j+1) c3) w3 xs sj):=hid ⟨_,_,HX.out.next (KL _ _) (by have:=HJ.out;rw[←HN.out];omega) H1.out.1 H1.out.2.1 H1.out.2.2.1 H1.out.2.2.2.1 (by decide) H1.out.2.2.2.2 ho3 hk3⟩
     clear ho3 hk3
     go_wp2
     go_roundg (N.toNat+1- (j+1))
     case measure=>have:=HJ.out;omega
     case rel=>exact⟨j+1,p3,c3,by omega,by have:=HJ.out;omega,rfl,by go_num,HF⟩
   ·have HF:=hid (hI.fin (.inr (by rw[←HN.out];omega)))
    clear hI HI
    go_wp2
    go_ret
    exact HF.out
theorem aRQ:(Tryz.prog.info? 85).map (fun i=>(i.zero,i.size,i.bytes))=some (some (.slice none 0 0),1,24):=by kernel_rfl
theorem abG {W0 W:World} {g df:Nat} {s:Bs} {st:Option Nat} {fa ca:Array Value} {one:Rd (List In)} (hD:RdD W0 g s df (fa++ca) one (Prg.l) (fun x:Prg=>Value.slice x.p x.n x.c) (atP)) (h:RdM W g s st) (h0:Kp [g] W0 W) (hs:s.length≤1000000):
  Calls Tryz.prog 92 #[.pointer (some ⟨g,0,none⟩),.func (.func df) fa ca] W (ItP W g s st one (Prg.l) prC (atP) 85 1):=by
 obtain⟨N,hN⟩: ∃N,N=(rdC s st).1:=⟨_,rfl⟩
 have hNI:=kM s st
 have HI:=hid (zH h hs)
 rw[←hNI,←hN]at HI
 have HN:=hid hN
 have HD:=hid (⟨hD,h0,hs⟩:_∧_∧_)
 have hen:=hD.en
 have HC:Hid ((rdI s st).2=none∧(rdC s st).2=none∨(∃a,(rdI s st).2=some a∧0≤N∧N≤48∧(rdC s st).2=some a)∨ ∃a,(rdI s st).2=some a∧(N<0∨ ¬N<0∧48<N)∧(rdC s st).2=none):=hid (by
  rw[hN,hNI]
  unfold rdC
  cases e:(rdI s st).2 with
  |none=>exact .inl ⟨rfl,rfl⟩
  |some a=>
   by_cases h:0≤(rdI s st).1∧(rdI s st).1≤48
   ·exact .inr (.inl ⟨a,rfl,h.1,h.2,by simp only[];rw[if_pos h]⟩)
   ·exact .inr (.inr ⟨a,rfl,by omega,by simp only[];rw[if_neg h]⟩))
 clear hD h h0 hs hN hNI
 go_enter Tryz.func92,Tryz.ntmps92
 go_upto_region 2 with((with_reducible refine HI.out.mono ?_);rintro r w1 ⟨rfl,hr1,hk1⟩)
 have H1:=hid (⟨hr1,hk1⟩:_∧_)
 clear hr1 hk1
 go_cut [22]from 10 to 22 (fun s22 wc=> ∃tb:Bool,s22= .bool tb∧w1=wc∧Hid (tb=true∧(rdC s st).2=none∧(∃a,(rdI s st).2=some a)∨tb=false∧(rdC s st).2=(rdI s st).2))
 case first=>
  rcases HC.out with⟨e1,e2⟩ | ⟨a,e1,n0,n1,e2⟩ | ⟨a,e1,nn,e2⟩
  ·obtain⟨hr1,hk1⟩:=H1.out
   rw[e1]at hr1
   obtain⟨aa,ee,hb,hr⟩:=hr1
   have hne:(ee==0)=false:=by simpa[RdS]using hr
   have c2:w1.cell? ⟨g,2,none⟩=some (.int .i64 ee):=hb.cell 2
   have HE:=hid (e2.trans e1.symm)
   clear hb hr hk1 e1 e2 HC HI
   go_wp2
   go_meet
   case rel=>exact⟨false,rfl,rfl,hid (.inr ⟨rfl,HE.out⟩)⟩
  ·obtain⟨hr1,hk1⟩:=H1.out
   rw[e1]at hr1
   obtain⟨aa,ee,hb,rfl,rfl,_⟩:=hr1
   have c2:w1.cell? ⟨g,2,none⟩=some (.int .i64 0):=hb.cell 2
   have t1: ¬N<0:=by omega
   have t2: ¬48<N:=by omega
   have HE:=hid (e2.trans e1.symm)
   clear hb hk1 e1 e2 n0 n1 HC HI
   go_wp2
   go_meet
   case rel=>exact⟨false,rfl,rfl,hid (.inr ⟨rfl,HE.out⟩)⟩
  ·obtain⟨hr1,hk1⟩:=H1.out
   rw[e1]at hr1
   obtain⟨aa,ee,hb,rfl,rfl,_⟩:=hr1
   have c2:w1.cell? ⟨g,2,none⟩=some (.int .i64 0):=hb.cell 2
   have HE:=hid (⟨e2,_,e1⟩:_∧ ∃a,(rdI s st).2=some a)
   clear hb hk1 e1 e2 HC HI
   rcases nn with t1| ⟨t1,t2⟩
   all_goals
    go_wp2
    go_meet
    case rel=>exact⟨true,rfl,rfl,hid (.inl ⟨rfl,HE.out⟩)⟩
 case rest=>
 obtain⟨tb,rfl,rfl,HT⟩:=hcut
 go_upto_if 22 with fail
 go_cut [5]from 22 to 25 (fun s5 wc=>s5= .int .i64 N∧Hid (RdM wc g s (rdC s st).2∧Kp [g] W wc))
 case first=>
  rcases HT.out with⟨rfl,e2,a,e1⟩ | ⟨rfl,e2⟩
  ·obtain⟨hr1,hk1⟩:=H1.out
   rw[e1]at hr1
   obtain⟨aa,ee,hb,rfl,rfl,_⟩:=hr1
   have c2:w1.cell? ⟨g,2,none⟩=some (.int .i64 0):=hb.cell 2
   have f2:=hb.frozen 2
   have l2:=hb.lt
   have HR:Hid (RdM (w1.setCell ⟨g,2,none⟩ (.int .i64 6)) g s (rdC s st).2∧Kp [g] W (w1.setCell ⟨g,2,none⟩ (.int .i64 6))):=hid ⟨by rw[e2];exact⟨_,6,hb.set_ 2 _,show(6:Int)≠0 by decide⟩,hk1.setCell (.inl (by simp)) _⟩
   clear hb hk1 e1 e2 HC HI HT
   go_wp2
   go_meet
   case rel=>exact⟨rfl,HR⟩
  ·have HR:Hid (RdM w1 g s (rdC s st).2∧Kp [g] W w1):=hid (by rw[e2];exact H1.out)
   clear e2 HC HI HT
   go_wp2
   go_meet
   case rel=>exact⟨rfl,HR⟩
 case rest=>
  obtain⟨rfl,HR⟩:=hcut
  have HI0:Hid (∃xs sj,ItI W g s st one (Prg.l) prC (atP) 85 1 0 (.slice none 0 0) wc xs sj):=hid ⟨[],_,ItI.start HR.out.1 HR.out.2⟩
  clear HR HC HI
  go_wp2
  go_loopg [6,7] (N.toNat+1) (fun gg s6 s7 wr=> ∃(j:Nat) (p:Option Addr) (c:Nat),N.toNat+1-j≤gg∧j≤N.toNat∧s6= .slice p j c∧s7= .int .i64 j∧Hid (∃xs sj,ItI W g s st one (Prg.l) prC (atP) 85 1 j (.slice p j c) wr xs sj))
  case atStart=>exact⟨0,none,0,by omega,by omega,rfl,rfl,HI0⟩
  case round=>
   obtain⟨j,p,c,hgg,hj,rfl,rfl,HI⟩:=hrel
   obtain⟨xs,sj,hI⟩:=HI.out
   by_cases hjn:(j:Int)<N
   ·cases sj with
    |none=>
     have HF:=hid (hI.fin (.inl rfl))
     obtain⟨aa,ee,hb,hr⟩:=hI.rd
     have hne:(ee==0)=false:=by simpa[RdS]using hr
     have c2:wr.cell? ⟨g,2,none⟩=some (.int .i64 ee):=hb.cell 2
     clear hb hr hI HI
     go_wp2
     go_ret
     exact HF.out
    |some n=>
     have hN48:=hI.few (by simp)
     rw[←HN.out]at hN48
     have hj48:j<48:=by omega
     have HG:=hid (HD.out.1.go wr n hI.rd (HD.out.2.1.trans hI.kp))
     have HX:=hid hI
     obtain⟨aa,ee,hb,rfl,rfl,_⟩:=hI.rd
     have c2:wr.cell? ⟨g,2,none⟩=some (.int .i64 0):=hb.cell 2
     have hji:(j:Int)≤48:=by omega
     have HJ:=hid hjn
     clear hI HI hN48
     go_wp2_with fail
     (with_reducible refine HG.out.mono ?_)
     rintro r w1 ⟨x,rfl,hx,hab,hr1,hk1⟩
     have ho1:=qV HX.out.own hb (by decide) hk1
     have H1:=hid (⟨hx,hab,hr1,hk1,ho1⟩:_∧_∧_∧_∧_)
     clear hx hab hr1 hk1 ho1 hb c2
     go_wp2_with (with_reducible refine yd .append rfl ?_)
     with_reducible refine ki ?_
     refine zO rfl _ _ 25 rfl prC aRQ Tryz.underlying25 rfl (by decide) (by decide) Yu aaS x H1.out.2.2.2.2 (by omega) (Nat.le_trans HX.out.kp.size H1.out.2.2.2.1.size) rfl rfl ?_
     intro v3 w3 ho3 hk3 _
     obtain⟨p3,c3,rfl⟩:=zm ho3
     have HF:Hid (∃xs sj,ItI W g s st one (Prg.l) prC (atP) 85 1 (j+1) (.slice p3 (j+1) c3) w3 xs sj):=hid ⟨_,_,HX.out.next acr (by have:=HJ.out;rw[←HN.out];omega) H1.out.1 H1.out.2.1 H1.out.2.2.1 H1.out.2.2.2.1 (by decide) H1.out.2.2.2.2 ho3 hk3⟩
     clear ho3 hk3
     go_wp2
     go_roundg (N.toNat+1- (j+1))
     case measure=>have:=HJ.out;omega
     case rel=>exact⟨j+1,p3,c3,by omega,by have:=HJ.out;omega,rfl,by go_num,HF⟩
   ·have HF:=hid (hI.fin (.inr (by rw[←HN.out];omega)))
    clear hI HI
    go_wp2
    go_ret
    exact HF.out
theorem aRO:(Tryz.prog.info? 88).map (fun i=>(i.zero,i.size,i.bytes))=some (some (.agg #[.int .i64 0,.slice none 0 0]),2,32):=by kernel_rfl
theorem abE {W0 W:World} {g df:Nat} {s:Bs} {st:Option Nat} {fa ca:Array Value} {one:Rd (Int×List Int)} (hD:RdD W0 g s df (fa++ca) one (fun x:LpR=>(x.k,x.l)) (fun x:LpR=>Value.agg #[.int .i64 x.k,.slice x.p x.n x.c]) (atL)) (h:RdM W g s st) (h0:Kp [g] W0 W) (hs:s.length≤1000000):
  Calls Tryz.prog 95 #[.pointer (some ⟨g,0,none⟩),.func (.func df) fa ca] W (ItP W g s st one (fun x:LpR=>(x.k,x.l)) lpC (atL) 88 2):=by
 obtain⟨N,hN⟩: ∃N,N=(rdC s st).1:=⟨_,rfl⟩
 have hNI:=kM s st
 have HI:=hid (zH h hs)
 rw[←hNI,←hN]at HI
 have HN:=hid hN
 have HD:=hid (⟨hD,h0,hs⟩:_∧_∧_)
 have hen:=hD.en
 have HC:Hid ((rdI s st).2=none∧(rdC s st).2=none∨(∃a,(rdI s st).2=some a∧0≤N∧N≤48∧(rdC s st).2=some a)∨ ∃a,(rdI s st).2=some a∧(N<0∨ ¬N<0∧48<N)∧(rdC s st).2=none):=hid (by
  rw[hN,hNI]
  unfold rdC
  cases e:(rdI s st).2 with
  |none=>exact .inl ⟨rfl,rfl⟩
  |some a=>
   by_cases h:0≤(rdI s st).1∧(rdI s st).1≤48
   ·exact .inr (.inl ⟨a,rfl,h.1,h.2,by simp only[];rw[if_pos h]⟩)
   ·exact .inr (.inr ⟨a,rfl,by omega,by simp only[];rw[if_neg h]⟩))
 clear hD h h0 hs hN hNI
 go_enter Tryz.func95,Tryz.ntmps95
 go_upto_region 2 with((with_reducible refine HI.out.mono ?_);rintro r w1 ⟨rfl,hr1,hk1⟩)
 have H1:=hid (⟨hr1,hk1⟩:_∧_)
 clear hr1 hk1
 go_cut [22]from 10 to 22 (fun s22 wc=> ∃tb:Bool,s22= .bool tb∧w1=wc∧Hid (tb=true∧(rdC s st).2=none∧(∃a,(rdI s st).2=some a)∨tb=false∧(rdC s st).2=(rdI s st).2))
 case first=>
  rcases HC.out with⟨e1,e2⟩ | ⟨a,e1,n0,n1,e2⟩ | ⟨a,e1,nn,e2⟩
  ·obtain⟨hr1,hk1⟩:=H1.out
   rw[e1]at hr1
   obtain⟨aa,ee,hb,hr⟩:=hr1
   have hne:(ee==0)=false:=by simpa[RdS]using hr
   have c2:w1.cell? ⟨g,2,none⟩=some (.int .i64 ee):=hb.cell 2
   have HE:=hid (e2.trans e1.symm)
   clear hb hr hk1 e1 e2 HC HI
   go_wp2
   go_meet
   case rel=>exact⟨false,rfl,rfl,hid (.inr ⟨rfl,HE.out⟩)⟩
  ·obtain⟨hr1,hk1⟩:=H1.out
   rw[e1]at hr1
   obtain⟨aa,ee,hb,rfl,rfl,_⟩:=hr1
   have c2:w1.cell? ⟨g,2,none⟩=some (.int .i64 0):=hb.cell 2
   have t1: ¬N<0:=by omega
   have t2: ¬48<N:=by omega
   have HE:=hid (e2.trans e1.symm)
   clear hb hk1 e1 e2 n0 n1 HC HI
   go_wp2
   go_meet
   case rel=>exact⟨false,rfl,rfl,hid (.inr ⟨rfl,HE.out⟩)⟩
  ·obtain⟨hr1,hk1⟩:=H1.out
   rw[e1]at hr1
   obtain⟨aa,ee,hb,rfl,rfl,_⟩:=hr1
   have c2:w1.cell? ⟨g,2,none⟩=some (.int .i64 0):=hb.cell 2
   have HE:=hid (⟨e2,_,e1⟩:_∧ ∃a,(rdI s st).2=some a)
   clear hb hk1 e1 e2 HC HI
   rcases nn with t1| ⟨t1,t2⟩
   all_goals
    go_wp2
    go_meet
    case rel=>exact⟨true,rfl,rfl,hid (.inl ⟨rfl,HE.out⟩)⟩
 case rest=>
 obtain⟨tb,rfl,rfl,HT⟩:=hcut
 go_upto_if 22 with fail
 go_cut [5]from 22 to 25 (fun s5 wc=>s5= .int .i64 N∧Hid (RdM wc g s (rdC s st).2∧Kp [g] W wc))
 case first=>
  rcases HT.out with⟨rfl,e2,a,e1⟩ | ⟨rfl,e2⟩
  ·obtain⟨hr1,hk1⟩:=H1.out
   rw[e1]at hr1
   obtain⟨aa,ee,hb,rfl,rfl,_⟩:=hr1
   have c2:w1.cell? ⟨g,2,none⟩=some (.int .i64 0):=hb.cell 2
   have f2:=hb.frozen 2
   have l2:=hb.lt
   have HR:Hid (RdM (w1.setCell ⟨g,2,none⟩ (.int .i64 6)) g s (rdC s st).2∧Kp [g] W (w1.setCell ⟨g,2,none⟩ (.int .i64 6))):=hid ⟨by rw[e2];exact⟨_,6,hb.set_ 2 _,show(6:Int)≠0 by decide⟩,hk1.setCell (.inl (by simp)) _⟩
   clear hb hk1 e1 e2 HC HI HT
   go_wp2
   go_meet
   case rel=>exact⟨rfl,HR⟩
  ·have HR:Hid (RdM w1 g s (rdC s st).2∧Kp [g] W w1):=hid (by rw[e2];exact H1.out)
   clear e2 HC HI HT
   go_wp2
   go_meet
   case rel=>exact⟨rfl,HR⟩
 case rest=>
  obtain⟨rfl,HR⟩:=hcut
  have HI0:Hid (∃xs sj,ItI W g s st one (fun x:LpR=>(x.k,x.l)) lpC (atL) 88 2 0 (.slice none 0 0) wc xs sj):=hid ⟨[],_,ItI.start HR.out.1 HR.out.2⟩
  clear HR HC HI
  go_wp2
  go_loopg [6,7] (N.toNat+1) (fun gg s6 s7 wr=> ∃(j:Nat) (p:Option Addr) (c:Nat),N.toNat+1-j≤gg∧j≤N.toNat∧s6= .slice p j c∧s7= .int .i64 j∧Hid (∃xs sj,ItI W g s st one (fun x:LpR=>(x.k,x.l)) lpC (atL) 88 2 j (.slice p j c) wr xs sj))
  case atStart=>exact⟨0,none,0,by omega,by omega,rfl,rfl,HI0⟩
  case round=>
   obtain⟨j,p,c,hgg,hj,rfl,rfl,HI⟩:=hrel
   obtain⟨xs,sj,hI⟩:=HI.out
   by_cases hjn:(j:Int)<N
   ·cases sj with
    |none=>
     have HF:=hid (hI.fin (.inl rfl))
     obtain⟨aa,ee,hb,hr⟩:=hI.rd
     have hne:(ee==0)=false:=by simpa[RdS]using hr
     have c2:wr.cell? ⟨g,2,none⟩=some (.int .i64 ee):=hb.cell 2
     clear hb hr hI HI
     go_wp2
     go_ret
     exact HF.out
    |some n=>
     have hN48:=hI.few (by simp)
     rw[←HN.out]at hN48
     have hj48:j<48:=by omega
     have HG:=hid (HD.out.1.go wr n hI.rd (HD.out.2.1.trans hI.kp))
     have HX:=hid hI
     obtain⟨aa,ee,hb,rfl,rfl,_⟩:=hI.rd
     have c2:wr.cell? ⟨g,2,none⟩=some (.int .i64 0):=hb.cell 2
     have hji:(j:Int)≤48:=by omega
     have HJ:=hid hjn
     clear hI HI hN48
     go_wp2_with fail
     (with_reducible refine HG.out.mono ?_)
     rintro r w1 ⟨x,rfl,hx,hab,hr1,hk1⟩
     have ho1:=qV HX.out.own hb (by decide) hk1
     have H1:=hid (⟨hx,hab,hr1,hk1,ho1⟩:_∧_∧_∧_∧_)
     clear hx hab hr1 hk1 ho1 hb c2
     go_wp2_with (with_reducible refine yd .append rfl ?_)
     with_reducible refine ki ?_
     refine zO rfl _ _ 26 rfl lpC aRO Tryz.underlying26 rfl (by decide) (by decide) Yg aaF x H1.out.2.2.2.2 (by omega) (Nat.le_trans HX.out.kp.size H1.out.2.2.2.1.size) rfl rfl ?_
     intro v3 w3 ho3 hk3 _
     obtain⟨p3,c3,rfl⟩:=zm ho3
     have HF:Hid (∃xs sj,ItI W g s st one (fun x:LpR=>(x.k,x.l)) lpC (atL) 88 2 (j+1) (.slice p3 (j+1) c3) w3 xs sj):=hid ⟨_,_,HX.out.next acq (by have:=HJ.out;rw[←HN.out];omega) H1.out.1 H1.out.2.1 H1.out.2.2.1 H1.out.2.2.2.1 (by decide) H1.out.2.2.2.2 ho3 hk3⟩
     clear ho3 hk3
     go_wp2
     go_roundg (N.toNat+1- (j+1))
     case measure=>have:=HJ.out;omega
     case rel=>exact⟨j+1,p3,c3,by omega,by have:=HJ.out;omega,rfl,by go_num,HF⟩
   ·have HF:=hid (hI.fin (.inr (by rw[←HN.out];omega)))
    clear hI HI
    go_wp2
    go_ret
    exact HF.out
theorem aRN:(Tryz.prog.info? 90).map (fun i=>(i.zero,i.size,i.bytes))=some (some (.agg #[.float .f64 0,.int .i64 0,.int .i64 0]),3,24):=by kernel_rfl
theorem abD {W0 W:World} {g df:Nat} {s:Bs} {st:Option Nat} {fa ca:Array Value} {one:Rd (Ini)} (hD:RdD W0 g s df (fa++ca) one (fun x:Ini=>x) (fun x:Ini=>Value.agg #[.float .f64 x.t,.int .i64 x.dst,.int .i64 x.pay]) (atN)) (h:RdM W g s st) (h0:Kp [g] W0 W) (hs:s.length≤1000000):
  Calls Tryz.prog 98 #[.pointer (some ⟨g,0,none⟩),.func (.func df) fa ca] W (ItP W g s st one (fun x:Ini=>x) aay (atN) 90 3):=by
 obtain⟨N,hN⟩: ∃N,N=(rdC s st).1:=⟨_,rfl⟩
 have hNI:=kM s st
 have HI:=hid (zH h hs)
 rw[←hNI,←hN]at HI
 have HN:=hid hN
 have HD:=hid (⟨hD,h0,hs⟩:_∧_∧_)
 have hen:=hD.en
 have HC:Hid ((rdI s st).2=none∧(rdC s st).2=none∨(∃a,(rdI s st).2=some a∧0≤N∧N≤48∧(rdC s st).2=some a)∨ ∃a,(rdI s st).2=some a∧(N<0∨ ¬N<0∧48<N)∧(rdC s st).2=none):=hid (by
  rw[hN,hNI]
  unfold rdC
  cases e:(rdI s st).2 with
  |none=>exact .inl ⟨rfl,rfl⟩
  |some a=>
   by_cases h:0≤(rdI s st).1∧(rdI s st).1≤48
   ·exact .inr (.inl ⟨a,rfl,h.1,h.2,by simp only[];rw[if_pos h]⟩)
   ·exact .inr (.inr ⟨a,rfl,by omega,by simp only[];rw[if_neg h]⟩))
 clear hD h h0 hs hN hNI
 go_enter Tryz.func98,Tryz.ntmps98
 go_upto_region 2 with((with_reducible refine HI.out.mono ?_);rintro r w1 ⟨rfl,hr1,hk1⟩)
 have H1:=hid (⟨hr1,hk1⟩:_∧_)
 clear hr1 hk1
 go_cut [22]from 10 to 22 (fun s22 wc=> ∃tb:Bool,s22= .bool tb∧w1=wc∧Hid (tb=true∧(rdC s st).2=none∧(∃a,(rdI s st).2=some a)∨tb=false∧(rdC s st).2=(rdI s st).2))
 case first=>
  rcases HC.out with⟨e1,e2⟩ | ⟨a,e1,n0,n1,e2⟩ | ⟨a,e1,nn,e2⟩
  ·obtain⟨hr1,hk1⟩:=H1.out
   rw[e1]at hr1
   obtain⟨aa,ee,hb,hr⟩:=hr1
   have hne:(ee==0)=false:=by simpa[RdS]using hr
   have c2:w1.cell? ⟨g,2,none⟩=some (.int .i64 ee):=hb.cell 2
   have HE:=hid (e2.trans e1.symm)
   clear hb hr hk1 e1 e2 HC HI
   go_wp2
   go_meet
   case rel=>exact⟨false,rfl,rfl,hid (.inr ⟨rfl,HE.out⟩)⟩
  ·obtain⟨hr1,hk1⟩:=H1.out
   rw[e1]at hr1
   obtain⟨aa,ee,hb,rfl,rfl,_⟩:=hr1
   have c2:w1.cell? ⟨g,2,none⟩=some (.int .i64 0):=hb.cell 2
   have t1: ¬N<0:=by omega
   have t2: ¬48<N:=by omega
   have HE:=hid (e2.trans e1.symm)
   clear hb hk1 e1 e2 n0 n1 HC HI
   go_wp2
   go_meet
   case rel=>exact⟨false,rfl,rfl,hid (.inr ⟨rfl,HE.out⟩)⟩
  ·obtain⟨hr1,hk1⟩:=H1.out
   rw[e1]at hr1
   obtain⟨aa,ee,hb,rfl,rfl,_⟩:=hr1
   have c2:w1.cell? ⟨g,2,none⟩=some (.int .i64 0):=hb.cell 2
   have HE:=hid (⟨e2,_,e1⟩:_∧ ∃a,(rdI s st).2=some a)
   clear hb hk1 e1 e2 HC HI
   rcases nn with t1| ⟨t1,t2⟩
   all_goals
    go_wp2
    go_meet
    case rel=>exact⟨true,rfl,rfl,hid (.inl ⟨rfl,HE.out⟩)⟩
 case rest=>
 obtain⟨tb,rfl,rfl,HT⟩:=hcut
 go_upto_if 22 with fail
 go_cut [5]from 22 to 25 (fun s5 wc=>s5= .int .i64 N∧Hid (RdM wc g s (rdC s st).2∧Kp [g] W wc))
 case first=>
  rcases HT.out with⟨rfl,e2,a,e1⟩ | ⟨rfl,e2⟩
  ·obtain⟨hr1,hk1⟩:=H1.out
   rw[e1]at hr1
   obtain⟨aa,ee,hb,rfl,rfl,_⟩:=hr1
   have c2:w1.cell? ⟨g,2,none⟩=some (.int .i64 0):=hb.cell 2
   have f2:=hb.frozen 2
   have l2:=hb.lt
   have HR:Hid (RdM (w1.setCell ⟨g,2,none⟩ (.int .i64 6)) g s (rdC s st).2∧Kp [g] W (w1.setCell ⟨g,2,none⟩ (.int .i64 6))):=hid ⟨by rw[e2];exact⟨_,6,hb.set_ 2 _,show(6:Int)≠0 by decide⟩,hk1.setCell (.inl (by simp)) _⟩
   clear hb hk1 e1 e2 HC HI HT
   go_wp2
   go_meet
   case rel=>exact⟨rfl,HR⟩
  ·have HR:Hid (RdM w1 g s (rdC s st).2∧Kp [g] W w1):=hid (by rw[e2];exact H1.out)
   clear e2 HC HI HT
   go_wp2
   go_meet
   case rel=>exact⟨rfl,HR⟩
 case rest=>
  obtain⟨rfl,HR⟩:=hcut
  have HI0:Hid (∃xs sj,ItI W g s st one (fun x:Ini=>x) aay (atN) 90 3 0 (.slice none 0 0) wc xs sj):=hid ⟨[],_,ItI.start HR.out.1 HR.out.2⟩
  clear HR HC HI
  go_wp2
  go_loopg [6,7] (N.toNat+1) (fun gg s6 s7 wr=> ∃(j:Nat) (p:Option Addr) (c:Nat),N.toNat+1-j≤gg∧j≤N.toNat∧s6= .slice p j c∧s7= .int .i64 j∧Hid (∃xs sj,ItI W g s st one (fun x:Ini=>x) aay (atN) 90 3 j (.slice p j c) wr xs sj))
  case atStart=>exact⟨0,none,0,by omega,by omega,rfl,rfl,HI0⟩
  case round=>
   obtain⟨j,p,c,hgg,hj,rfl,rfl,HI⟩:=hrel
   obtain⟨xs,sj,hI⟩:=HI.out
   by_cases hjn:(j:Int)<N
   ·cases sj with
    |none=>
     have HF:=hid (hI.fin (.inl rfl))
     obtain⟨aa,ee,hb,hr⟩:=hI.rd
     have hne:(ee==0)=false:=by simpa[RdS]using hr
     have c2:wr.cell? ⟨g,2,none⟩=some (.int .i64 ee):=hb.cell 2
     clear hb hr hI HI
     go_wp2
     go_ret
     exact HF.out
    |some n=>
     have hN48:=hI.few (by simp)
     rw[←HN.out]at hN48
     have hj48:j<48:=by omega
     have HG:=hid (HD.out.1.go wr n hI.rd (HD.out.2.1.trans hI.kp))
     have HX:=hid hI
     obtain⟨aa,ee,hb,rfl,rfl,_⟩:=hI.rd
     have c2:wr.cell? ⟨g,2,none⟩=some (.int .i64 0):=hb.cell 2
     have hji:(j:Int)≤48:=by omega
     have HJ:=hid hjn
     clear hI HI hN48
     go_wp2_with fail
     (with_reducible refine HG.out.mono ?_)
     rintro r w1 ⟨x,rfl,hx,hab,hr1,hk1⟩
     have ho1:=qV HX.out.own hb (by decide) hk1
     have H1:=hid (⟨hx,hab,hr1,hk1,ho1⟩:_∧_∧_∧_∧_)
     clear hx hab hr1 hk1 ho1 hb c2
     go_wp2_with (with_reducible refine yd .append rfl ?_)
     with_reducible refine ki ?_
     refine zO rfl _ _ 27 rfl aay aRN Tryz.underlying27 rfl (by decide) (by decide) vL Jr x H1.out.2.2.2.2 (by omega) (Nat.le_trans HX.out.kp.size H1.out.2.2.2.1.size) rfl rfl ?_
     intro v3 w3 ho3 hk3 _
     obtain⟨p3,c3,rfl⟩:=zm ho3
     have HF:Hid (∃xs sj,ItI W g s st one (fun x:Ini=>x) aay (atN) 90 3 (j+1) (.slice p3 (j+1) c3) w3 xs sj):=hid ⟨_,_,HX.out.next (KL _ _) (by have:=HJ.out;rw[←HN.out];omega) H1.out.1 H1.out.2.1 H1.out.2.2.1 H1.out.2.2.2.1 (by decide) H1.out.2.2.2.2 ho3 hk3⟩
     clear ho3 hk3
     go_wp2
     go_roundg (N.toNat+1- (j+1))
     case measure=>have:=HJ.out;omega
     case rel=>exact⟨j+1,p3,c3,by omega,by have:=HJ.out;omega,rfl,by go_num,HF⟩
   ·have HF:=hid (hI.fin (.inr (by rw[←HN.out];omega)))
    clear hI HI
    go_wp2
    go_ret
    exact HF.out
end
end Go.Proofs.YtcdiljebkpikbaaGreat
