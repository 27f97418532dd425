/- Parts of the proof: Scl Sdj. -/
import Derived.Laws.EntriesVeiled
import Derived.Test.YtcdiljebkpikbaaGreatU31
import Derived.Test.YtcdiljebkpikbaaGreatU33
import Derived.Test.YtcdiljebkpikbaaGreatU36
import Derived.Test.YtcdiljebkpikbaaGreatU37
set_option linter.all false
set_option maxRecDepth 100000
set_option maxHeartbeats 64000000
namespace Go.Proofs.YtcdiljebkpikbaaGreat
section
open Go.RowKit Go.Lib
theorem zs {W:World} {B n k g i:Nat} {T U:TypeId} {v u:Value} {xs:List Value} {cs:Array Value} (h:W.ownsRow B T k v n xs) (hb:Blk W g U cs) (ht:T≠U):(W.setCell ⟨g,i,none⟩ u).ownsRow B T k v n xs:=ownsRow_setCell_other h (yo h hb ht) u
structure GtI (W4:World) (g mb:Nat) (s:Bs) (st:Option Nat) (sd:Int) (en:Nat) (dv:Value) (dl:List Nat) (pv:Value) (ps:List Prg) (lv:Value) (ls:List LpR) (iv:Value) (is:List Ini) (w:World):Prop where
 rd:RdM w g s st
 blk:Blk w mb 29 #[.int .i64 sd,.float .f64 en,dv,pv,lv,iv]
 d:w.ownsRow W4.heap.size 23 1 dv dl.length (yv flC dl)
 p:w.ownsRow W4.heap.size 85 1 pv ps.length (yv prC ps)
 pi: ∀q∈ps,atP W4.heap.size w q
 l:w.ownsRow W4.heap.size 88 2 lv ls.length (yv lpC ls)
 li: ∀q∈ls,atL W4.heap.size w q
 i:w.ownsRow W4.heap.size 90 3 iv is.length (yv aay is)
 kp:Kp [g] W4 w
 lo:W4.heap.size≤mb
section
variable {W4 w w':World} {g mb:Nat} {s:Bs} {st st':Option Nat} {sd:Int} {en:Nat} {dv:Value} {dl:List Nat} {pv:Value} {ps:List Prg} {lv:Value} {ls:List LpR} {iv:Value} {is:List Ini}
theorem GtI.ne (h:GtI W4 g mb s st sd en dv dl pv ps lv ls iv is w):mb≠g:=by
 obtain⟨a,e,hb,_⟩:=h.rd
 exact Blk.ne_ h.blk hb (by decide)
theorem GtI.step (h:GtI W4 g mb s st sd en dv dl pv ps lv ls iv is w) (hk:Kp [g] w w') (hr:RdM w' g s st'):GtI W4 g mb s st' sd en dv dl pv ps lv ls iv is w':=by
 have hn:=h.ne
 obtain⟨a,e,hb,_⟩:=h.rd
 exact⟨hr,h.blk.kp hk (by simpa using hn),qV h.d hb (by decide) hk,qV h.p hb (by decide) hk,fun q hq=>acr.keep (h.pi q hq) hb hk,qV h.l hb (by decide) hk,fun q hq=>acq.keep (h.li q hq) hb hk,qV h.i hb (by decide) hk,h.kp.trans hk,h.lo⟩
theorem KM {B g i:Nat} {u:Value} {cs:Array Value} {q:Prg} (h:atP B w q) (hb:Blk w g 29 cs):atP B (w.setCell ⟨g,i,none⟩ u) q:=⟨h.1,zs h.2 hb (by decide)⟩
theorem KK {B g i:Nat} {u:Value} {cs:Array Value} {q:LpR} (h:atL B w q) (hb:Blk w g 29 cs):atL B (w.setCell ⟨g,i,none⟩ u) q:=⟨h.1,zs h.2 hb (by decide)⟩
theorem GtI.rdsc (h:GtI W4 g mb s st sd en dv dl pv ps lv ls iv is w) (i:Nat) (u:Value):RdM (w.setCell ⟨mb,i,none⟩ u) g s st:=by
 have hn:=h.ne
 obtain⟨a,e,hb,hr⟩:=h.rd
 exact⟨a,e,hb.far (Ne.symm hn) _,hr⟩
theorem GtI.setD (h:GtI W4 g mb s st sd en dv dl pv ps lv ls iv is w) {v:Value} {xs:List Nat} (ho:w.ownsRow W4.heap.size 23 1 v xs.length (yv flC xs)):GtI W4 g mb s st sd en v xs pv ps lv ls iv is (w.setCell ⟨mb,2,none⟩ v):=
 ⟨h.rdsc _ _,h.blk.set_ 2 v,zs ho h.blk (by decide),zs h.p h.blk (by decide),fun q hq=>KM (h.pi q hq) h.blk,zs h.l h.blk (by decide),fun q hq=>KK (h.li q hq) h.blk,zs h.i h.blk (by decide),h.kp.setCell (.inr h.lo) _,h.lo⟩
theorem GtI.setP (h:GtI W4 g mb s st sd en dv dl pv ps lv ls iv is w) {v:Value} {xs:List Prg} (ho:w.ownsRow W4.heap.size 85 1 v xs.length (yv prC xs)) (ha: ∀q∈xs,atP W4.heap.size w q):GtI W4 g mb s st sd en dv dl v xs lv ls iv is (w.setCell ⟨mb,3,none⟩ v):=
 ⟨h.rdsc _ _,h.blk.set_ 3 v,zs h.d h.blk (by decide),zs ho h.blk (by decide),fun q hq=>KM (ha q hq) h.blk,zs h.l h.blk (by decide),fun q hq=>KK (h.li q hq) h.blk,zs h.i h.blk (by decide),h.kp.setCell (.inr h.lo) _,h.lo⟩
theorem GtI.setL (h:GtI W4 g mb s st sd en dv dl pv ps lv ls iv is w) {v:Value} {xs:List LpR} (ho:w.ownsRow W4.heap.size 88 2 v xs.length (yv lpC xs)) (ha: ∀q∈xs,atL W4.heap.size w q):GtI W4 g mb s st sd en dv dl pv ps v xs iv is (w.setCell ⟨mb,4,none⟩ v):=
 ⟨h.rdsc _ _,h.blk.set_ 4 v,zs h.d h.blk (by decide),zs h.p h.blk (by decide),fun q hq=>KM (h.pi q hq) h.blk,zs ho h.blk (by decide),fun q hq=>KK (ha q hq) h.blk,zs h.i h.blk (by decide),h.kp.setCell (.inr h.lo) _,h.lo⟩
theorem GtI.setI (h:GtI W4 g mb s st sd en dv dl pv ps lv ls iv is w) {v:Value} {xs:List Ini} (ho:w.ownsRow W4.heap.size 90 3 v xs.length (yv aay xs)):GtI W4 g mb s st sd en dv dl pv ps lv ls v xs (w.setCell ⟨mb,5,none⟩ v):=
 ⟨h.rdsc _ _,h.blk.set_ 5 v,zs h.d h.blk (by decide),zs h.p h.blk (by decide),fun q hq=>KM (h.pi q hq) h.blk,zs h.l h.blk (by decide),fun q hq=>KK (h.li q hq) h.blk,zs ho h.blk (by decide),h.kp.setCell (.inr h.lo) _,h.lo⟩
theorem GtI.md {dp pp lp ip:Option Addr} {dc pc lc ic:Nat} (h:GtI W4 g mb s st sd en (.slice dp dl.length dc) dl (.slice pp ps.length pc) ps (.slice lp ls.length lc) ls (.slice ip is.length ic) is w):qZ w ⟨sd,en,dp,dl.length,dc,dl,pp,ps.length,pc,ps,lp,ls.length,lc,ls,ip,is.length,ic,is⟩:=
 ⟨.of_own Ya h.d rfl,rfl,.of_own Yu h.p rfl,rfl,fun q hq=>⟨(h.pi q hq).1,.of_own Ye (h.pi q hq).2 (h.pi q hq).1⟩,.of_own Yg h.l rfl,rfl,fun q hq=>⟨(h.li q hq).1,.of_own YG (h.li q hq).2 (h.li q hq).1⟩,.of_own vL h.i rfl,rfl⟩
theorem GtI.md2 {dp pp lp ip:Option Addr} {dn dc pn pc ln lc im ic r0:Nat} {cs:Array Value} (h:GtI W4 g mb s st sd en (.slice dp dn dc) dl (.slice pp pn pc) ps (.slice lp ln lc) ls (.slice ip im ic) is w) (e1:dn=dl.length) (e2:pn=ps.length) (e3:ln=ls.length) (e4:im=is.length) (hb:Blk w r0 29 cs) (e: ∀b,W4.heap.size≤b→b<w.heap.size→b≠r0→w'.heap[b]? =w.heap[b]?):qZ w' ⟨sd,en,dp,dn,dc,dl,pp,pn,pc,ps,lp,ln,lc,ls,ip,im,ic,is⟩:=by
 subst e1 e2 e3 e4
 have k: ∀ {T n s xs a},w.ownsRow W4.heap.size T s a n xs→T≠29→w'.ownsRow W4.heap.size T s a n xs:=fun ho ht=>xN ho fun b hv=>e b (ho.lt b hv).1 (ho.lt b hv).2 fun e'=>yo ho hb ht (e'▸hv)
 exact⟨.of_own Ya (k h.d (by decide)) rfl,rfl,.of_own Yu (k h.p (by decide)) rfl,rfl,fun q hq=>⟨(h.pi q hq).1,.of_own Ye (k (h.pi q hq).2 (by decide)) (h.pi q hq).1⟩,.of_own Yg (k h.l (by decide)) rfl,rfl,fun q hq=>⟨(h.li q hq).1,.of_own YG (k (h.li q hq).2 (by decide)) (h.li q hq).1⟩,.of_own vL (k h.i (by decide)) rfl,rfl⟩
theorem xA {W w:World} {g r0 i:Nat} {l:List Value} (h:Below W.heap.size W W4) (hk:Kp [g] W4 w) (hg:W.heap.size≤g) (hr:W.heap.size≤r0):Below W.heap.size W (za w r0 i l):=
 h.trans ((zU (O:=[g,r0]) (.inl (by simp)) l w i (hk.mono fun x hx=> .inl (by simp at hx;simp[hx]))).to_below h.size fun x hx=>by
  simp at hx
  rcases hx with rfl|rfl
  ·exact hg
  ·exact hr)
end
theorem aBP {α:Type} (one:Rd α) (n:Nat): ∀s st,(rdN one n s st).1.length≤n:=by
 induction n with
 |zero=>intro s st;simp[rdN]
 |succ n ih=>
  intro s st
  cases st with
  |none=>simp[rdN]
  |some a=>rw[Qu];simp only[List.length_cons];have:=ih s (one s (some a)).2;omega
theorem ahH {α:Type} (one:Rd α):Rok (rdL one) fun l=>l.length≤48:=by
 intro s st
 unfold rdL
 have h:=aBP one (rdC s st).1.toNat s (rdC s st).2
 unfold rdC at h⊢
 split
 ·rw[Zq];simp
 ·next a e=>
  rw[e]at h
  simp only[]at h
  by_cases h2:0≤(rdI s st).1∧(rdI s st).1≤48
  ·rw[if_pos h2]at h⊢;omega
  ·rw[if_neg h2,Zq];simp
def abe (o:Option Mdl) (m:Mdl) (e:Int):Prop:=match o with
 |some x=>e=0∧m=x
 |none=>e≠0
def MdF (B:Nat) (w:World) (y:MdV):Prop:= ∀w',(∀b,B≤b→b<w.heap.size→w'.heap[b]? =w.heap[b]?)→qZ w' y
theorem MdF.at_ {B:Nat} {w:World} {y:MdV} (h:MdF B w y):qZ w y:=h w fun _ _ _=>rfl
def aSj (W:World) (s:Bs) (r:Ending) (w':World):Prop:= ∃(y:MdV) (e:Int),r= .returned (.tuple #[.agg (mdC y).toArray,.int .i64 e])∧MdF W.heap.size w' y∧Below W.heap.size W w'∧abe (jE s) y.m e
theorem six {w:World} {g:Nat} {T:TypeId} {a b c d e f:Value} (h:Blk w g T #[a,b,c,d,e,f]):(w.cell? ⟨g,0,none⟩=some a∧w.cell? ⟨g,1,none⟩=some b∧w.cell? ⟨g,2,none⟩=some c∧w.cell? ⟨g,3,none⟩=some d∧w.cell? ⟨g,4,none⟩=some e∧w.cell? ⟨g,5,none⟩=some f)∧(w.frozen? ⟨g,0,none⟩=false∧w.frozen? ⟨g,1,none⟩=false∧w.frozen? ⟨g,2,none⟩=false∧w.frozen? ⟨g,3,none⟩=false∧w.frozen? ⟨g,4,none⟩=false∧w.frozen? ⟨g,5,none⟩=false)∧g<w.heap.size:=
 ⟨⟨h.cell 0,h.cell 1,h.cell 2,h.cell 3,h.cell 4,h.cell 5⟩,⟨h.frozen 0,h.frozen 1,h.frozen 2,h.frozen 3,h.frozen 4,h.frozen 5⟩,h.lt⟩
theorem GtI.new {W4 w:World} {g mb:Nat} {s:Bs} {st:Option Nat} (sd:Int) (en:Nat) (h:RdM w g s st) (hb:Blk w mb 29 #[.int .i64 0,.float .f64 0,.slice none 0 0,.slice none 0 0,.slice none 0 0,.slice none 0 0]) (hk:Kp [g] W4 w) (lo:W4.heap.size≤mb):
  GtI W4 g mb s st sd en (.slice none 0 0) [] (.slice none 0 0) [] (.slice none 0 0) [] (.slice none 0 0) [] (za w mb 0 [.int .i64 sd,.float .f64 en,.slice none 0 0,.slice none 0 0,.slice none 0 0,.slice none 0 0]):=by
 have hn:g≠mb:=by
  obtain⟨a,e,h1,_⟩:=h
  exact Blk.ne_ h1 hb (by decide)
 exact⟨Qr h hn,(((((hb.set_ 0 _).set_ 1 _).set_ 2 _).set_ 3 _).set_ 4 _).set_ 5 _,yO _ _ _ _,yO _ _ _ _,by simp,yO _ _ _ _,by simp,yO _ _ _ _,zU (.inr lo) _ _ _ hk,lo⟩
theorem ai4 {s:Bs} (hs:s.length≤1000000) (W:World):Calls Tryz.prog 48 #[.string (S s)] W (aSj W s):=by
 obtain⟨r0,hr0⟩: ∃n,n=W.heap.size:=⟨_,rfl⟩
 obtain⟨g,hg⟩: ∃n,n=W.heap.size+1:=⟨_,rfl⟩
 obtain⟨rv,hrv⟩: ∃n,n=W.heap.size+1+1:=⟨_,rfl⟩
 obtain⟨fv,hfv⟩: ∃n,n=W.heap.size+1+1+1:=⟨_,rfl⟩
 obtain⟨W4,hW4⟩: ∃W4,W4=(((W.alloc (.cells #[.int .i64 0,.float .f64 0,.slice none 0 0,.slice none 0 0,.slice none 0 0,.slice none 0 0] 29)).alloc (.cells #[.string (S s),.int .i64 0,.int .i64 0] 154)).alloc (.cells #[.pointer (some ⟨g,0,none⟩)] 152)).alloc (.cells #[.func (.func 88) #[] #[.pointer (some ⟨rv,0,none⟩)]] 156):=⟨_,rfl⟩
 have hb4:Below W.heap.size W W4:=by rw[hW4];exact((((Below.refl _ W).alloc (Nat.le_refl _) _).alloc (by simp) _).alloc (by simp;omega) _).alloc (by simp;omega) _
 have hs4:W4.heap.size=W.heap.size+4:=by rw[hW4];simp
 have h0:Blk W4 r0 29 #[.int .i64 0,.float .f64 0,.slice none 0 0,.slice none 0 0,.slice none 0 0,.slice none 0 0]:=by rw[hW4,hr0];exact(((Blk.new W _ _).alloc _).alloc _).alloc _
 have h1:Blk W4 g 154 #[.string (S s),.int .i64 0,.int .i64 0]:=by
  rw[hW4,hg]
  have:=Blk.new (W.alloc (.cells #[.int .i64 0,.float .f64 0,.slice none 0 0,.slice none 0 0,.slice none 0 0,.slice none 0 0] 29)) 154 #[.string (S s),.int .i64 0,.int .i64 0]
  rw[World.size_alloc]at this
  exact(this.alloc _).alloc _
 have h2:Blk W4 rv 152 #[.pointer (some ⟨g,0,none⟩)]:=by
  rw[hW4,hrv]
  have:=Blk.new ((W.alloc (.cells #[.int .i64 0,.float .f64 0,.slice none 0 0,.slice none 0 0,.slice none 0 0,.slice none 0 0] 29)).alloc (.cells #[.string (S s),.int .i64 0,.int .i64 0] 154)) 152 #[.pointer (some ⟨g,0,none⟩)]
  rw[World.size_alloc,World.size_alloc]at this
  exact this.alloc _
 have h3:Blk W4 fv 156 #[.func (.func 88) #[] #[.pointer (some ⟨rv,0,none⟩)]]:=by
  rw[hW4,hfv]
  have:=Blk.new (((W.alloc (.cells #[.int .i64 0,.float .f64 0,.slice none 0 0,.slice none 0 0,.slice none 0 0,.slice none 0 0] 29)).alloc (.cells #[.string (S s),.int .i64 0,.int .i64 0] 154)).alloc (.cells #[.pointer (some ⟨g,0,none⟩)] 152)) 156 #[.func (.func 88) #[] #[.pointer (some ⟨rv,0,none⟩)]]
  rw[World.size_alloc,World.size_alloc,World.size_alloc]at this
  exact this
 have HV:Hid (∀W',Kp [g] W4 W'→W'.cell? ⟨rv,0,none⟩=some (.pointer (some ⟨g,0,none⟩))):=hid fun W' hk=>(h2.kp hk (by simp;omega)).cell 0
 have HR1:Hid (RdM W4.drew g s (some 0)∧Kp [g] W4 W4.drew):=hid ⟨⟨0,0,h1.drew,rfl,rfl,Nat.zero_le _⟩,(Kp.refl _ _).drew⟩
 have HH:=hid (⟨hs,(by rw[hs4,hg];omega:g<W4.heap.size),(by omega:g≠rv),(by omega:g≠fv),(by omega:r0≠g),hb4,h0,h2,h3⟩:_∧_∧_∧_∧_∧_∧_∧_∧_)
 have HRW:=hid (⟨hW4,hfv,hrv,hg,hr0⟩:_∧_∧_∧_∧_)
 clear hs hb4 hs4 h0 h1 h2 h3 hW4 hfv hrv hg hr0
 go_enter Tryz.func48,Tryz.ntmps48
 go_upto_region 3 with fail
 rw[←HRW.out.2.1,←HRW.out.2.2.1,←HRW.out.2.2.2.1,←HRW.out.2.2.2.2,←HRW.out.1]
 go_cut [6]from 12 to 16 (fun s6 wc=> ∃mb,s6= .pointer (some ⟨mb,0,none⟩)∧Hid (GtI W4 g mb s (rdF s (rdI s (some 0)).2).2 (rdI s (some 0)).1 (rdF s (rdI s (some 0)).2).1 (.slice none 0 0) [] (.slice none 0 0) [] (.slice none 0 0) [] (.slice none 0 0) [] wc))
 case first=>
  refine zB (fun W'=>W'.cell? ⟨rv,0,none⟩=some (.pointer (some ⟨g,0,none⟩))) 6 (by kernel_rfl) (HV.out _ HR1.out.2) (fun hHeld=>?_)
  refine eT 0 hHeld ?_;(try simp only[Act.put,sEa,sEb,sEc]);refine eT 2 hHeld ?_;(try simp only[Act.put,sEa,sEb,sEc])
  refine eR2 (i:=1) (j:=5) (by(simp only[gEa,gEb,gEc];try rfl)) (by(simp only[gEa,gEb,gEc];try rfl)) (by kernel_rfl) (by rfl) (fun K hK=>?_) (fun K hK=>?_)
  ·go_simp
   (with_reducible refine(zH HR1.out.1 HH.out.1).mono ?_)
   rintro r w2 ⟨rfl,hr2,hk2⟩
   have H2:=hid (⟨hr2,HR1.out.2.trans hk2⟩:_∧_)
   have HK2:=hid hk2
   clear hr2 hk2
   refine hK.out _ _ (HV.out _ H2.out.2) (fun hHeld=>?_)
   clear hK K
   (try simp only[Act.put,sEa,sEb,sEc])
   refine eR2 (i:=3) (j:=5) (by(simp only[gEa,gEb,gEc];try rfl)) (by(simp only[gEa,gEb,gEc];try rfl)) (by kernel_rfl) (by rfl) (fun K hK=>?_) (fun K hK=>?_)
   ·go_simp
    (with_reducible refine(xJ H2.out.1 HH.out.1).mono ?_)
    rintro r w3 ⟨rfl,hr3,hk3⟩
    have H3:=hid (⟨hr3,H2.out.2.trans hk3⟩:_∧_)
    have HK3:=hid hk3
    clear hr3 hk3
    refine hK.out _ _ (HV.out _ H3.out.2) (fun hHeld=>?_)
    clear hK K
    (try simp only[Act.put,sEa,sEb,sEc])
    refine eT 4 hHeld ?_;(try simp only[Act.put,sEa,sEb,sEc])
    refine eR 5 (fun K hK=>?_)
    go_simp
    have H4:Hid (RdM (w3.alloc (.cells #[.int .i64 0,.float .f64 0,.slice none 0 0,.slice none 0 0,.slice none 0 0,.slice none 0 0] 29)) g s (rdF s (rdI s (some 0)).2).2∧Kp [g] W4 (w3.alloc (.cells #[.int .i64 0,.float .f64 0,.slice none 0 0,.slice none 0 0,.slice none 0 0,.slice none 0 0] 29))):=hid ⟨H3.out.1.below ((Below.refl _ _).alloc (Nat.le_refl _) _),H3.out.2.alloc _⟩
    refine hK.out _ _ (HV.out _ H4.out.2) (fun hHeld=>?_)
    clear hK K
    (try simp only[Act.put,sEa,sEb,sEc])
    have HM:Hid (Blk (w3.alloc (.cells #[.int .i64 0,.float .f64 0,.slice none 0 0,.slice none 0 0,.slice none 0 0,.slice none 0 0] 29)) w3.heap.size 29 #[.int .i64 0,.float .f64 0,.slice none 0 0,.slice none 0 0,.slice none 0 0,.slice none 0 0]∧RdM (w3.alloc (.cells #[.int .i64 0,.float .f64 0,.slice none 0 0,.slice none 0 0,.slice none 0 0,.slice none 0 0] 29)) g s (rdF s (rdI s (some 0)).2).2∧Kp [g] W4 (w3.alloc (.cells #[.int .i64 0,.float .f64 0,.slice none 0 0,.slice none 0 0,.slice none 0 0,.slice none 0 0] 29))∧W4.heap.size≤w3.heap.size):=hid ⟨Blk.new _ _ _,H4.out.1,H4.out.2,H3.out.2.size⟩
    obtain⟨wx,hwx⟩: ∃wx,wx=w3.alloc (.cells #[.int .i64 0,.float .f64 0,.slice none 0 0,.slice none 0 0,.slice none 0 0,.slice none 0 0] 29):=⟨_,rfl⟩
    rw[←hwx]at HM hHeld⊢
    clear hwx H4
    obtain⟨⟨a0,a1,a2,a3,a4,a5⟩,⟨b0,b1,b2,b3,b4,b5⟩,hlt⟩:=six HM.out.1
    refine eL (fun K hK=>?_);go_simp;refine hK.out _ _ ?_;clear hK K;(try simp only[Act.put,sEa,sEb,sEc])
    have HF:=hid (GtI.new (rdI s (some 0)).1 (rdF s (rdI s (some 0)).2).1 HM.out.2.1 HM.out.1 HM.out.2.2.1 HM.out.2.2.2)
    unfold za za za za za za za at HF
    clear a0 a1 a2 a3 a4 a5 b0 b1 b2 b3 b4 b5 hlt hHeld
    go_wp2
    go_meet
    case rel=>exact⟨_,rfl,HF⟩
   ·go_simp
    have H3:Hid (RdM (w2.alloc (.cells #[.int .i64 0,.float .f64 0,.slice none 0 0,.slice none 0 0,.slice none 0 0,.slice none 0 0] 29)) g s (rdI s (some 0)).2∧Kp [g] W4 (w2.alloc (.cells #[.int .i64 0,.float .f64 0,.slice none 0 0,.slice none 0 0,.slice none 0 0,.slice none 0 0] 29))):=hid ⟨H2.out.1.below ((Below.refl _ _).alloc (Nat.le_refl _) _),H2.out.2.alloc _⟩
    refine hK.out _ _ (HV.out _ H3.out.2) (fun hHeld=>?_)
    clear hK K
    (try simp only[Act.put,sEa,sEb,sEc])
    refine eR 3 (fun K hK=>?_)
    go_simp
    (with_reducible refine(xJ H3.out.1 HH.out.1).mono ?_)
    rintro r w3 ⟨rfl,hr3,hk3⟩
    have H4:=hid (⟨hr3,H3.out.2.trans hk3⟩:_∧_)
    have HK3:=hid hk3
    clear hr3 hk3
    refine hK.out _ _ (HV.out _ H4.out.2) (fun hHeld=>?_)
    clear hK K
    (try simp only[Act.put,sEa,sEb,sEc])
    refine eT 4 hHeld ?_;(try simp only[Act.put,sEa,sEb,sEc])
    have HM:Hid (Blk w3 w2.heap.size 29 #[.int .i64 0,.float .f64 0,.slice none 0 0,.slice none 0 0,.slice none 0 0,.slice none 0 0]∧RdM w3 g s (rdF s (rdI s (some 0)).2).2∧Kp [g] W4 w3∧W4.heap.size≤w2.heap.size):=hid ⟨(Blk.new _ _ _).kp HK3.out (by have:=H2.out.1.lt;simp;omega),H4.out.1,H4.out.2,H2.out.2.size⟩
    obtain⟨⟨a0,a1,a2,a3,a4,a5⟩,⟨b0,b1,b2,b3,b4,b5⟩,hlt⟩:=six HM.out.1
    refine eL (fun K hK=>?_);go_simp;refine hK.out _ _ ?_;clear hK K;(try simp only[Act.put,sEa,sEb,sEc])
    have HF:=hid (GtI.new (rdI s (some 0)).1 (rdF s (rdI s (some 0)).2).1 HM.out.2.1 HM.out.1 HM.out.2.2.1 HM.out.2.2.2)
    unfold za za za za za za za at HF
    clear a0 a1 a2 a3 a4 a5 b0 b1 b2 b3 b4 b5 hlt hHeld
    go_wp2
    go_meet
    case rel=>exact⟨_,rfl,HF⟩
  ·go_simp
   have H2:Hid (RdM ((W4.alloc (.cells #[.int .i64 0,.float .f64 0,.slice none 0 0,.slice none 0 0,.slice none 0 0,.slice none 0 0] 29)).drew) g s (some 0)∧Kp [g] W4 ((W4.alloc (.cells #[.int .i64 0,.float .f64 0,.slice none 0 0,.slice none 0 0,.slice none 0 0,.slice none 0 0] 29)).drew)):=hid ⟨(show RdM W4 g s (some 0)from HR1.out.1).below (Z0 ((Below.refl _ W4).alloc (Nat.le_refl _) _) 1),((Kp.refl _ _).alloc _).drew⟩
   refine hK.out _ _ (HV.out _ H2.out.2) (fun hHeld=>?_)
   clear hK K
   (try simp only[Act.put,sEa,sEb,sEc])
   refine eR 1 (fun K hK=>?_)
   go_simp
   (with_reducible refine(zH H2.out.1 HH.out.1).mono ?_)
   rintro r w2 ⟨rfl,hr2,hk2⟩
   have H3:=hid (⟨hr2,H2.out.2.trans hk2⟩:_∧_)
   have HK2:=hid hk2
   clear hr2 hk2
   refine hK.out _ _ (HV.out _ H3.out.2) (fun hHeld=>?_)
   clear hK K
   (try simp only[Act.put,sEa,sEb,sEc])
   refine eR 3 (fun K hK=>?_)
   go_simp
   (with_reducible refine(xJ H3.out.1 HH.out.1).mono ?_)
   rintro r w3 ⟨rfl,hr3,hk3⟩
   have H4:=hid (⟨hr3,H3.out.2.trans hk3⟩:_∧_)
   have HK3:=hid hk3
   clear hr3 hk3
   refine hK.out _ _ (HV.out _ H4.out.2) (fun hHeld=>?_)
   clear hK K
   (try simp only[Act.put,sEa,sEb,sEc])
   refine eT 4 hHeld ?_;(try simp only[Act.put,sEa,sEb,sEc])
   have HM:Hid (Blk w3 W4.heap.size 29 #[.int .i64 0,.float .f64 0,.slice none 0 0,.slice none 0 0,.slice none 0 0,.slice none 0 0]∧RdM w3 g s (rdF s (rdI s (some 0)).2).2∧Kp [g] W4 w3∧W4.heap.size≤W4.heap.size):=hid ⟨((Blk.new W4 _ _).drew.kp HK2.out (by have:=HH.out.2.1;show W4.heap.size∉[g];simp;omega)).kp HK3.out (by have:=HH.out.2.1;simp;omega),H4.out.1,H4.out.2,Nat.le_refl _⟩
   obtain⟨⟨a0,a1,a2,a3,a4,a5⟩,⟨b0,b1,b2,b3,b4,b5⟩,hlt⟩:=six HM.out.1
   refine eL (fun K hK=>?_);go_simp;refine hK.out _ _ ?_;clear hK K;(try simp only[Act.put,sEa,sEb,sEc])
   have HF:=hid (GtI.new (rdI s (some 0)).1 (rdF s (rdI s (some 0)).2).1 HM.out.2.1 HM.out.1 HM.out.2.2.1 HM.out.2.2.2)
   unfold za za za za za za za at HF
   clear a0 a1 a2 a3 a4 a5 b0 b1 b2 b3 b4 b5 hlt hHeld
   go_wp2
   go_meet
   case rel=>exact⟨_,rfl,HF⟩
 case rest=>
  obtain⟨mb,rfl,HG⟩:=hcut
  clear HR1
  have HFV:Hid (∀W',Kp [g] W4 W'→W'.cell? ⟨fv,0,none⟩=some (.func (.func 88) #[] #[.pointer (some ⟨rv,0,none⟩)])∧Blk W' rv 152 #[.pointer (some ⟨g,0,none⟩)]∧Blk W' fv 156 #[.func (.func 88) #[] #[.pointer (some ⟨rv,0,none⟩)]]∧Blk W' r0 29 #[.int .i64 0,.float .f64 0,.slice none 0 0,.slice none 0 0,.slice none 0 0,.slice none 0 0]):=hid fun W' hk=>by
   have h3:=HH.out.2.2.2.2.2.2.2.2.kp hk (by simp;exact Ne.symm HH.out.2.2.2.1)
   exact⟨h3.cell 0,HH.out.2.2.2.2.2.2.2.1.kp hk (by simp;exact Ne.symm HH.out.2.2.1),h3,HH.out.2.2.2.2.2.2.1.kp hk (by simp;exact HH.out.2.2.2.2.1)⟩
  have crv:=HV.out wc HG.out.kp
  have HI:=hid (abC (W0:=wc) (ajn HH.out.1) HG.out.rd (Kp.refl _ _) HH.out.1)
  go_wp2_with fail
  (with_reducible refine HI.out.mono ?_)
  rintro r x4 ⟨v,xd,rfl,ho,ha,he,hr,hk,hf⟩
  obtain⟨xdp,xdc,rfl⟩:=zm ho
  have hg2:=HG.out.step hk hr
  have hg3:=hg2.setD (xL ho HG.out.kp.size)
  obtain⟨xdn,hn⟩: ∃n,n=xd.length:=⟨_,rfl⟩
  rw[←hn]at hg3⊢
  obtain⟨⟨a0,a1,a2,a3,a4,a5⟩,⟨b0,b1,b2,b3,b4,b5⟩,hlt⟩:=six hg2.blk
  have Hxd:=hid (⟨hn,he,hf⟩:_∧_∧_)
  clear ho ha he hr hk hf hg2 hn crv HI
  go_upto_region 5 with fail
  obtain⟨w5,hwn⟩: ∃wn,wn=x4.setCell ⟨mb,2,none⟩ (.slice xdp xdn xdc):=⟨_,rfl⟩
  rw[←hwn]at hg3⊢
  have HG5:=hid hg3
  clear hwn hg3 a0 a1 a2 a3 a4 a5 b0 b1 b2 b3 b4 b5 hlt
  have crv:=HV.out w5 HG5.out.kp
  have cfv:=(HFV.out _ HG5.out.kp).1
  have HI:=hid (abG (W0:=w5) (aBQ (HFV.out _ HG5.out.kp).2.1 (HFV.out _ HG5.out.kp).2.2.1 HH.out.1 (Nat.lt_of_lt_of_le HH.out.2.1 HG5.out.kp.size) HH.out.2.2.1 HH.out.2.2.2.1) HG5.out.rd (Kp.refl _ _) HH.out.1)
  go_wp2_with fail
  (with_reducible refine HI.out.mono ?_)
  rintro r x5 ⟨v,xp,rfl,ho,ha,he,hr,hk,hf⟩
  obtain⟨xpp,xpc,rfl⟩:=zm ho
  have hg2:=HG5.out.step hk hr
  have hg3:=hg2.setP (xL ho HG5.out.kp.size) (fun q hq=>acr.low (ha q hq) HG5.out.kp.size)
  obtain⟨xpn,hn⟩: ∃n,n=xp.length:=⟨_,rfl⟩
  rw[←hn]at hg3⊢
  obtain⟨⟨a0,a1,a2,a3,a4,a5⟩,⟨b0,b1,b2,b3,b4,b5⟩,hlt⟩:=six hg2.blk
  have Hxp:=hid (⟨hn,he,hf⟩:_∧_∧_)
  clear ho ha he hr hk hf hg2 hn crv cfv HI
  go_upto_region 6 with fail
  obtain⟨w6,hwn⟩: ∃wn,wn=x5.setCell ⟨mb,3,none⟩ (.slice xpp xpn xpc):=⟨_,rfl⟩
  rw[←hwn]at hg3⊢
  have HG6:=hid hg3
  clear hwn hg3 a0 a1 a2 a3 a4 a5 b0 b1 b2 b3 b4 b5 hlt
  have crv:=HV.out w6 HG6.out.kp
  have HI:=hid (abE (W0:=w6) (aR8 (HFV.out _ HG6.out.kp).2.1 HH.out.1 (Nat.lt_of_lt_of_le HH.out.2.1 HG6.out.kp.size) HH.out.2.2.1) HG6.out.rd (Kp.refl _ _) HH.out.1)
  go_wp2_with fail
  (with_reducible refine HI.out.mono ?_)
  rintro r x6 ⟨v,xl,rfl,ho,ha,he,hr,hk,hf⟩
  obtain⟨xlp,xlc,rfl⟩:=zm ho
  have hg2:=HG6.out.step hk hr
  have hg3:=hg2.setL (xL ho HG6.out.kp.size) (fun q hq=>acq.low (ha q hq) HG6.out.kp.size)
  obtain⟨xln,hn⟩: ∃n,n=xl.length:=⟨_,rfl⟩
  rw[←hn]at hg3⊢
  obtain⟨⟨a0,a1,a2,a3,a4,a5⟩,⟨b0,b1,b2,b3,b4,b5⟩,hlt⟩:=six hg2.blk
  have Hxl:=hid (⟨hn,he,hf⟩:_∧_∧_)
  clear ho ha he hr hk hf hg2 hn crv HI
  go_upto_region 7 with fail
  obtain⟨w7,hwn⟩: ∃wn,wn=x6.setCell ⟨mb,4,none⟩ (.slice xlp xln xlc):=⟨_,rfl⟩
  rw[←hwn]at hg3⊢
  have HG7:=hid hg3
  clear hwn hg3 a0 a1 a2 a3 a4 a5 b0 b1 b2 b3 b4 b5 hlt
  have crv:=HV.out w7 HG7.out.kp
  have HI:=hid (abD (W0:=w7) (aMX (HFV.out _ HG7.out.kp).2.1 HH.out.1 (Nat.lt_of_lt_of_le HH.out.2.1 HG7.out.kp.size) HH.out.2.2.1) HG7.out.rd (Kp.refl _ _) HH.out.1)
  go_wp2_with fail
  (with_reducible refine HI.out.mono ?_)
  rintro r x7 ⟨v,xi,rfl,ho,ha,he,hr,hk,hf⟩
  obtain⟨xip,xic,rfl⟩:=zm ho
  have hg2:=HG7.out.step hk hr
  have hg3:=hg2.setI (xL ho HG7.out.kp.size)
  obtain⟨xin,hn⟩: ∃n,n=xi.length:=⟨_,rfl⟩
  rw[←hn]at hg3⊢
  obtain⟨⟨a0,a1,a2,a3,a4,a5⟩,⟨b0,b1,b2,b3,b4,b5⟩,hlt⟩:=six hg2.blk
  have Hxi:=hid (⟨hn,he,hf⟩:_∧_∧_)
  clear ho ha he hr hk hf hg2 hn crv HI
  go_upto_region 8 with fail
  obtain⟨w8,hwn⟩: ∃wn,wn=x7.setCell ⟨mb,5,none⟩ (.slice xip xin xic):=⟨_,rfl⟩
  rw[←hwn]at hg3⊢
  have HG8:=hid hg3
  clear hwn hg3 a0 a1 a2 a3 a4 a5 b0 b1 b2 b3 b4 b5 hlt
  obtain⟨sd,hsd⟩: ∃n,n=(rdI s (some 0)).1:=⟨_,rfl⟩
  obtain⟨en,hen⟩: ∃n,n=(rdF s (rdI s (some 0)).2).1:=⟨_,rfl⟩
  obtain⟨y,hy⟩: ∃y:MdV,y=⟨sd,en,xdp,xdn,xdc,xd,xpp,xpn,xpc,xp,xlp,xln,xlc,xl,xip,xin,xic,xi⟩:=⟨_,rfl⟩
  have HY:Hid (y.m=(rdM s (some 0)).1):=hid (by
   rw[hy,hsd,hen]
   show(⟨_,_,xd,xp.map Prg.l,xl.map (fun q=>(q.k,q.l)),xi⟩:Mdl)=_
   have e1:xd=_:=(List.map_id' xd).symm.trans Hxd.out.2.1
   have e4:xi=_:=(List.map_id' xi).symm.trans Hxi.out.2.1
   rw[Hxp.out.2.1,Hxl.out.2.1,e1,e4]
   rfl)
  obtain⟨st,hst⟩: ∃st,st=(rdM s (some 0)).2:=⟨_,rfl⟩
  have HG9:Hid (GtI W4 g mb s st sd en (.slice xdp xdn xdc) xd (.slice xpp xpn xpc) xp (.slice xlp xln xlc) xl (.slice xip xin xic) xi w8):=hid (by rw[hst,hsd,hen];exact HG8.out)
  have HST:=hid hst
  have HYE:=hid hy
  have HKZ:=hid HG8.out.kp
  have HRZ:=hid (HFV.out _ HG8.out.kp).2.2.2
  have HEN:=hid hen
  have crv:=HV.out w8 HG8.out.kp
  clear hst hy hsd hen HG HG5 HG6 HG7 HG8
  obtain⟨⟨z0,z1,z2,z3,z4,z5⟩,⟨y0,y1,y2,y3,y4,y5⟩,zlt⟩:=six HRZ.out
  cases st with
  | none=>
   have hgm:jE s=none:=by
    unfold jE
    rw[if_neg (by rw[←HST.out];simp)]
   obtain⟨a,e,hb,hr⟩:=HG9.out.rd
   have hne:(e==0)=false:=by simpa[RdS]using hr
   have c2:w8.cell? ⟨g,2,none⟩=some (.int .i64 e):=hb.cell 2
   obtain⟨wd,hwd⟩: ∃wd,wd=w8.drew:=⟨_,rfl⟩
   have hrvd:Blk wd rv 152 #[.pointer (some ⟨g,0,none⟩)]:=by rw[hwd];exact(HFV.out _ HG9.out.kp).2.1.drew
   have hgd:Blk wd g 154 #[.string (S s),.int .i64 a,.int .i64 e]:=by rw[hwd];exact hb.drew
   have HRZ:Hid (Blk wd r0 29 #[.int .i64 0,.float .f64 0,.slice none 0 0,.slice none 0 0,.slice none 0 0,.slice none 0 0]):=hid (by rw[hwd];exact HRZ.out.drew)
   have HKZ:Hid (Kp [g] W4 wd):=hid (by rw[hwd];exact HKZ.out.drew)
   obtain⟨wz,hwz⟩: ∃wz,wz=za wd r0 0 [.int .i64 0,.float .f64 0,.slice none 0 0,.slice none 0 0,.slice none 0 0,.slice none 0 0]:=⟨_,rfl⟩
   have hbz:Blk wz r0 29 #[.int .i64 0,.float .f64 0,.slice none 0 0,.slice none 0 0,.slice none 0 0,.slice none 0 0]:=by rw[hwz];exact(((((HRZ.out.set_ 0 _).set_ 1 _).set_ 2 _).set_ 3 _).set_ 4 _).set_ 5 _
   have HF:Hid (MdF W.heap.size wz mdZ∧Below W.heap.size W wz∧abe (jE s) mdZ.m e):=hid (by
    refine⟨fun w'' _=>qS w'',by rw[hwz];exact xA HH.out.2.2.2.2.2.1 HKZ.out (by rw[HRW.out.2.2.2.1];omega) (by rw[HRW.out.2.2.2.2];omega),by rw[hgm];exact hr⟩)
   unfold za za za za za za za at hwz
   have HS:Hid (wz.cell? ⟨rv,0,none⟩=some (.pointer (some ⟨g,0,none⟩))∧wz.cell? ⟨g,2,none⟩=some (.int .i64 e)):=hid (by
    have hng:rv≠r0:=by rw[HRW.out.2.2.1,HRW.out.2.2.2.2];omega
    have hrz2:=(yB r0 [.int .i64 0,.float .f64 0,.slice none 0 0,.slice none 0 0,.slice none 0 0,.slice none 0 0] wd 0 rv hng).trans hrvd
    have hgz2:=(yB r0 [.int .i64 0,.float .f64 0,.slice none 0 0,.slice none 0 0,.slice none 0 0,.slice none 0 0] wd 0 g (Ne.symm HH.out.2.2.2.2.1)).trans hgd
    unfold za za za za za za za at hrz2 hgz2
    rw[←hwz]at hrz2 hgz2
    exact⟨Blk.cell hrz2 0,Blk.cell hgz2 2⟩)
   have HS0:Hid (wd.cell? ⟨rv,0,none⟩=some (.pointer (some ⟨g,0,none⟩))∧wd.cell? ⟨g,2,none⟩=some (.int .i64 e)):=hid ⟨hrvd.cell 0,hgd.cell 2⟩
   have HWZ:=hid hwz
   have HWD:=hid hwd
   clear hb hr hgm hwz hwd hrvd hgd z0 z1 z2 z3 z4 z5 y0 y1 y2 y3 y4 y5 zlt
   go_wp2
   refine zB (fun W'=>W'.cell? ⟨rv,0,none⟩=some (.pointer (some ⟨g,0,none⟩))∧W'.cell? ⟨g,2,none⟩=some (.int .i64 e)) 6 (by kernel_rfl) (by rw[←HWD.out];exact HS0.out) (fun hHeld=>?_)
   rw[←HWD.out]at hHeld⊢
   clear crv c2
   obtain⟨⟨z0,z1,z2,z3,z4,z5⟩,⟨y0,y1,y2,y3,y4,y5⟩,zlt⟩:=six HRZ.out
   refine eT 0 hHeld ?_;(try simp only[Act.put,sEa,sEb,sEc]);refine eT 1 hHeld ?_;(try simp only[Act.put,sEa,sEb,sEc]);refine eT 2 hHeld ?_;(try simp only[Act.put,sEa,sEb,sEc]);refine eT 3 hHeld ?_;(try simp only[Act.put,sEa,sEb,sEc]);refine eT 4 hHeld ?_;(try simp only[Act.put,sEa,sEb,sEc]);refine eR 5 (fun K hK=>?_);go_simp;refine hK.out _ _ (by rw[←HWZ.out];exact HS.out) (fun hHeld=>?_);clear hK K;(try simp only[Act.put,sEa,sEb,sEc]);refine eL (fun K hK=>?_);go_simp;refine hK.out _ _ ?_;clear hK K;(try simp only[Act.put,sEa,sEb,sEc])
   rw[←HWZ.out]
   clear z0 z1 z2 z3 z4 z5 y0 y1 y2 y3 y4 y5 zlt hHeld
   obtain⟨⟨v0,v1,v2,v3,v4,v5⟩,_,_⟩:=six hbz
   go_wp2
   refine bodyPost_ret (v:= .tuple #[.agg #[.int .i64 0,.float .f64 0,.slice none 0 0,.slice none 0 0,.slice none 0 0,.slice none 0 0],.int .i64 e]) (by simp[results,Tryz.results48,go_sem,v0,v1,v2,v3,v4,v5]) rfl ⟨_,e,rfl,HF.out⟩
  | some k=>
   obtain⟨a,e,hb,rfl,rfl,hk⟩:=HG9.out.rd
   have c2:w8.cell? ⟨g,2,none⟩=some (.int .i64 0):=hb.cell 2
   have c1:w8.cell? ⟨g,1,none⟩=some (.int .i64 k):=hb.cell 1
   by_cases hkl:k<s.length
   ·have hgm:jE s=none:=by
     unfold jE
     rw[if_neg (by rw[←HST.out];simp;omega)]
    have hki:(k:Int)<(s.length:Int):=by omega
    obtain⟨wz,hwz⟩: ∃wz,wz=za w8 r0 0 [.int .i64 0,.float .f64 0,.slice none 0 0,.slice none 0 0,.slice none 0 0,.slice none 0 0]:=⟨_,rfl⟩
    have hbz:Blk wz r0 29 #[.int .i64 0,.float .f64 0,.slice none 0 0,.slice none 0 0,.slice none 0 0,.slice none 0 0]:=by rw[hwz];exact(((((HRZ.out.set_ 0 _).set_ 1 _).set_ 2 _).set_ 3 _).set_ 4 _).set_ 5 _
    have HF:Hid (MdF W.heap.size wz mdZ∧Below W.heap.size W wz∧abe (jE s) mdZ.m 6):=hid (by
     refine⟨fun w'' _=>qS w'',by rw[hwz];exact xA HH.out.2.2.2.2.2.1 HKZ.out (by rw[HRW.out.2.2.2.1];omega) (by rw[HRW.out.2.2.2.2];omega),by rw[hgm];exact show(6:Int)≠0 by decide⟩)
    unfold za za za za za za za at hwz
    have HWZ:=hid hwz
    have HBZ:=hid hbz
    clear hb hk hgm hwz hkl hbz
    go_wp2
    rw[←HWZ.out]
    have hbz:=HBZ.out
    obtain⟨⟨v0,v1,v2,v3,v4,v5⟩,_,_⟩:=six hbz
    refine bodyPost_ret (v:= .tuple #[.agg #[.int .i64 0,.float .f64 0,.slice none 0 0,.slice none 0 0,.slice none 0 0,.slice none 0 0],.int .i64 6]) (by simp[results,Tryz.results48,go_sem,v0,v1,v2,v3,v4,v5]) rfl ⟨_,6,rfl,HF.out⟩
   ·have hki: ¬(k:Int)<(s.length:Int):=by omega
    have hkl2:some k=some s.length:=by congr 1;omega
    have hmd:qZ w8 y:=by rw[HYE.out];exact HG9.out.md2 Hxd.out.1 Hxp.out.1 Hxl.out.1 Hxi.out.1 HRZ.out (fun _ _ _ _=>rfl)
    have HCK:=hid (abN hmd (by rw[HYE.out];show xdn≤1000;have:=Hxd.out;omega) (by rw[HYE.out];show xpn≤1000;have:=Hxp.out;omega) (by rw[HYE.out];show xln≤1000;have:=Hxl.out;omega) (by rw[HYE.out];show xin≤1000;have:=Hxi.out;omega) (fun q hq=>by
     rw[HYE.out]at hq
     have h1:=HG9.out.pi q hq
     have h2:q.l∈xp.map Prg.l:=List.mem_map.2 ⟨q,hq,rfl⟩
     rw[Hxp.out.2.1]at h2
     have h3:=Kx (ahH xR) _ _ q.l h2
     have:=h1.1
     omega))
    rw[show(mdC y).toArray= #[.int .i64 sd,.float .f64 en,.slice xdp xdn xdc,.slice xpp xpn xpc,.slice xlp xln xlc,.slice xip xin xic]by rw[HYE.out];rfl]at HCK
    obtain⟨⟨a0,a1,a2,a3,a4,a5⟩,_,_⟩:=six HG9.out.blk
    have HGR:Hid (abe (jE s) y.m (if yM y.m=true then 0 else 15)∧(yM y.m=false→abe (jE s) mdZ.m 15)):=hid (by
     unfold jE
     rw[HY.out,←HST.out,hkl2]
     cases hc:yM (rdM s (some 0)).1 with
     |true=>simp only[and_self,if_true];exact⟨⟨rfl,rfl⟩,fun h=>by cases h⟩
     |false=>simp only[Bool.false_eq_true,and_false,if_false];exact⟨show(15:Int)≠0 by decide,fun _=>show(15:Int)≠0 by decide⟩)
    clear hb hk hkl hkl2 hmd z0 z1 z2 z3 z4 z5 y0 y1 y2 y3 y4 y5 zlt
    go_wp2_with fail
    (with_reducible refine HCK.out.mono ?_)
    rintro r w9 ⟨rfl,hb9⟩
    have HG10:=hid (HG9.out.step (Kp.of_below hb9) (HG9.out.rd.below hb9))
    have HRZ:Hid (Blk w9 r0 29 #[.int .i64 0,.float .f64 0,.slice none 0 0,.slice none 0 0,.slice none 0 0,.slice none 0 0]):=hid (HRZ.out.below hb9 HRZ.out.lt)
    have HKZ:=hid HG10.out.kp
    clear crv c1 c2 a0 a1 a2 a3 a4 a5 hb9 HCK
    obtain⟨⟨a0,a1,a2,a3,a4,a5⟩,_,_⟩:=six HG10.out.blk
    obtain⟨⟨z0,z1,z2,z3,z4,z5⟩,⟨y0,y1,y2,y3,y4,y5⟩,zlt⟩:=six HRZ.out
    cases hc:yM y.m with
    | false=>
     obtain⟨wz,hwz⟩: ∃wz,wz=za w9 r0 0 [.int .i64 0,.float .f64 0,.slice none 0 0,.slice none 0 0,.slice none 0 0,.slice none 0 0]:=⟨_,rfl⟩
     have hbz:Blk wz r0 29 #[.int .i64 0,.float .f64 0,.slice none 0 0,.slice none 0 0,.slice none 0 0,.slice none 0 0]:=by rw[hwz];exact(((((HRZ.out.set_ 0 _).set_ 1 _).set_ 2 _).set_ 3 _).set_ 4 _).set_ 5 _
     have HF:Hid (MdF W.heap.size wz mdZ∧Below W.heap.size W wz∧abe (jE s) mdZ.m 15):=hid (by
      refine⟨fun w'' _=>qS w'',by rw[hwz];exact xA HH.out.2.2.2.2.2.1 HKZ.out (by rw[HRW.out.2.2.2.1];omega) (by rw[HRW.out.2.2.2.2];omega),HGR.out.2 hc⟩)
     unfold za za za za za za za at hwz
     have HWZ:=hid hwz
     have HBZ:=hid hbz
     clear hwz hbz hc
     simp only[Bool.false_eq_true,if_false]
     go_wp2
     rw[←HWZ.out]
     have hbz:=HBZ.out
     obtain⟨⟨v0,v1,v2,v3,v4,v5⟩,_,_⟩:=six hbz
     refine bodyPost_ret (v:= .tuple #[.agg #[.int .i64 0,.float .f64 0,.slice none 0 0,.slice none 0 0,.slice none 0 0,.slice none 0 0],.int .i64 15]) (by simp[results,Tryz.results48,go_sem,v0,v1,v2,v3,v4,v5]) rfl ⟨_,15,rfl,HF.out⟩
    | true=>
     obtain⟨wz,hwz⟩: ∃wz,wz=za w9 r0 0 [.int .i64 sd,.float .f64 en,.slice xdp xdn xdc,.slice xpp xpn xpc,.slice xlp xln xlc,.slice xip xin xic]:=⟨_,rfl⟩
     have hbz:Blk wz r0 29 #[.int .i64 sd,.float .f64 en,.slice xdp xdn xdc,.slice xpp xpn xpc,.slice xlp xln xlc,.slice xip xin xic]:=by rw[hwz];exact(((((HRZ.out.set_ 0 _).set_ 1 _).set_ 2 _).set_ 3 _).set_ 4 _).set_ 5 _
     have HF:Hid (MdF W.heap.size wz y∧Below W.heap.size W wz∧abe (jE s) y.m 0):=hid (by
      refine⟨fun w'' he=>by rw[HYE.out];exact HG10.out.md2 Hxd.out.1 Hxp.out.1 Hxl.out.1 Hxi.out.1 HRZ.out (fun b hlo hlt hbn=>(he b (Nat.le_trans HH.out.2.2.2.2.2.1.size hlo) (by rw[hwz,xO];exact hlt)).trans (by rw[hwz];exact yB _ _ _ _ _ hbn)),by rw[hwz];exact xA HH.out.2.2.2.2.2.1 HKZ.out (by rw[HRW.out.2.2.2.1];omega) (by rw[HRW.out.2.2.2.2];omega),by have:=HGR.out.1;rw[hc]at this;exact this⟩)
     unfold za za za za za za za at hwz
     have HWZ:=hid hwz
     have HBZ:=hid hbz
     clear hwz hbz hc
     simp only[if_true]
     go_wp2
     rw[←HWZ.out]
     have hbz:=HBZ.out
     obtain⟨⟨v0,v1,v2,v3,v4,v5⟩,_,_⟩:=six hbz
     refine bodyPost_ret (v:= .tuple #[.agg #[.int .i64 sd,.float .f64 en,.slice xdp xdn xdc,.slice xpp xpn xpc,.slice xlp xln xlc,.slice xip xin xic],.int .i64 0]) (by simp[results,Tryz.results48,go_sem,v0,v1,v2,v3,v4,v5]) rfl ⟨y,0,by rw[HYE.out];rfl,HF.out⟩
end
section
open Go.RowKit Go.Lib
def HdP (W:World) (ws:List Bs) (e:Ending) (w':World):Prop:= ∃(sec fr:Int) (y:MdV),e= .returned (.tuple #[.agg (scC ⟨sec,fr,y,none,0,0,[]⟩).toArray,.bool (yg ws).isSome])∧(∀z,yg ws=some z→(ScV.mk sec fr y none 0 0 []).s=z)∧MdF W.heap.size w' y∧Below W.heap.size W w'
theorem Xe {w w':World} {b:Nat} (e:w'.heap[b]? =w.heap[b]?) (h:b<w.heap.size):b<w'.heap.size:=by
 rw[Array.getElem?_eq_getElem h]at e
 exact(Array.getElem?_eq_some_iff.1 e).1
theorem zZ {w:World} {g:Nat} {T:TypeId} {a b c d e f i j k:Value} (h:Blk w g T #[a,b,c,d,e,f,i,j,k]):w.cell? ⟨g,0,none⟩=some a∧w.cell? ⟨g,1,none⟩=some b∧w.cell? ⟨g,2,none⟩=some c∧w.cell? ⟨g,3,none⟩=some d∧w.cell? ⟨g,4,none⟩=some e∧w.cell? ⟨g,5,none⟩=some f∧w.cell? ⟨g,6,none⟩=some i∧w.cell? ⟨g,7,none⟩=some j∧w.cell? ⟨g,8,none⟩=some k:=
 ⟨h.cell 0,h.cell 1,h.cell 2,h.cell 3,h.cell 4,h.cell 5,h.cell 6,h.cell 7,h.cell 8⟩
theorem yA {w:World} {g:Nat} {T:TypeId} {a b c d e f i j k:Value} (h:Blk w g T #[a,b,c,d,e,f,i,j,k]):w.frozen? ⟨g,0,none⟩=false∧w.frozen? ⟨g,1,none⟩=false∧w.frozen? ⟨g,2,none⟩=false∧w.frozen? ⟨g,3,none⟩=false∧w.frozen? ⟨g,4,none⟩=false∧w.frozen? ⟨g,5,none⟩=false∧w.frozen? ⟨g,6,none⟩=false∧w.frozen? ⟨g,7,none⟩=false∧w.frozen? ⟨g,8,none⟩=false∧g<w.heap.size:=
 ⟨h.frozen 0,h.frozen 1,h.frozen 2,h.frozen 3,h.frozen 4,h.frozen 5,h.frozen 6,h.frozen 7,h.frozen 8,h.lt⟩
theorem zS {W w:World} {r:Nat} {T:TypeId} {a b c d e f i j k:Value} (h:Below W.heap.size W w) (hb:Blk w r T #[a,b,c,d,e,f,i,j,k]) (hr:W.heap.size≤r) (l:List Value) (hl:l.length=9): ∃wz,wz=za w r 0 l∧Blk wz r T l.toArray∧Below W.heap.size W wz∧ ∀b,b≠r→wz.heap[b]? =w.heap[b]? :=by
 obtain⟨a',b',c',d',e',f',i',j',k',rfl⟩: ∃a b c d e f i j k,l=[a,b,c,d,e,f,i,j,k]:=by
  match l,hl with
  | [a,b,c,d,e,f,i,j,k],_=>exact⟨a,b,c,d,e,f,i,j,k,rfl⟩
 have h1:Blk (w.setCell ⟨r,0,none⟩ a') r T #[a',b,c,d,e,f,i,j,k]:=hb.set_ 0 a'
 have h2:Blk _ r T #[a',b',c,d,e,f,i,j,k]:=h1.set_ 1 b'
 have h3:Blk _ r T #[a',b',c',d,e,f,i,j,k]:=h2.set_ 2 c'
 have h4:Blk _ r T #[a',b',c',d',e,f,i,j,k]:=h3.set_ 3 d'
 have h5:Blk _ r T #[a',b',c',d',e',f,i,j,k]:=h4.set_ 4 e'
 have h6:Blk _ r T #[a',b',c',d',e',f',i,j,k]:=h5.set_ 5 f'
 have h7:Blk _ r T #[a',b',c',d',e',f',i',j,k]:=h6.set_ 6 i'
 have h8:Blk _ r T #[a',b',c',d',e',f',i',j',k]:=h7.set_ 7 j'
 have h9:Blk _ r T #[a',b',c',d',e',f',i',j',k']:=h8.set_ 8 k'
 refine⟨_,rfl,h9,?_,fun b hb=>yB _ _ _ _ _ hb⟩
 exact h.trans ((zU (O:=[r]) (.inl (by simp)) _ w 0 (Kp.refl _ _)).to_below h.size fun x hx=>by
  simp at hx
  omega)
theorem ah3 (ws:List Bs) (p:Option Addr) (n c:Nat) (hn:n=ws.length) (h0:ws≠[]) (hl: ∀x∈ws,x.length≤90000) (W:World) (hv:Vw 1 jQ W (.slice p n c) ws):Calls Tryz.prog 20 #[.slice p n c] W (HdP W ws):=by
 obtain⟨gb,off,cc,e1,e2,e3,e4⟩:=hv.ex h0
 injection e1 with e1 e5 e6
 subst e1 e6
 obtain⟨w0,hw0⟩: ∃w0,w0=ws.getD 0 []:=⟨_,rfl⟩
 have hg0:ws[0]? =some w0:=by
  rw[hw0]
  cases ws with
  |nil=>exact absurd rfl h0
  |cons a l=>rfl
 have HC:Hid (∀W',Below W.heap.size W W'→ ∀i x,ws[i]? =some x→W'.cell? ⟨gb,off+i,none⟩=some (.string (S x))):=hid fun W' hb i x hx=>by
  have:=e4 i x hx 0 (.string (S x)) rfl
  rw[←this]
  simpa using World.cell?_of_block (hb.block gb e3)
 have hlen:1≤n:=by rw[hn];exact List.length_pos_iff.2 h0
 have HW:=hid (⟨hn,h0,hg0,e3,hw0,hl⟩:_∧_∧_∧_∧_∧_)
 clear hv e2 e3 e4 e5 hn h0 hg0 hw0 hl
 obtain⟨r0,hr0⟩: ∃n,n=W.heap.size:=⟨_,rfl⟩
 obtain⟨W2,hW2⟩: ∃W2,W2=W.alloc (.cells #[.int .i64 0,.int .i64 0,.int .i64 0,.float .f64 0,.slice none 0 0,.slice none 0 0,.slice none 0 0,.slice none 0 0,.slice none 0 0] 32):=⟨_,rfl⟩
 have HR:Hid (Below W.heap.size W W2∧Blk W2 r0 32 #[.int .i64 0,.int .i64 0,.int .i64 0,.float .f64 0,.slice none 0 0,.slice none 0 0,.slice none 0 0,.slice none 0 0,.slice none 0 0]):=hid ⟨by rw[hW2];exact(Below.refl _ W).alloc (Nat.le_refl _) _,by rw[hW2,hr0];exact Blk.new W _ _⟩
 have HRW:=hid (⟨hr0,hW2⟩:_∧_)
 clear hr0 hW2
 go_enter Tryz.func20,Tryz.ntmps20
 go_upto_region 1 with fail
 rw[←HRW.out.1,←HRW.out.2]
 have hc0:=HC.out _ HR.out.1 0 w0 HW.out.2.2.1
 rw[Nat.add_zero]at hc0
 by_cases hn4:n=4
 ·subst hn4
  by_cases hw:w0=[119,111,114,108,100]
  ·subst hw
   obtain⟨w1,hw1⟩: ∃x,ws[1]? =some x:=⟨_,List.getElem?_eq_getElem (by rw[←HW.out.1];omega)⟩
   have HW1:Hid (ws.getD 1 []=w1∧w1.length≤90000):=hid ⟨by rw[List.getD_eq_getElem?_getD,hw1];rfl,HW.out.2.2.2.2.2 _ (List.mem_of_getElem? hw1)⟩
   have HC1:=hid (fun W' hb=>HC.out W' hb 1 w1 hw1)
   clear hw1
   obtain⟨w2,hw2⟩: ∃x,ws[2]? =some x:=⟨_,List.getElem?_eq_getElem (by rw[←HW.out.1];omega)⟩
   have HW2:Hid (ws.getD 2 []=w2∧w2.length≤90000):=hid ⟨by rw[List.getD_eq_getElem?_getD,hw2];rfl,HW.out.2.2.2.2.2 _ (List.mem_of_getElem? hw2)⟩
   have HC2:=hid (fun W' hb=>HC.out W' hb 2 w2 hw2)
   clear hw2
   obtain⟨w3,hw3⟩: ∃x,ws[3]? =some x:=⟨_,List.getElem?_eq_getElem (by rw[←HW.out.1];omega)⟩
   have HW3:Hid (ws.getD 3 []=w3∧w3.length≤90000):=hid ⟨by rw[List.getD_eq_getElem?_getD,hw3];rfl,HW.out.2.2.2.2.2 _ (List.mem_of_getElem? hw3)⟩
   have HC3:=hid (fun W' hb=>HC.out W' hb 3 w3 hw3)
   clear hw3
   have HO:Hid (yg ws=match yR w1,yR w2,xr w3 with
    |some n,some f,some s=>(match jE s with
     |some m=>some ⟨n,f,m,[]⟩
     |none=>none)
    |_,_,_=>none):=hid (by
     unfold yg
     rw[if_pos ⟨HW.out.1.symm,HW.out.2.2.2.2.1.symm⟩,HW1.out.1,HW2.out.1,HW3.out.1]
     rfl)
   obtain⟨o1,ho1⟩: ∃o,o=yR w1:=⟨_,rfl⟩
   obtain⟨o2,ho2⟩: ∃o,o=yR w2:=⟨_,rfl⟩
   obtain⟨o3,ho3⟩: ∃o,o=xr w3:=⟨_,rfl⟩
   have HN1:Hid (∀w,Calls Tryz.prog 46 #[.string (S w1)] w fun e w'=> ∃n:Int,e= .returned (.tuple #[.int .i64 n,.bool o1.isSome])∧(∀k,o1=some k→n=k)∧w=w'):=hid (by rw[ho1];exact kJ w1 HW1.out.2)
   have HN2:Hid (∀w,Calls Tryz.prog 46 #[.string (S w2)] w fun e w'=> ∃n:Int,e= .returned (.tuple #[.int .i64 n,.bool o2.isSome])∧(∀k,o2=some k→n=k)∧w=w'):=hid (by rw[ho2];exact kJ w2 HW2.out.2)
   have HN3:Hid (∀w,Calls Tryz.prog 47 #[.string (S w3)] w fun e w'=> ∃v:Bs,e= .returned (.tuple #[.string (S v),.bool o3.isSome])∧(∀z,o3=some z→v=z)∧v.length≤w3.length∧Below w.heap.size w w'):=hid (by rw[ho3];exact aii w3 HW3.out.2)
   rw[←ho1,←ho2,←ho3]at HO
   clear ho1 ho2 ho3
   have c1:=HC1.out _ HR.out.1
   have c2:=HC2.out _ HR.out.1
   have c3:=HC3.out _ HR.out.1
   go_upto_region 3 with fail
   have HF:=hid (HN1.out W2)
   go_wp2_with fail
   (with_reducible refine HF.out.mono ?_)
   rintro r w6 ⟨sec,rfl,hs1,rfl⟩
   have HF:=hid (HN2.out W2)
   go_wp2_with fail
   (with_reducible refine HF.out.mono ?_)
   rintro r w6 ⟨fr,rfl,hs2,rfl⟩
   have HF:=hid (HN3.out W2)
   go_wp2_with fail
   (with_reducible refine HF.out.mono ?_)
   rintro r w5 ⟨raw,rfl,hs3,hrl,hb5⟩
   have HT:=hid (⟨hs1,hs2,hs3⟩:_∧_∧_)
   have HR:=hid (⟨HR.out.1.trans (hb5.mono HR.out.1.size),HR.out.2.below hb5 HR.out.2.lt⟩:Below W.heap.size W w5∧Blk w5 r0 _ _)
   have HF:=hid (ai4 (s:=raw) (Nat.le_trans hrl (Nat.le_trans HW3.out.2 (by decide))) w5)
   have HLT:Hid (r0<w5.heap.size):=hid HR.out.2.lt
   have HB5:Hid (W.heap.size≤w5.heap.size):=hid HR.out.1.size
   clear hs1 hs2 hs3 hb5 hrl c1 c2 c3 hc0
   go_wp2_with fail
   (with_reducible refine HF.out.mono ?_)
   rintro r w6 ⟨y,ee,rfl,hmf,hb6,hgr⟩
   have HY:=hid (⟨hmf,hgr⟩:_∧_)
   have HR:=hid (⟨HR.out.1.trans (hb6.mono HR.out.1.size),HR.out.2.below hb6 HR.out.2.lt⟩:Below W.heap.size W w6∧Blk w6 r0 _ _)
   have HS6:=hid hb6.size
   clear hmf hgr hb6 HF
   obtain⟨yy,hyy⟩: ∃yy,yy=y:=⟨_,rfl⟩
   have HYY:=hid hyy
   rw[←hyy]at HY
   clear hyy
   obtain⟨sd,en,dp,dn,dc,dl,pp,pn,pc,ps,lp,ln,lc,ls,ip,im,ic,is⟩:=y
   unfold mdC
   go_upto_region 7 with fail
   obtain⟨w7,hw7⟩: ∃w7,w7=w6.alloc (.cells #[.int .i64 sd,.float .f64 en,.slice dp dn dc,.slice pp pn pc,.slice lp ln lc,.slice ip im ic] 29):=⟨_,rfl⟩
   obtain⟨m7,hm7⟩: ∃n,n=w6.heap.size:=⟨_,rfl⟩
   rw[←hm7,←hw7]
   have hb7:Blk w7 m7 29 #[.int .i64 sd,.float .f64 en,.slice dp dn dc,.slice pp pn pc,.slice lp ln lc,.slice ip im ic]:=by rw[hw7,hm7];exact Blk.new _ _ _
   have HR:=hid (⟨by rw[hw7];exact HR.out.1.alloc HR.out.1.size _,by rw[hw7];exact HR.out.2.alloc _⟩:Below W.heap.size W w7∧Blk w7 r0 32 #[.int .i64 0,.int .i64 0,.int .i64 0,.float .f64 0,.slice none 0 0,.slice none 0 0,.slice none 0 0,.slice none 0 0,.slice none 0 0])
   have HSA:Hid (∀wz,(∀b,b≠r0→wz.heap[b]? =w7.heap[b]?)→MdF W.heap.size wz yy):=hid fun wz h w2 h2=>HY.out.1 w2 fun b h1 h3=>by
    have e:wz.heap[b]? =w6.heap[b]? :=(h b (by have:=HLT.out;omega)).trans (by rw[hw7];exact Below.heap_alloc _ _ _ h3)
    exact(h2 b (by have:=HR.out.1.size;have:=HB5.out;omega) (Xe e h3)).trans e
   obtain⟨⟨a0,a1,a2,a3,a4,a5⟩,_,_⟩:=six hb7
   clear hw7 hm7 hb7
   cases o1 with
   |none=>
    have HO:Hid (yg ws=none):=hid HO.out
    obtain⟨z0,z1,z2,z3,z4,z5,z6,z7,z8⟩:=zZ HR.out.2
    obtain⟨y0,y1,y2,y3,y4,y5,y6,y7,y8,zlt⟩:=yA HR.out.2
    obtain⟨wz,hwz,hbz,hfz,hoz⟩:=zS HR.out.1 HR.out.2 (by rw[HRW.out.1];omega) [.int .i64 sec,.int .i64 fr,.int .i64 sd,.float .f64 en,.slice dp dn dc,.slice pp pn pc,.slice lp ln lc,.slice ip im ic,.slice none 0 0] rfl
    unfold za za za za za za za za za za at hwz
    have HZ:=hid (⟨hwz,hbz,hfz,hoz⟩:_∧_∧_∧_)
    clear hwz hbz hfz hoz
    go_wp2
    rw[←HZ.out.1]
    obtain⟨v0,v1,v2,v3,v4,v5,v6,v7,v8⟩:=zZ HZ.out.2.1
    refine bodyPost_ret (v:= .tuple #[.agg #[.int .i64 sec,.int .i64 fr,.int .i64 sd,.float .f64 en,.slice dp dn dc,.slice pp pn pc,.slice lp ln lc,.slice ip im ic,.slice none 0 0],.bool false]) (by simp[results,Tryz.results20,go_sem,v0,v1,v2,v3,v4,v5,v6,v7,v8]) rfl ?_
    exact⟨sec,fr,yy,by rw[HO.out,HYY.out];rfl,(fun z hz=>by rw[HO.out]at hz;cases hz),HSA.out _ HZ.out.2.2.2,HZ.out.2.2.1⟩
   | some n1=>
    cases o2 with
    |none=>
     have HO:Hid (yg ws=none):=hid HO.out
     obtain⟨z0,z1,z2,z3,z4,z5,z6,z7,z8⟩:=zZ HR.out.2
     obtain⟨y0,y1,y2,y3,y4,y5,y6,y7,y8,zlt⟩:=yA HR.out.2
     obtain⟨wz,hwz,hbz,hfz,hoz⟩:=zS HR.out.1 HR.out.2 (by rw[HRW.out.1];omega) [.int .i64 sec,.int .i64 fr,.int .i64 sd,.float .f64 en,.slice dp dn dc,.slice pp pn pc,.slice lp ln lc,.slice ip im ic,.slice none 0 0] rfl
     unfold za za za za za za za za za za at hwz
     have HZ:=hid (⟨hwz,hbz,hfz,hoz⟩:_∧_∧_∧_)
     clear hwz hbz hfz hoz
     go_wp2
     rw[←HZ.out.1]
     obtain⟨v0,v1,v2,v3,v4,v5,v6,v7,v8⟩:=zZ HZ.out.2.1
     refine bodyPost_ret (v:= .tuple #[.agg #[.int .i64 sec,.int .i64 fr,.int .i64 sd,.float .f64 en,.slice dp dn dc,.slice pp pn pc,.slice lp ln lc,.slice ip im ic,.slice none 0 0],.bool false]) (by simp[results,Tryz.results20,go_sem,v0,v1,v2,v3,v4,v5,v6,v7,v8]) rfl ?_
     exact⟨sec,fr,yy,by rw[HO.out,HYY.out];rfl,(fun z hz=>by rw[HO.out]at hz;cases hz),HSA.out _ HZ.out.2.2.2,HZ.out.2.2.1⟩
    | some f1=>
     cases o3 with
     |none=>
      have HO:Hid (yg ws=none):=hid HO.out
      obtain⟨z0,z1,z2,z3,z4,z5,z6,z7,z8⟩:=zZ HR.out.2
      obtain⟨y0,y1,y2,y3,y4,y5,y6,y7,y8,zlt⟩:=yA HR.out.2
      obtain⟨wz,hwz,hbz,hfz,hoz⟩:=zS HR.out.1 HR.out.2 (by rw[HRW.out.1];omega) [.int .i64 sec,.int .i64 fr,.int .i64 sd,.float .f64 en,.slice dp dn dc,.slice pp pn pc,.slice lp ln lc,.slice ip im ic,.slice none 0 0] rfl
      unfold za za za za za za za za za za at hwz
      have HZ:=hid (⟨hwz,hbz,hfz,hoz⟩:_∧_∧_∧_)
      clear hwz hbz hfz hoz
      go_wp2
      rw[←HZ.out.1]
      obtain⟨v0,v1,v2,v3,v4,v5,v6,v7,v8⟩:=zZ HZ.out.2.1
      refine bodyPost_ret (v:= .tuple #[.agg #[.int .i64 sec,.int .i64 fr,.int .i64 sd,.float .f64 en,.slice dp dn dc,.slice pp pn pc,.slice lp ln lc,.slice ip im ic,.slice none 0 0],.bool false]) (by simp[results,Tryz.results20,go_sem,v0,v1,v2,v3,v4,v5,v6,v7,v8]) rfl ?_
      exact⟨sec,fr,yy,by rw[HO.out,HYY.out];rfl,(fun z hz=>by rw[HO.out]at hz;cases hz),HSA.out _ HZ.out.2.2.2,HZ.out.2.2.1⟩
     | some s3=>
      have HG:Hid (yg ws=if ee=0 then some ⟨n1,f1,yy.m,[]⟩else none):=hid (by
       rw[HO.out]
       have h:=HY.out.2
       rw[HT.out.2.2 _ rfl]at h
       show(match jE s3 with
        |some m=>(some ⟨n1,f1,m,[]⟩:Option Scr)
        |none=>none)=_
       cases hg:jE s3 with
       |none=>rw[hg]at h;exact(if_neg h).symm
       |some x=>rw[hg]at h;rw[if_pos h.1,h.2])
      by_cases he:ee=0
      ·have HO:Hid (yg ws=some ⟨n1,f1,yy.m,[]⟩):=hid (by rw[HG.out,if_pos he])
       have heb:(ee==0)=true:=by rw[beq_iff_eq];exact he
       clear he
       obtain⟨z0,z1,z2,z3,z4,z5,z6,z7,z8⟩:=zZ HR.out.2
       obtain⟨y0,y1,y2,y3,y4,y5,y6,y7,y8,zlt⟩:=yA HR.out.2
       obtain⟨wz,hwz,hbz,hfz,hoz⟩:=zS HR.out.1 HR.out.2 (by rw[HRW.out.1];omega) [.int .i64 sec,.int .i64 fr,.int .i64 sd,.float .f64 en,.slice dp dn dc,.slice pp pn pc,.slice lp ln lc,.slice ip im ic,.slice none 0 0] rfl
       unfold za za za za za za za za za za at hwz
       have HZ:=hid (⟨hwz,hbz,hfz,hoz⟩:_∧_∧_∧_)
       clear hwz hbz hfz hoz
       go_wp2
       rw[←HZ.out.1]
       obtain⟨v0,v1,v2,v3,v4,v5,v6,v7,v8⟩:=zZ HZ.out.2.1
       refine bodyPost_ret (v:= .tuple #[.agg #[.int .i64 sec,.int .i64 fr,.int .i64 sd,.float .f64 en,.slice dp dn dc,.slice pp pn pc,.slice lp ln lc,.slice ip im ic,.slice none 0 0],.bool true]) (by simp[results,Tryz.results20,go_sem,v0,v1,v2,v3,v4,v5,v6,v7,v8]) rfl ?_
       exact⟨sec,fr,yy,by rw[HO.out,HYY.out];rfl,(fun z hz=>by rw[HO.out]at hz;injection hz with hz;rw[←hz,←HT.out.1 _ rfl,←HT.out.2.1 _ rfl];rfl),HSA.out _ HZ.out.2.2.2,HZ.out.2.2.1⟩
      ·have HO:Hid (yg ws=none):=hid (by rw[HG.out,if_neg he])
       have heb:(ee==0)=false:=by rw[beq_eq_false_iff_ne];exact he
       clear he
       obtain⟨z0,z1,z2,z3,z4,z5,z6,z7,z8⟩:=zZ HR.out.2
       obtain⟨y0,y1,y2,y3,y4,y5,y6,y7,y8,zlt⟩:=yA HR.out.2
       obtain⟨wz,hwz,hbz,hfz,hoz⟩:=zS HR.out.1 HR.out.2 (by rw[HRW.out.1];omega) [.int .i64 sec,.int .i64 fr,.int .i64 sd,.float .f64 en,.slice dp dn dc,.slice pp pn pc,.slice lp ln lc,.slice ip im ic,.slice none 0 0] rfl
       unfold za za za za za za za za za za at hwz
       have HZ:=hid (⟨hwz,hbz,hfz,hoz⟩:_∧_∧_∧_)
       clear hwz hbz hfz hoz
       go_wp2
       rw[←HZ.out.1]
       obtain⟨v0,v1,v2,v3,v4,v5,v6,v7,v8⟩:=zZ HZ.out.2.1
       refine bodyPost_ret (v:= .tuple #[.agg #[.int .i64 sec,.int .i64 fr,.int .i64 sd,.float .f64 en,.slice dp dn dc,.slice pp pn pc,.slice lp ln lc,.slice ip im ic,.slice none 0 0],.bool false]) (by simp[results,Tryz.results20,go_sem,v0,v1,v2,v3,v4,v5,v6,v7,v8]) rfl ?_
       exact⟨sec,fr,yy,by rw[HO.out,HYY.out];rfl,(fun z hz=>by rw[HO.out]at hz;cases hz),HSA.out _ HZ.out.2.2.2,HZ.out.2.2.1⟩
  ·have HO:Hid (yg ws=none):=hid (by
    unfold yg
    rw[if_neg]
    rintro⟨-,h⟩
    exact hw (by rw[HW.out.2.2.2.2.1,h]))
   have hwb:(w0==[119,111,114,108,100])=false:=by simpa using hw
   have hwc:(w0 != [119,111,114,108,100])=true:=by rw[bne,hwb];rfl
   clear hw
   obtain⟨z0,z1,z2,z3,z4,z5,z6,z7,z8⟩:=zZ HR.out.2
   obtain⟨y0,y1,y2,y3,y4,y5,y6,y7,y8,zlt⟩:=yA HR.out.2
   obtain⟨wz,hwz,hbz,hfz,hoz⟩:=zS HR.out.1 HR.out.2 (by rw[HRW.out.1];omega) [.int .i64 0,.int .i64 0,.int .i64 0,.float .f64 0,.slice none 0 0,.slice none 0 0,.slice none 0 0,.slice none 0 0,.slice none 0 0] rfl
   unfold za za za za za za za za za za at hwz
   have HZ:=hid (⟨hwz,hbz,hfz,hoz⟩:_∧_∧_∧_)
   clear hwz hbz hfz hoz
   go_wp2
   rw[←HZ.out.1]
   obtain⟨v0,v1,v2,v3,v4,v5,v6,v7,v8⟩:=zZ HZ.out.2.1
   refine bodyPost_ret (v:= .tuple #[.agg #[.int .i64 0,.int .i64 0,.int .i64 0,.float .f64 0,.slice none 0 0,.slice none 0 0,.slice none 0 0,.slice none 0 0,.slice none 0 0],.bool false]) (by simp[results,Tryz.results20,go_sem,v0,v1,v2,v3,v4,v5,v6,v7,v8]) rfl ?_
   exact⟨0,0,mdZ,by rw[HO.out];rfl,(fun z hz=>by rw[HO.out]at hz;cases hz),fun _ _=>qS _,HZ.out.2.2.1⟩
 ·have HO:Hid (yg ws=none):=hid (by
   unfold yg
   rw[if_neg]
   rintro⟨h,-⟩
   exact hn4 (by rw[HW.out.1,h]))
  have hnz:((n:Int)==4)=false:=by rw[beq_eq_false_iff_ne];omega
  have hnz2:((n:Int) != 4)=true:=by rw[bne_iff_ne];omega
  obtain⟨z0,z1,z2,z3,z4,z5,z6,z7,z8⟩:=zZ HR.out.2
  obtain⟨y0,y1,y2,y3,y4,y5,y6,y7,y8,zlt⟩:=yA HR.out.2
  obtain⟨wz,hwz,hbz,hfz,hoz⟩:=zS HR.out.1 HR.out.2 (by rw[HRW.out.1];omega) [.int .i64 0,.int .i64 0,.int .i64 0,.float .f64 0,.slice none 0 0,.slice none 0 0,.slice none 0 0,.slice none 0 0,.slice none 0 0] rfl
  unfold za za za za za za za za za za at hwz
  have HZ:=hid (⟨hwz,hbz,hfz,hoz⟩:_∧_∧_∧_)
  clear hwz hbz hfz hoz
  go_wp2
  rw[←HZ.out.1]
  obtain⟨v0,v1,v2,v3,v4,v5,v6,v7,v8⟩:=zZ HZ.out.2.1
  refine bodyPost_ret (v:= .tuple #[.agg #[.int .i64 0,.int .i64 0,.int .i64 0,.float .f64 0,.slice none 0 0,.slice none 0 0,.slice none 0 0,.slice none 0 0,.slice none 0 0],.bool false]) (by simp[results,Tryz.results20,go_sem,v0,v1,v2,v3,v4,v5,v6,v7,v8]) rfl ?_
  exact⟨0,0,mdZ,by rw[HO.out];rfl,(fun z hz=>by rw[HO.out]at hz;cases hz),fun _ _=>qS _,HZ.out.2.2.1⟩
end
end Go.Proofs.YtcdiljebkpikbaaGreat
