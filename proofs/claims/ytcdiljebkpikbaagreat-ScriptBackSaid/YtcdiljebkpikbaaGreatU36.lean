/- Parts of the proof: Sck Sdi Sed. -/
import Derived.Test.YtcdiljebkpikbaaGreatU31
import Derived.Test.YtcdiljebkpikbaaGreatU33
import Derived.Test.YtcdiljebkpikbaaGreatU34
import Derived.Test.YtcdiljebkpikbaaGreatU35
set_option linter.all false
set_option maxRecDepth 100000
set_option maxHeartbeats 64000000
namespace Go.Proofs.YtcdiljebkpikbaaGreat
section
open Go.RowKit Go.Lib
def za (W:World) (b:Nat):Nat→List Value→World
 |_,[]=>W
 |i,v::l=>za (W.setCell ⟨b,i,none⟩ v) b (i+1) l
theorem yB (b:Nat) (l:List Value): ∀(W:World) (i c:Nat),c≠b→(za W b i l).heap[c]? =W.heap[c]? :=by
 induction l with
 |nil=>intro W i c h;rfl
 |cons v l ih=>intro W i c h;exact(ih _ _ _ h).trans (Below.heap_setCell _ _ _ _ h)
theorem zU {O:List Nat} {w:World} {b:Nat} (hb:b∈O∨w.heap.size≤b) (l:List Value): ∀(W:World) (i:Nat),Kp O w W→Kp O w (za W b i l):=by
 induction l with
 |nil=>intro W i h;exact h
 |cons v l ih=>intro W i h;exact ih _ _ (h.setCell hb v)
theorem Qr {W:World} {g b i:Nat} {s:Bs} {st:Option Nat} {l:List Value} (h:RdM W g s st) (hn:g≠b):RdM (za W b i l) g s st:=by
 obtain⟨a,e,h1,h2⟩:=h
 exact⟨a,e,(yB b l W i g hn).trans h1,h2⟩
section
variable {W0 W:World} {g rv iv k:Nat} {s:Bs}
theorem aiU (hv:Blk W0 rv 152 #[.pointer (some ⟨g,0,none⟩)]) (hs:s.length≤1000000) (h:RdM W g s (some k)) (h0:Kp [g] W0 W) (hg:g<W0.heap.size) (hgv:g≠rv):
  Calls Tryz.prog 88 #[.pointer (some ⟨rv,0,none⟩)] W fun r w'=> ∃x:In,r= .returned (.agg #[.int .i64 x.op,.int .i64 x.a,.int .i64 x.b,.int .i64 x.c])∧x=(xR s (some k)).1∧RdM w' g s (xR s (some k)).2∧Kp [g] W w':=by
 obtain⟨W1,hW1⟩: ∃W1,W1=W.alloc (.cells #[.int .i64 0,.int .i64 0,.int .i64 0,.int .i64 0] 84):=⟨_,rfl⟩
 have hb1:Below W.heap.size W W1:=by rw[hW1];exact(Below.refl _ W).alloc (Nat.le_refl _) _
 have hB1:Blk W1 W.heap.size 84 #[.int .i64 0,.int .i64 0,.int .i64 0,.int .i64 0]:=by rw[hW1];exact Blk.new W _ _
 have hgW:g<W.heap.size:=Nat.lt_of_lt_of_le hg h0.size
 have HV:Hid (∀W',Kp [g] W1 W'→W'.cell? ⟨rv,0,none⟩=some (.pointer (some ⟨g,0,none⟩))∧Blk W' W.heap.size 84 #[.int .i64 0,.int .i64 0,.int .i64 0,.int .i64 0]):=hid fun W' hk=>by
  have hvw:=((hv.kp h0 (by simp;exact Ne.symm hgv)).below hb1 (Nat.lt_of_lt_of_le hv.lt h0.size)).kp hk (by simp;exact Ne.symm hgv)
  exact⟨hvw.cell 0,hB1.kp hk (by simp;omega)⟩
 have HR1:Hid (RdM W1.drew g s (some k)∧Kp [g] W1 W1.drew):=hid ⟨(h.below hb1).kp (Kp.refl [] _).drew (by simp),(Kp.refl _ _).drew⟩
 have HH:=hid (⟨hs,hb1,hgW⟩:_∧_∧_)
 have HW1:=hid hW1
 clear hv hs h h0 hg hgv hW1 hb1 hB1 hgW
 go_enter Tryz.func88,Tryz.ntmps88
 go_upto_region 1 with fail
 rw[←HW1.out]
 refine zB (fun W'=>W'.cell? ⟨rv,0,none⟩=some (.pointer (some ⟨g,0,none⟩))) 9 (by kernel_rfl) (HV.out _ HR1.out.2).1 (fun hHeld=>?_)
 refine eT 0 hHeld ?_;(try simp only[Act.put,sEa,sEb,sEc]);refine eT 2 hHeld ?_;(try simp only[Act.put,sEa,sEb,sEc]);refine eT 4 hHeld ?_;(try simp only[Act.put,sEa,sEb,sEc]);refine eT 6 hHeld ?_;(try simp only[Act.put,sEa,sEb,sEc])
 refine eR 1 (fun K hK=>?_)
 go_simp
 (with_reducible refine(zH HR1.out.1 HH.out.1).mono ?_)
 rintro r w2 ⟨rfl,hr2,hk2⟩
 have H2:=hid (⟨hr2,HR1.out.2.trans hk2⟩:_∧_)
 clear hr2 hk2
 refine hK.out _ _ (HV.out _ H2.out.2).1 (fun hHeld=>?_)
 clear hK K
 (try simp only[Act.put,sEa,sEb,sEc])
 refine eR 3 (fun K hK=>?_)
 go_simp
 (with_reducible refine(zH H2.out.1 HH.out.1).mono ?_)
 rintro r w3 ⟨rfl,hr3,hk3⟩
 have H3:=hid (⟨hr3,H2.out.2.trans hk3⟩:_∧_)
 clear hr3 hk3
 refine hK.out _ _ (HV.out _ H3.out.2).1 (fun hHeld=>?_)
 clear hK K
 (try simp only[Act.put,sEa,sEb,sEc])
 refine eR 5 (fun K hK=>?_)
 go_simp
 (with_reducible refine(zH H3.out.1 HH.out.1).mono ?_)
 rintro r w4 ⟨rfl,hr4,hk4⟩
 have H4:=hid (⟨hr4,H3.out.2.trans hk4⟩:_∧_)
 clear hr4 hk4
 refine hK.out _ _ (HV.out _ H4.out.2).1 (fun hHeld=>?_)
 clear hK K
 (try simp only[Act.put,sEa,sEb,sEc])
 refine eR 7 (fun K hK=>?_)
 go_simp
 (with_reducible refine(zH H4.out.1 HH.out.1).mono ?_)
 rintro r w5 ⟨rfl,hr5,hk5⟩
 have H5:=hid (⟨hr5,H4.out.2.trans hk5⟩:_∧_)
 clear hr5 hk5
 refine hK.out _ _ (HV.out _ H5.out.2).1 (fun hHeld=>?_)
 clear hK K
 (try simp only[Act.put,sEa,sEb,sEc])
 refine eT 8 hHeld ?_;(try simp only[Act.put,sEa,sEb,sEc])
 have hb5:=(HV.out _ H5.out.2).2
 have a0:w5.cell? ⟨W.heap.size,0,none⟩=some (.int .i64 0):=hb5.cell 0
 have a1:w5.cell? ⟨W.heap.size,1,none⟩=some (.int .i64 0):=hb5.cell 1
 have a2:w5.cell? ⟨W.heap.size,2,none⟩=some (.int .i64 0):=hb5.cell 2
 have a3:w5.cell? ⟨W.heap.size,3,none⟩=some (.int .i64 0):=hb5.cell 3
 have b0:=hb5.frozen 0
 have b1:=hb5.frozen 1
 have b2:=hb5.frozen 2
 have b3:=hb5.frozen 3
 have hlt:=hb5.lt
 refine eL (fun K hK=>?_);go_simp;refine hK.out _ _ ?_;clear hK K;(try simp only[Act.put,sEa,sEb,sEc])
 obtain⟨z0,hz0⟩: ∃z,z=(rdI s (some k)).1:=⟨_,rfl⟩
 obtain⟨z1,hz1⟩: ∃z,z=(rdI s (rdI s (some k)).2).1:=⟨_,rfl⟩
 obtain⟨z2,hz2⟩: ∃z,z=(rdI s (rdI s (rdI s (some k)).2).2).1:=⟨_,rfl⟩
 obtain⟨z3,hz3⟩: ∃z,z=(rdI s (rdI s (rdI s (rdI s (some k)).2).2).2).1:=⟨_,rfl⟩
 have HZ:Hid ((⟨z0,z1,z2,z3⟩:In)=(xR s (some k)).1):=hid (by rw[hz0,hz1,hz2,hz3];rfl)
 rw[←hz0,←hz1,←hz2,←hz3]
 clear hz0 hz1 hz2 hz3
 obtain⟨w6,hw6⟩: ∃w6,w6=za w5 W.heap.size 0 [.int .i64 z0,.int .i64 z1,.int .i64 z2,.int .i64 z3]:=⟨_,rfl⟩
 have hb6:Blk w6 W.heap.size 84 #[.int .i64 z0,.int .i64 z1,.int .i64 z2,.int .i64 z3]:=by rw[hw6];exact(((hb5.set_ 0 _).set_ 1 _).set_ 2 _).set_ 3 _
 have H6:Hid (RdM w6 g s (xR s (some k)).2∧Kp [g] W w6):=hid (by
  rw[hw6]
  exact⟨Qr H5.out.1 (by have:=HH.out.2.2;omega),zU (.inr (Nat.le_refl _)) _ _ _ ((Kp.of_below HH.out.2.1).trans H5.out.2)⟩)
 unfold za za za za za at hw6
 rw[←hw6]
 clear hw6 hb5 a0 a1 a2 a3 b0 b1 b2 b3 hlt hHeld
 have v0:=hb6.cell 0
 have v1:=hb6.cell 1
 have v2:=hb6.cell 2
 have v3:=hb6.cell 3
 simp only[List.getElem?_toArray,List.getElem?_cons_zero,List.getElem?_cons_succ]at v0 v1 v2 v3
 go_wp2
 refine bodyPost_ret (v:= .agg #[.int .i64 z0,.int .i64 z1,.int .i64 z2,.int .i64 z3]) (by simp[results,Tryz.results88,go_sem,v0,v1,v2,v3]) rfl ⟨⟨z0,z1,z2,z3⟩,rfl,HZ.out,H6.out⟩
theorem aMY (hv:Blk W0 rv 152 #[.pointer (some ⟨g,0,none⟩)]) (hs:s.length≤1000000) (hg:g<W0.heap.size) (hgv:g≠rv):
  RdD W0 g s 88 (#[]++ #[.pointer (some ⟨rv,0,none⟩)]) xR (fun x:In=>x) (fun x:In=>Value.agg #[.int .i64 x.op,.int .i64 x.a,.int .i64 x.b,.int .i64 x.c]) atN:=
 ⟨fun vs W=>Tryz.call88 vs W,fun W k h h0=>(aiU hv hs h h0 hg hgv).mono fun r w' ⟨x,e,h1,h2,h3⟩=>⟨x,e,trivial,h1,h2,h3⟩⟩
theorem aMZ (hs:s.length≤1000000):RdD W0 g s 89 (#[.pointer (some ⟨g,0,none⟩)]++ #[]) rdI (fun x:Int=>x) (fun x:Int=>Value.int .i64 x) atN:=
 ⟨fun vs W=>Tryz.call89 vs W,fun W k h h0=>(zH h hs).mono fun r w' ⟨e,h2,h3⟩=>⟨_,e,trivial,rfl,h2,h3⟩⟩
theorem ajn (hs:s.length≤1000000):RdD W0 g s 90 (#[.pointer (some ⟨g,0,none⟩)]++ #[]) rdF (fun x:Nat=>x) (fun x:Nat=>Value.float .f64 x) atN:=
 ⟨fun vs W=>Tryz.call90 vs W,fun W k h h0=>(xJ h hs).mono fun r w' ⟨e,h2,h3⟩=>⟨_,e,trivial,rfl,h2,h3⟩⟩
theorem agV (hv:Blk W0 rv 152 #[.pointer (some ⟨g,0,none⟩)]) (hi:Blk W0 iv 156 #[.func (.func 88) #[] #[.pointer (some ⟨rv,0,none⟩)]]) (hs:s.length≤1000000) (h:RdM W g s (some k)) (h0:Kp [g] W0 W) (hg:g<W0.heap.size) (hgv:g≠rv) (hgi:g≠iv):
  Calls Tryz.prog 93 #[.pointer (some ⟨rv,0,none⟩),.pointer (some ⟨iv,0,none⟩)] W fun r w'=> ∃x:Prg,r= .returned (.slice x.p x.n x.c)∧atP W.heap.size w' x∧x.l=(rdL xR s (some k)).1∧RdM w' g s (rdL xR s (some k)).2∧Kp [g] W w':=by
 have HI:=hid (abF (aMY hv hs hg hgv) h h0 hs)
 have c0:W.cell? ⟨rv,0,none⟩=some (.pointer (some ⟨g,0,none⟩)):=(hv.kp h0 (by simp;exact Ne.symm hgv)).cell 0
 have c1:W.cell? ⟨iv,0,none⟩=some (.func (.func 88) #[] #[.pointer (some ⟨rv,0,none⟩)]):=(hi.kp h0 (by simp;exact Ne.symm hgi)).cell 0
 clear hv hi hs h h0 hg hgv hgi
 go_enter Tryz.func93,Tryz.ntmps93
 go_wp2_with fail
 (with_reducible refine HI.out.mono ?_)
 rintro r w2 ⟨v,xs,rfl,ho,_,he,hr,hk,_⟩
 obtain⟨p,c,rfl⟩:=zm ho
 obtain⟨n,hn⟩: ∃n,n=xs.length:=⟨_,rfl⟩
 rw[←hn]at ho⊢
 have HF:Hid (atP W.heap.size w2 ⟨p,n,c,xs⟩∧xs=(rdL xR s (some k)).1∧RdM w2 g s (rdL xR s (some k)).2∧Kp [g] W w2):=hid ⟨⟨hn,ho⟩,by rw[←he];simp,hr,hk⟩
 clear ho he hr hk hn c0 c1
 go_wp2
 go_ret
 exact⟨⟨p,n,c,xs⟩,rfl,HF.out⟩
theorem aBQ (hv:Blk W0 rv 152 #[.pointer (some ⟨g,0,none⟩)]) (hi:Blk W0 iv 156 #[.func (.func 88) #[] #[.pointer (some ⟨rv,0,none⟩)]]) (hs:s.length≤1000000) (hg:g<W0.heap.size) (hgv:g≠rv) (hgi:g≠iv):
  RdD W0 g s 93 (#[]++ #[.pointer (some ⟨rv,0,none⟩),.pointer (some ⟨iv,0,none⟩)]) (rdL xR) Prg.l (fun x:Prg=>Value.slice x.p x.n x.c) atP:=
 ⟨fun vs W=>Tryz.call93 vs W,fun W k h h0=>agV hv hi hs h h0 hg hgv hgi⟩
theorem aA7 (hv:Blk W0 rv 152 #[.pointer (some ⟨g,0,none⟩)]) (hs:s.length≤1000000) (h:RdM W g s (some k)) (h0:Kp [g] W0 W) (hg:g<W0.heap.size) (hgv:g≠rv):
  Calls Tryz.prog 96 #[.pointer (some ⟨rv,0,none⟩)] W fun r w'=> ∃x:LpR,r= .returned (.agg #[.int .i64 x.k,.slice x.p x.n x.c])∧atL W.heap.size w' x∧(x.k,x.l)=(acb s (some k)).1∧RdM w' g s (acb s (some k)).2∧Kp [g] W w':=by
 obtain⟨W1,hW1⟩: ∃W1,W1=W.alloc (.cells #[.int .i64 0,.slice none 0 0] 88):=⟨_,rfl⟩
 have hb1:Below W.heap.size W W1:=by rw[hW1];exact(Below.refl _ W).alloc (Nat.le_refl _) _
 have hB1:Blk W1 W.heap.size 88 #[.int .i64 0,.slice none 0 0]:=by rw[hW1];exact Blk.new W _ _
 have hgW:g<W.heap.size:=Nat.lt_of_lt_of_le hg h0.size
 have HV:Hid (∀W',Kp [g] W1 W'→W'.cell? ⟨rv,0,none⟩=some (.pointer (some ⟨g,0,none⟩))∧Blk W' W.heap.size 88 #[.int .i64 0,.slice none 0 0]):=hid fun W' hk=>by
  have hvw:=((hv.kp h0 (by simp;exact Ne.symm hgv)).below hb1 (Nat.lt_of_lt_of_le hv.lt h0.size)).kp hk (by simp;exact Ne.symm hgv)
  exact⟨hvw.cell 0,hB1.kp hk (by simp;omega)⟩
 have HR1:Hid (RdM W1.drew g s (some k)∧Kp [g] W1 W1.drew):=hid ⟨(h.below hb1).kp (Kp.refl [] _).drew (by simp),(Kp.refl _ _).drew⟩
 have HH:=hid (⟨hs,hb1,hgW⟩:_∧_∧_)
 have HW1:=hid hW1
 clear hv hs h h0 hg hgv hW1 hb1 hB1 hgW
 go_enter Tryz.func96,Tryz.ntmps96
 go_upto_region 1 with fail
 rw[←HW1.out]
 refine zB (fun W'=>W'.cell? ⟨rv,0,none⟩=some (.pointer (some ⟨g,0,none⟩))) 7 (by kernel_rfl) (HV.out _ HR1.out.2).1 (fun hHeld=>?_)
 refine eT 0 hHeld ?_;(try simp only[Act.put,sEa,sEb,sEc]);refine eT 2 hHeld ?_;(try simp only[Act.put,sEa,sEb,sEc]);refine eT 3 hHeld ?_;(try simp only[Act.put,sEa,sEb,sEc]);refine eT 4 hHeld ?_;(try simp only[Act.put,sEa,sEb,sEc])
 refine eR 1 (fun K hK=>?_)
 go_simp
 (with_reducible refine(zH HR1.out.1 HH.out.1).mono ?_)
 rintro r w2 ⟨rfl,hr2,hk2⟩
 have H2:=hid (⟨hr2,HR1.out.2.trans hk2⟩:_∧_)
 clear hr2 hk2
 refine hK.out _ _ (HV.out _ H2.out.2).1 (fun hHeld=>?_)
 clear hK K
 (try simp only[Act.put,sEa,sEb,sEc])
 refine eR 5 (fun K hK=>?_)
 go_simp
 (with_reducible refine(abH (W0:=w2) (aMZ HH.out.1) H2.out.1 (Kp.refl _ _) HH.out.1).mono ?_)
 rintro r w3 ⟨v,xs,rfl,ho,_,he,hr3,hk3,_⟩
 obtain⟨p,c,rfl⟩:=zm ho
 obtain⟨n,hn⟩: ∃n,n=xs.length:=⟨_,rfl⟩
 rw[←hn]at ho⊢
 have hxs:xs=(rdL rdI s (rdI s (some k)).2).1:=by rw[←he];simp
 have H3:=hid (⟨hr3,H2.out.2.trans hk3,xL ho (Nat.le_trans HH.out.2.1.size H2.out.2.size),hn,hxs⟩:_∧_∧_∧_∧_)
 clear ho he hr3 hk3 hn hxs
 refine hK.out _ _ (HV.out _ H3.out.2.1).1 (fun hHeld=>?_)
 clear hK K
 (try simp only[Act.put,sEa,sEb,sEc])
 refine eT 6 hHeld ?_;(try simp only[Act.put,sEa,sEb,sEc])
 have hb5:=(HV.out _ H3.out.2.1).2
 have a0:w3.cell? ⟨W.heap.size,0,none⟩=some (.int .i64 0):=hb5.cell 0
 have a1:w3.cell? ⟨W.heap.size,1,none⟩=some (.slice none 0 0):=hb5.cell 1
 have b0:=hb5.frozen 0
 have b1:=hb5.frozen 1
 have hlt:=hb5.lt
 refine eL (fun K hK=>?_);go_simp;refine hK.out _ _ ?_;clear hK K;(try simp only[Act.put,sEa,sEb,sEc])
 obtain⟨z0,hz0⟩: ∃z,z=(rdI s (some k)).1:=⟨_,rfl⟩
 rw[←hz0]
 obtain⟨w6,hw6⟩: ∃w6,w6=za w3 W.heap.size 0 [.int .i64 z0,.slice p n c]:=⟨_,rfl⟩
 have hb6:Blk w6 W.heap.size 88 #[.int .i64 z0,.slice p n c]:=by rw[hw6];exact(hb5.set_ 0 _).set_ 1 _
 have H6:Hid (atL W.heap.size w6 ⟨z0,p,n,c,xs⟩∧(z0,xs)=(acb s (some k)).1∧RdM w6 g s (acb s (some k)).2∧Kp [g] W w6):=hid (by
  rw[hw6]
  refine⟨⟨H3.out.2.2.2.1,xN H3.out.2.2.1 fun b e=>yB _ _ _ _ _ fun e2=>yo H3.out.2.2.1 hb5 (by decide) (e2▸e)⟩,by rw[hz0,H3.out.2.2.2.2];rfl,Qr H3.out.1 (by have:=HH.out.2.2;omega),zU (.inr (Nat.le_refl _)) _ _ _ ((Kp.of_below HH.out.2.1).trans H3.out.2.1)⟩)
 unfold za za za at hw6
 rw[←hw6]
 clear hw6 hb5 a0 a1 b0 b1 hlt hHeld hz0
 have v0:=hb6.cell 0
 have v1:=hb6.cell 1
 simp only[List.getElem?_toArray,List.getElem?_cons_zero,List.getElem?_cons_succ]at v0 v1
 go_wp2
 refine bodyPost_ret (v:= .agg #[.int .i64 z0,.slice p n c]) (by simp[results,Tryz.results96,go_sem,v0,v1]) rfl ⟨⟨z0,p,n,c,xs⟩,rfl,H6.out⟩
theorem aR8 (hv:Blk W0 rv 152 #[.pointer (some ⟨g,0,none⟩)]) (hs:s.length≤1000000) (hg:g<W0.heap.size) (hgv:g≠rv):
  RdD W0 g s 96 (#[]++ #[.pointer (some ⟨rv,0,none⟩)]) acb (fun x:LpR=>(x.k,x.l)) (fun x:LpR=>Value.agg #[.int .i64 x.k,.slice x.p x.n x.c]) atL:=
 ⟨fun vs W=>Tryz.call96 vs W,fun W k h h0=>aA7 hv hs h h0 hg hgv⟩
theorem aiT (hv:Blk W0 rv 152 #[.pointer (some ⟨g,0,none⟩)]) (hs:s.length≤1000000) (h:RdM W g s (some k)) (h0:Kp [g] W0 W) (hg:g<W0.heap.size) (hgv:g≠rv):
  Calls Tryz.prog 99 #[.pointer (some ⟨rv,0,none⟩)] W fun r w'=> ∃x:Ini,r= .returned (.agg #[.float .f64 x.t,.int .i64 x.dst,.int .i64 x.pay])∧x=(YO s (some k)).1∧RdM w' g s (YO s (some k)).2∧Kp [g] W w':=by
 obtain⟨W1,hW1⟩: ∃W1,W1=W.alloc (.cells #[.float .f64 0,.int .i64 0,.int .i64 0] 90):=⟨_,rfl⟩
 have hb1:Below W.heap.size W W1:=by rw[hW1];exact(Below.refl _ W).alloc (Nat.le_refl _) _
 have hB1:Blk W1 W.heap.size 90 #[.float .f64 0,.int .i64 0,.int .i64 0]:=by rw[hW1];exact Blk.new W _ _
 have hgW:g<W.heap.size:=Nat.lt_of_lt_of_le hg h0.size
 have HV:Hid (∀W',Kp [g] W1 W'→W'.cell? ⟨rv,0,none⟩=some (.pointer (some ⟨g,0,none⟩))∧Blk W' W.heap.size 90 #[.float .f64 0,.int .i64 0,.int .i64 0]):=hid fun W' hk=>by
  have hvw:=((hv.kp h0 (by simp;exact Ne.symm hgv)).below hb1 (Nat.lt_of_lt_of_le hv.lt h0.size)).kp hk (by simp;exact Ne.symm hgv)
  exact⟨hvw.cell 0,hB1.kp hk (by simp;omega)⟩
 have HR1:Hid (RdM W1.drew g s (some k)∧Kp [g] W1 W1.drew):=hid ⟨(h.below hb1).kp (Kp.refl [] _).drew (by simp),(Kp.refl _ _).drew⟩
 have HH:=hid (⟨hs,hb1,hgW⟩:_∧_∧_)
 have HW1:=hid hW1
 clear hv hs h h0 hg hgv hW1 hb1 hB1 hgW
 go_enter Tryz.func99,Tryz.ntmps99
 go_upto_region 1 with fail
 rw[←HW1.out]
 refine zB (fun W'=>W'.cell? ⟨rv,0,none⟩=some (.pointer (some ⟨g,0,none⟩))) 7 (by kernel_rfl) (HV.out _ HR1.out.2).1 (fun hHeld=>?_)
 refine eT 0 hHeld ?_;(try simp only[Act.put,sEa,sEb,sEc]);refine eT 2 hHeld ?_;(try simp only[Act.put,sEa,sEb,sEc]);refine eT 4 hHeld ?_;(try simp only[Act.put,sEa,sEb,sEc])
 refine eR 1 (fun K hK=>?_)
 go_simp
 (with_reducible refine(xJ HR1.out.1 HH.out.1).mono ?_)
 rintro r w2 ⟨rfl,hr2,hk2⟩
 have H2:=hid (⟨hr2,HR1.out.2.trans hk2⟩:_∧_)
 clear hr2 hk2
 refine hK.out _ _ (HV.out _ H2.out.2).1 (fun hHeld=>?_)
 clear hK K
 (try simp only[Act.put,sEa,sEb,sEc])
 refine eR 3 (fun K hK=>?_)
 go_simp
 (with_reducible refine(zH H2.out.1 HH.out.1).mono ?_)
 rintro r w3 ⟨rfl,hr3,hk3⟩
 have H3:=hid (⟨hr3,H2.out.2.trans hk3⟩:_∧_)
 clear hr3 hk3
 refine hK.out _ _ (HV.out _ H3.out.2).1 (fun hHeld=>?_)
 clear hK K
 (try simp only[Act.put,sEa,sEb,sEc])
 refine eR 5 (fun K hK=>?_)
 go_simp
 (with_reducible refine(zH H3.out.1 HH.out.1).mono ?_)
 rintro r w4 ⟨rfl,hr4,hk4⟩
 have H4:=hid (⟨hr4,H3.out.2.trans hk4⟩:_∧_)
 clear hr4 hk4
 refine hK.out _ _ (HV.out _ H4.out.2).1 (fun hHeld=>?_)
 clear hK K
 (try simp only[Act.put,sEa,sEb,sEc])
 refine eT 6 hHeld ?_;(try simp only[Act.put,sEa,sEb,sEc])
 have hb5:=(HV.out _ H4.out.2).2
 have a0:w4.cell? ⟨W.heap.size,0,none⟩=some (.float .f64 0):=hb5.cell 0
 have a1:w4.cell? ⟨W.heap.size,1,none⟩=some (.int .i64 0):=hb5.cell 1
 have a2:w4.cell? ⟨W.heap.size,2,none⟩=some (.int .i64 0):=hb5.cell 2
 have b0:=hb5.frozen 0
 have b1:=hb5.frozen 1
 have b2:=hb5.frozen 2
 have hlt:=hb5.lt
 refine eL (fun K hK=>?_);go_simp;refine hK.out _ _ ?_;clear hK K;(try simp only[Act.put,sEa,sEb,sEc])
 obtain⟨z0,hz0⟩: ∃z,z=(rdF s (some k)).1:=⟨_,rfl⟩
 obtain⟨z1,hz1⟩: ∃z,z=(rdI s (rdF s (some k)).2).1:=⟨_,rfl⟩
 obtain⟨z2,hz2⟩: ∃z,z=(rdI s (rdI s (rdF s (some k)).2).2).1:=⟨_,rfl⟩
 have HZ:Hid ((⟨z0,z1,z2⟩:Ini)=(YO s (some k)).1):=hid (by rw[hz0,hz1,hz2];rfl)
 rw[←hz0,←hz1,←hz2]
 clear hz0 hz1 hz2
 obtain⟨w6,hw6⟩: ∃w6,w6=za w4 W.heap.size 0 [.float .f64 z0,.int .i64 z1,.int .i64 z2]:=⟨_,rfl⟩
 have hb6:Blk w6 W.heap.size 90 #[.float .f64 z0,.int .i64 z1,.int .i64 z2]:=by rw[hw6];exact((hb5.set_ 0 _).set_ 1 _).set_ 2 _
 have H6:Hid (RdM w6 g s (YO s (some k)).2∧Kp [g] W w6):=hid (by
  rw[hw6]
  exact⟨Qr H4.out.1 (by have:=HH.out.2.2;omega),zU (.inr (Nat.le_refl _)) _ _ _ ((Kp.of_below HH.out.2.1).trans H4.out.2)⟩)
 unfold za za za za at hw6
 rw[←hw6]
 clear hw6 hb5 a0 a1 a2 b0 b1 b2 hlt hHeld
 have v0:=hb6.cell 0
 have v1:=hb6.cell 1
 have v2:=hb6.cell 2
 simp only[List.getElem?_toArray,List.getElem?_cons_zero,List.getElem?_cons_succ]at v0 v1 v2
 go_wp2
 refine bodyPost_ret (v:= .agg #[.float .f64 z0,.int .i64 z1,.int .i64 z2]) (by simp[results,Tryz.results99,go_sem,v0,v1,v2]) rfl ⟨⟨z0,z1,z2⟩,rfl,HZ.out,H6.out⟩
theorem aMX (hv:Blk W0 rv 152 #[.pointer (some ⟨g,0,none⟩)]) (hs:s.length≤1000000) (hg:g<W0.heap.size) (hgv:g≠rv):
  RdD W0 g s 99 (#[]++ #[.pointer (some ⟨rv,0,none⟩)]) YO (fun x:Ini=>x) (fun x:Ini=>Value.agg #[.float .f64 x.t,.int .i64 x.dst,.int .i64 x.pay]) atN:=
 ⟨fun vs W=>Tryz.call99 vs W,fun W k h h0=>(aiT hv hs h h0 hg hgv).mono fun r w' ⟨x,e,h1,h2,h3⟩=>⟨x,e,trivial,h1,h2,h3⟩⟩
end
theorem xO (b:Nat) (l:List Value): ∀(W:World) (i:Nat),(za W b i l).heap.size=W.heap.size:=by
 induction l with
 |nil=>intro W i;rfl
 |cons v l ih=>intro W i;rw[za,ih];simp[World.setCell]
end
section
open Go.RowKit Go.Lib
structure AcF (B:Nat) (W:World) (a:AcV):Prop where
 n:a.kn=a.keep.length
 k:VwF B 1 boC W (.slice a.kp a.kn a.kc) a.keep
theorem AcF.at_ {B:Nat} {W:World} {a:AcV} (h:AcF B W a):acd W a:=⟨h.n,h.k.vw⟩
def AcP (W:World) (ws:List Bs) (e:Ending) (w':World):Prop:= ∃a:AcV,e= .returned (.tuple #[.agg (acC a).toArray,.bool (xD ws).isSome])∧(∀z,xD ws=some z→a.ac=z)∧AcF W.heap.size w' a∧Below W.heap.size W w'
theorem ag7 {w:Bs} {i:Nat} (h1:1≤i) (h2:i≤9):(kw i=w)↔zh w=i:=by
 have hcs:i=1∨i=2∨i=3∨i=4∨i=5∨i=6∨i=7∨i=8∨i=9:=by omega
 constructor
 ·rintro rfl
  rcases hcs with rfl|rfl|rfl|rfl|rfl|rfl|rfl|rfl|rfl<;>decide
 ·intro h
  have hh: ∀j,zh w=j→1≤j→kw j=w:=by
   intro j hj h1
   unfold zh at hj
   split at hj
   ·rename_i e;rw[←hj,e]
   split at hj
   ·rename_i e;rw[←hj,e]
   split at hj
   ·rename_i e;rw[←hj,e]
   split at hj
   ·rename_i e;rw[←hj,e]
   split at hj
   ·rename_i e;rw[←hj,e]
   split at hj
   ·rename_i e;rw[←hj,e]
   split at hj
   ·rename_i e;rw[←hj,e]
   split at hj
   ·rename_i e;rw[←hj,e]
   split at hj
   ·rename_i e;rw[←hj,e]
   omega
  exact hh i h h1
def kkn (w:Bs) (i:Nat):Nat:=if zh w<i then zh w else 0
theorem ag4 (w:Bs):kkn w 1=0:=by unfold kkn;split<;>omega
theorem ag5 (w:Bs):kkn w 10=zh w:=by unfold kkn;rw[if_pos (by have:=vO w;omega)]
theorem anZ {w:Bs} {i:Nat} (h1:1≤i) (h2:i≤9) (h:kw i=w):kkn w (i+1)=i:=by
 have:=(ag7 h1 h2).1 h
 unfold kkn
 rw[if_pos (by omega),this]
theorem an0 {w:Bs} {i:Nat} (h1:1≤i) (h2:i≤9) (h:kw i≠w):kkn w (i+1)=kkn w i:=by
 have: ¬zh w=i:=fun hh=>h ((ag7 h1 h2).2 hh)
 unfold kkn
 by_cases h3:zh w<i
 ·rw[if_pos h3,if_pos (by omega)]
 ·rw[if_neg h3,if_neg (by omega)]
structure AcI (W:World) (r b:Nat) (x0 x1 x2 x3 x4:Value) (w:World):Prop where
 bw:Below W.heap.size W w
 br:Blk w r 53 #[.int .i64 0,.int .i64 0,.slice none 0 0,.int .i64 0,.int .i64 0]
 bm:Blk w b 53 #[x0,x1,x2,x3,x4]
 lo:W.heap.size≤b
 ne:r≠b
theorem AcI.below {W w w':World} {r b:Nat} {x0 x1 x2 x3 x4:Value} (h:AcI W r b x0 x1 x2 x3 x4 w) (hb:Below w.heap.size w w'):AcI W r b x0 x1 x2 x3 x4 w':=
 ⟨h.bw.trans (hb.mono h.bw.size),h.br.below hb h.br.lt,h.bm.below hb h.bm.lt,h.lo,h.ne⟩
theorem AcI.set0 {W w:World} {r b:Nat} {x0 x1 x2 x3 x4:Value} (h:AcI W r b x0 x1 x2 x3 x4 w) (u:Value):AcI W r b u x1 x2 x3 x4 (w.setCell ⟨b,0,none⟩ u):=
 ⟨⟨h.bw.os,h.bw.tape,h.bw.output,by simpa[World.setCell]using h.bw.size,fun k hk=>(Below.heap_setCell _ _ _ _ (by have:=h.lo;simp;omega)).trans (h.bw.block k hk)⟩,h.br.far h.ne _,h.bm.set_ 0 u,h.lo,h.ne⟩
theorem AcI.set1 {W w:World} {r b:Nat} {x0 x1 x2 x3 x4:Value} (h:AcI W r b x0 x1 x2 x3 x4 w) (u:Value):AcI W r b x0 u x2 x3 x4 (w.setCell ⟨b,1,none⟩ u):=
 ⟨⟨h.bw.os,h.bw.tape,h.bw.output,by simpa[World.setCell]using h.bw.size,fun k hk=>(Below.heap_setCell _ _ _ _ (by have:=h.lo;simp;omega)).trans (h.bw.block k hk)⟩,h.br.far h.ne _,h.bm.set_ 1 u,h.lo,h.ne⟩
theorem AcI.set2 {W w:World} {r b:Nat} {x0 x1 x2 x3 x4:Value} (h:AcI W r b x0 x1 x2 x3 x4 w) (u:Value):AcI W r b x0 x1 u x3 x4 (w.setCell ⟨b,2,none⟩ u):=
 ⟨⟨h.bw.os,h.bw.tape,h.bw.output,by simpa[World.setCell]using h.bw.size,fun k hk=>(Below.heap_setCell _ _ _ _ (by have:=h.lo;simp;omega)).trans (h.bw.block k hk)⟩,h.br.far h.ne _,h.bm.set_ 2 u,h.lo,h.ne⟩
theorem AcI.set3 {W w:World} {r b:Nat} {x0 x1 x2 x3 x4:Value} (h:AcI W r b x0 x1 x2 x3 x4 w) (u:Value):AcI W r b x0 x1 x2 u x4 (w.setCell ⟨b,3,none⟩ u):=
 ⟨⟨h.bw.os,h.bw.tape,h.bw.output,by simpa[World.setCell]using h.bw.size,fun k hk=>(Below.heap_setCell _ _ _ _ (by have:=h.lo;simp;omega)).trans (h.bw.block k hk)⟩,h.br.far h.ne _,h.bm.set_ 3 u,h.lo,h.ne⟩
theorem AcI.set4 {W w:World} {r b:Nat} {x0 x1 x2 x3 x4:Value} (h:AcI W r b x0 x1 x2 x3 x4 w) (u:Value):AcI W r b x0 x1 x2 x3 u (w.setCell ⟨b,4,none⟩ u):=
 ⟨⟨h.bw.os,h.bw.tape,h.bw.output,by simpa[World.setCell]using h.bw.size,fun k hk=>(Below.heap_setCell _ _ _ _ (by have:=h.lo;simp;omega)).trans (h.bw.block k hk)⟩,h.br.far h.ne _,h.bm.set_ 4 u,h.lo,h.ne⟩
theorem yq {w:World} {g:Nat} {T:TypeId} {a b c d e:Value} (h:Blk w g T #[a,b,c,d,e]):(w.cell? ⟨g,0,none⟩=some a∧w.cell? ⟨g,1,none⟩=some b∧w.cell? ⟨g,2,none⟩=some c∧w.cell? ⟨g,3,none⟩=some d∧w.cell? ⟨g,4,none⟩=some e)∧(w.frozen? ⟨g,0,none⟩=false∧w.frozen? ⟨g,1,none⟩=false∧w.frozen? ⟨g,2,none⟩=false∧w.frozen? ⟨g,3,none⟩=false∧w.frozen? ⟨g,4,none⟩=false)∧g<w.heap.size:=
 ⟨⟨h.cell 0,h.cell 1,h.cell 2,h.cell 3,h.cell 4⟩,⟨h.frozen 0,h.frozen 1,h.frozen 2,h.frozen 3,h.frozen 4⟩,h.lt⟩
theorem AcI.fin {W w:World} {r b:Nat} {x0 x1 x2 x3 x4:Value} (h:AcI W r b x0 x1 x2 x3 x4 w) (hr:W.heap.size≤r): ∃wz,wz=za w r 0 [x0,x1,x2,x3,x4]∧Blk wz r 53 #[x0,x1,x2,x3,x4]∧Below W.heap.size W wz∧(∀b,b≠r→wz.heap[b]? =w.heap[b]?)∧w.heap.size≤wz.heap.size:=by
 refine⟨_,rfl,((((h.br.set_ 0 _).set_ 1 _).set_ 2 _).set_ 3 _).set_ 4 _,?_,fun c hc=>yB _ _ _ _ _ hc,by rw[xO];exact Nat.le_refl _⟩
 exact h.bw.trans ((zU (O:=[r]) (.inl (by simp)) _ w 0 (Kp.refl _ _)).to_below h.bw.size fun x hx=>by
  simp at hx
  omega)
theorem ajX {ws:List Bs} (h:zh (ws.getD 0 [])=0):xD ws=none:=by
 unfold xD
 simp only[h,if_true]
theorem ajY {ws:List Bs} (h:zh (ws.getD 0 [])=3):xD ws=if ws.length=1 then some ⟨3,0,[],0,0⟩else none:=by
 unfold xD
 simp only[h]
 rfl
theorem ajZ {ws:List Bs} (h:zh (ws.getD 0 [])=7):xD ws=if ws.length=4 then(match zX (ws.getD 1 []),yR (ws.getD 2 []),yR (ws.getD 3 [])with
  |some b,some t,some n=>some ⟨7,0,b,t,n⟩
  |_,_,_=>none)else none:=by
 unfold xD
 simp only[h]
 rfl
theorem aj0 {ws:List Bs} (h0:zh (ws.getD 0 [])≠0) (h3:zh (ws.getD 0 [])≠3) (h7:zh (ws.getD 0 [])≠7):xD ws=if ws.length=2 then(match yR (ws.getD 1 [])with
  |some n=>some ⟨zh (ws.getD 0 []),n,[],0,0⟩
  |none=>none)else none:=by
 unfold xD
 simp only[if_neg h0,if_neg h3,if_neg h7]
 rfl
end
section
open Go.RowKit Go.Lib
theorem YA {W:World} {xb kb gb off n c i:Nat} {iz:Int} (hz:iz=(i:Int)) {b:Bool} {w:Bs} (hx:W.cell? ⟨xb,0,none⟩=some (.slice (some ⟨gb,off,none⟩) n c)) (hw:W.cell? ⟨gb,off+i,none⟩=some (.string (S w))) (hl:w.length≤90000) (hi:i<n) (hi9:i≤9) (hk:Blk W kb 4 #[.bool b]):
  Calls Tryz.prog 50 #[.int .i64 iz,.pointer (some ⟨xb,0,none⟩),.pointer (some ⟨kb,0,none⟩)] W fun r w'=> ∃v:Int,r= .returned (.int .i64 v)∧(∀k,yR w=some k→v=k)∧w'=W.setCell ⟨kb,0,none⟩ (.bool (b&&(yR w).isSome)):=by
 subst hz
 obtain⟨o,ho⟩: ∃o,o=yR w:=⟨_,rfl⟩
 have HN:Hid (∀w1,Calls Tryz.prog 46 #[.string (S w)] w1 fun e w'=> ∃n:Int,e= .returned (.tuple #[.int .i64 n,.bool o.isSome])∧(∀k,o=some k→n=k)∧w1=w'):=hid (by rw[ho];exact kJ w hl)
 rw[←ho]
 clear ho hl
 have k0:W.cell? ⟨kb,0,none⟩=some (.bool b):=hk.cell 0
 have f0:=hk.frozen 0
 have hlt:=hk.lt
 have hiz:(i:Int)<(n:Int):=by omega
 clear hk
 go_enter Tryz.func50,Tryz.ntmps50
 have HF:=hid (HN.out W)
 go_wp2_with fail
 (with_reducible refine HF.out.mono ?_)
 rintro r w6 ⟨v,rfl,hv,rfl⟩
 have HV:=hid hv
 clear hv HF
 cases b
 all_goals
  go_wp2
  go_ret
  exact⟨v,rfl,HV.out,rfl⟩
structure AcX (W:World) (xb:Nat) (sv:Value) (r b:Nat) (x0 x1 x2 x3 x4:Value) (w:World):Prop where
 ii:AcI W r b x0 x1 x2 x3 x4 w
 xx:Blk w xb 56 #[sv]
structure AcK (W:World) (xb:Nat) (sv:Value) (k:Nat) (m:Bool) (r b:Nat) (x0 x1 x2 x3 x4:Value) (w:World):Prop where
 ii:AcI W r b x0 x1 x2 x3 x4 w
 xx:Blk w xb 56 #[sv]
 kk:Blk w k 4 #[.bool m]
 lo:W.heap.size≤k
section
variable {W w w':World} {xb r b k:Nat} {sv x0 x1 x2 x3 x4:Value} {m:Bool}
theorem AcX.below (h:AcX W xb sv r b x0 x1 x2 x3 x4 w) (hb:Below w.heap.size w w'):AcX W xb sv r b x0 x1 x2 x3 x4 w':=⟨h.ii.below hb,h.xx.below hb h.xx.lt⟩
theorem AcK.below (h:AcK W xb sv k m r b x0 x1 x2 x3 x4 w) (hb:Below w.heap.size w w'):AcK W xb sv k m r b x0 x1 x2 x3 x4 w':=⟨h.ii.below hb,h.xx.below hb h.xx.lt,h.kk.below hb h.kk.lt,h.lo⟩
theorem AcX.set0 (h:AcX W xb sv r b x0 x1 x2 x3 x4 w) (u:Value):AcX W xb sv r b u x1 x2 x3 x4 (w.setCell ⟨b,0,none⟩ u):=⟨h.ii.set0 u,h.xx.far (h.xx.ne_ h.ii.bm (by decide)) _⟩
theorem AcK.set1 (h:AcK W xb sv k m r b x0 x1 x2 x3 x4 w) (u:Value):AcK W xb sv k m r b x0 u x2 x3 x4 (w.setCell ⟨b,1,none⟩ u):=⟨h.ii.set1 u,h.xx.far (h.xx.ne_ h.ii.bm (by decide)) _,h.kk.far (h.kk.ne_ h.ii.bm (by decide)) _,h.lo⟩
theorem AcK.set2 (h:AcK W xb sv k m r b x0 x1 x2 x3 x4 w) (u:Value):AcK W xb sv k m r b x0 x1 u x3 x4 (w.setCell ⟨b,2,none⟩ u):=⟨h.ii.set2 u,h.xx.far (h.xx.ne_ h.ii.bm (by decide)) _,h.kk.far (h.kk.ne_ h.ii.bm (by decide)) _,h.lo⟩
theorem AcK.set3 (h:AcK W xb sv k m r b x0 x1 x2 x3 x4 w) (u:Value):AcK W xb sv k m r b x0 x1 x2 u x4 (w.setCell ⟨b,3,none⟩ u):=⟨h.ii.set3 u,h.xx.far (h.xx.ne_ h.ii.bm (by decide)) _,h.kk.far (h.kk.ne_ h.ii.bm (by decide)) _,h.lo⟩
theorem AcK.set4 (h:AcK W xb sv k m r b x0 x1 x2 x3 x4 w) (u:Value):AcK W xb sv k m r b x0 x1 x2 x3 u (w.setCell ⟨b,4,none⟩ u):=⟨h.ii.set4 u,h.xx.far (h.xx.ne_ h.ii.bm (by decide)) _,h.kk.far (h.kk.ne_ h.ii.bm (by decide)) _,h.lo⟩
theorem AcK.setk (h:AcK W xb sv k m r b x0 x1 x2 x3 x4 w) (u:Bool):AcK W xb sv k u r b x0 x1 x2 x3 x4 (w.setCell ⟨k,0,none⟩ (.bool u)):=
 ⟨⟨⟨h.ii.bw.os,h.ii.bw.tape,h.ii.bw.output,by simpa[World.setCell]using h.ii.bw.size,fun j hj=>(Below.heap_setCell _ _ _ _ (by have:=h.lo;simp;omega)).trans (h.ii.bw.block j hj)⟩,h.ii.br.far (h.ii.br.ne_ h.kk (by decide)) _,h.ii.bm.far (h.ii.bm.ne_ h.kk (by decide)) _,h.ii.lo,h.ii.ne⟩,h.xx.far (h.xx.ne_ h.kk (by decide)) _,h.kk.set_ 0 _,h.lo⟩
theorem AcX.mark (h:AcX W xb sv r b x0 x1 x2 x3 x4 w):AcK W xb sv w.heap.size true r b x0 x1 x2 x3 x4 (w.alloc (.cells #[.bool true] 4)):=
 ⟨⟨h.ii.bw.alloc h.ii.bw.size _,h.ii.br.alloc _,h.ii.bm.alloc _,h.ii.lo,h.ii.ne⟩,h.xx.alloc _,Blk.new _ _ _,h.ii.bw.size⟩
end
theorem aow {ws:List Bs} {o1:Option (List Bool)} {o2 o3:Option Nat} {kl:List Bool} {tt bb:Int} (h:xD ws=match o1,o2,o3 with
  |some b,some t,some n=>some ⟨7,0,b,t,n⟩
  |_,_,_=>none) (h1: ∀z,o1=some z→kl=z) (h2: ∀k:Nat,o2=some k→tt=k) (h3: ∀k:Nat,o3=some k→bb=k):
  ((o2.isSome&&o3.isSome)&&o1.isSome)=(xD ws).isSome∧ ∀z,xD ws=some z→(⟨7,0,kl,tt,bb⟩:Ac)=z:=by
 rw[h]
 cases o1 with
 |none=>exact⟨by simp,fun z hz=>by cases hz⟩
 | some a=>
  cases o2 with
  |none=>exact⟨rfl,fun z hz=>by cases hz⟩
  |some b=>
   cases o3 with
   |none=>exact⟨rfl,fun z hz=>by cases hz⟩
   |some c=>exact⟨rfl,fun z hz=>by injection hz with hz;rw[←hz,h1 _ rfl,h2 _ rfl,h3 _ rfl]⟩
theorem ajt (ws:List Bs) (p:Option Addr) (n c:Nat) (hn:n=ws.length) (h0:ws≠[]) (hl: ∀x∈ws,x.length≤90000) (W:World) (hv:Vw 1 jQ W (.slice p n c) ws):Calls Tryz.prog 21 #[.slice p n c] W (AcP W ws):=by
 obtain⟨gb,off,cc,e1,e2,e3,e4⟩:=hv.ex h0
 injection e1 with e1 e5 e6
 subst e1 e6
 obtain⟨w0,hw0⟩: ∃w0,w0=ws.getD 0 []:=⟨_,rfl⟩
 have hg0:ws[0]? =some w0:=by
  rw[hw0]
  cases ws with
  |nil=>exact absurd rfl h0
  |cons a l=>rfl
 have HC:Hid (∀W',Below W.heap.size W W'→ ∀i x,ws[i]? =some x→W'.cell? ⟨gb,off+i,none⟩=some (.string (S x))):=hid fun W' hb i x hx=>by
  have:=e4 i x hx 0 (.string (S x)) rfl
  rw[←this]
  simpa using World.cell?_of_block (hb.block gb e3)
 have hlen:1≤n:=by rw[hn];exact List.length_pos_iff.2 h0
 have HW:=hid (⟨hn,h0,hg0,e3,hw0,hl⟩:_∧_∧_∧_∧_∧_)
 clear hv e2 e3 e4 e5 hn h0 hg0 hw0 hl
 obtain⟨xb,hxb⟩: ∃n,n=W.heap.size:=⟨_,rfl⟩
 obtain⟨r0,hr0⟩: ∃n,n=W.heap.size+1:=⟨_,rfl⟩
 obtain⟨mb,hmb⟩: ∃n,n=W.heap.size+2:=⟨_,rfl⟩
 obtain⟨W1,hW1⟩: ∃W1,W1=(W.alloc (.cells #[.slice (some ⟨gb,off,none⟩) n c] 56)).alloc (.cells #[.int .i64 0,.int .i64 0,.slice none 0 0,.int .i64 0,.int .i64 0] 53):=⟨_,rfl⟩
 have hx1:Blk W1 xb 56 #[.slice (some ⟨gb,off,none⟩) n c]:=by rw[hW1,hxb];exact(Blk.new W _ _).alloc _
 have hr1:Blk W1 r0 53 #[.int .i64 0,.int .i64 0,.slice none 0 0,.int .i64 0,.int .i64 0]:=by
  have hm:=Blk.new (W.alloc (.cells #[.slice (some ⟨gb,off,none⟩) n c] 56)) 53 #[.int .i64 0,.int .i64 0,.slice none 0 0,.int .i64 0,.int .i64 0]
  rw[World.size_alloc,←hr0]at hm
  rw[hW1]
  exact hm
 have hb1:Below W.heap.size W W1:=by rw[hW1];exact((Below.refl _ W).alloc (Nat.le_refl _) _).alloc (by simp) _
 have hs1:W1.heap.size=W.heap.size+2:=by rw[hW1];simp
 obtain⟨W2,hW2⟩: ∃W2,W2=za (W1.alloc (.cells #[.int .i64 0,.int .i64 0,.slice none 0 0,.int .i64 0,.int .i64 0] 53)) mb 0 [.int .i64 0,.int .i64 0,.slice none 0 0,.int .i64 0,.int .i64 0]:=⟨_,rfl⟩
 have hm1:AcX W xb (.slice (some ⟨gb,off,none⟩) n c) r0 mb (.int .i64 0) (.int .i64 0) (.slice none 0 0) (.int .i64 0) (.int .i64 0) (W1.alloc (.cells #[.int .i64 0,.int .i64 0,.slice none 0 0,.int .i64 0,.int .i64 0] 53)):=by
  have hm:=Blk.new W1 53 #[.int .i64 0,.int .i64 0,.slice none 0 0,.int .i64 0,.int .i64 0]
  rw[hs1,←hmb]at hm
  exact⟨⟨hb1.alloc hb1.size _,hr1.alloc _,hm,by omega,by omega⟩,hx1.alloc _⟩
 have hm2:AcX W xb (.slice (some ⟨gb,off,none⟩) n c) r0 mb (.int .i64 0) (.int .i64 0) (.slice none 0 0) (.int .i64 0) (.int .i64 0) W2:=by
  rw[hW2]
  exact⟨((((hm1.ii.set0 _).set1 _).set2 _).set3 _).set4 _,((((hm1.xx.far (hm1.xx.ne_ hm1.ii.bm (by decide)) _).far (hm1.xx.ne_ hm1.ii.bm (by decide)) _).far (hm1.xx.ne_ hm1.ii.bm (by decide)) _).far (hm1.xx.ne_ hm1.ii.bm (by decide)) _).far (hm1.xx.ne_ hm1.ii.bm (by decide)) _⟩
 have HI2:=hid hm2
 have HM1:=hid (⟨hm1.ii.bm,hs1⟩:_∧_)
 have HRW:=hid (⟨hxb,hr0,hmb,hW1,hW2⟩:_∧_∧_∧_∧_)
 clear hx1 hr1 hb1 hm1 hm2 hxb hr0 hmb hW1 hW2 hs1
 go_enter Tryz.func21,Tryz.ntmps21
 go_upto_region 1 with fail
 rw[←HRW.out.2.1,←HRW.out.1,←HRW.out.2.2.2.1]
 go_wp2_with (with_reducible refine YF 53 rfl ?_)
 with_reducible refine ki ?_
 have hsz:W1.heap.size=mb:=by rw[HM1.out.2,HRW.out.2.2.1]
 rw[hsz]
 obtain⟨⟨m0,m1,m2,m3,m4⟩,⟨g0,g1,g2,g3,g4⟩,mlt⟩:=yq HM1.out.1
 obtain⟨wx,hwx⟩: ∃wx,wx=W1.alloc (.cells #[.int .i64 0,.int .i64 0,.slice none 0 0,.int .i64 0,.int .i64 0] 53):=⟨_,rfl⟩
 have HX2:Hid (W2=za wx mb 0 [.int .i64 0,.int .i64 0,.slice none 0 0,.int .i64 0,.int .i64 0]):=hid (by rw[hwx];exact HRW.out.2.2.2.2)
 rw[←hwx]at m0 m1 m2 m3 m4 g0 g1 g2 g3 g4 mlt⊢
 clear hwx hsz
 go_wp2
 have hX2:=HX2.out
 unfold za za za za za za at hX2
 rw[←hX2]
 clear hX2 HX2 m0 m1 m2 m3 m4 g0 g1 g2 g3 g4 mlt
 go_loopg [5] 10 (fun gg s5 wr=> ∃i:Nat,1≤i∧i≤10∧10-i≤gg∧s5= .int .i64 i∧Hid (AcX W xb (.slice (some ⟨gb,off,none⟩) n c) r0 mb (.int .i64 (kkn w0 i)) (.int .i64 0) (.slice none 0 0) (.int .i64 0) (.int .i64 0) wr))
 case atStart=>exact⟨1,by omega,by omega,by omega,rfl,hid (by rw[ag4];exact HI2.out)⟩
 case round=>
  obtain⟨i,hi1,hi2,hgg,rfl,HI⟩:=hrel
  by_cases hi:i<10
  ·have hiz:(i:Int)≤9:=by omega
   have HN:=hid ((ajP i hi wr.drew).mono fun e w' h=>(⟨h.1,((Below.refl _ wr).drew).trans h.2⟩:_∧Below wr.heap.size wr w'))
   obtain⟨q,hq⟩: ∃q,q=kw i:=⟨_,rfl⟩
   have HQ:=hid hq
   rw[←hq]at HN
   clear hq
   have hcell:=HC.out wr HI.out.ii.bw 0 w0 HW.out.2.2.1
   rw[Nat.add_zero]at hcell
   have hxc:wr.cell? ⟨xb,0,none⟩=some (.slice (some ⟨gb,off,none⟩) n c):=HI.out.xx.cell 0
   have hlz:0<n:=by omega
   by_cases he:q=w0
   ·have HI3:Hid (kkn w0 (i+1)=i):=hid (anZ hi1 (by omega) (HQ.out▸he))
    subst he
    go_upto_region 5 with fail
    refine zB (fun W'=>W'.cell? ⟨xb,0,none⟩=some (.slice (some ⟨gb,off,none⟩) n c)∧W'.cell? ⟨gb,off,none⟩=some (.string (S q))) 5 (by kernel_rfl) ⟨by simpa using hxc,by simpa using hcell⟩ (fun hHeld=>?_)
    refine eT 0 hHeld ?_;(try simp only[Act.put,sEa,sEb,sEc]);refine eT 2 hHeld ?_;(try simp only[Act.put,sEa,sEb,sEc]);refine eT 3 hHeld ?_;(try simp only[Act.put,sEa,sEb,sEc]);refine eT 4 hHeld ?_;(try simp only[Act.put,sEa,sEb,sEc])
    refine eR 1 (fun K hK=>?_)
    go_simp
    (with_reducible refine HN.out.mono ?_)
    rintro r w2 ⟨rfl,hb2⟩
    have HI2:=hid (HI.out.below hb2)
    clear hb2 HN
    have hc2:=HC.out w2 HI2.out.ii.bw 0 _ HW.out.2.2.1
    rw[Nat.add_zero]at hc2
    have hx2:w2.cell? ⟨xb,0,none⟩=some (.slice (some ⟨gb,off,none⟩) n c):=HI2.out.xx.cell 0
    refine hK.out _ _ ⟨hx2,hc2⟩ (fun hHeld=>?_)
    clear hK K hc2 hx2
    (try simp only[Act.put,sEa,sEb,sEc])
    refine eL (fun K hK=>?_);go_simp;refine hK.out _ _ ?_;clear hK K;(try simp only[Act.put,sEa,sEb,sEc])
    obtain⟨⟨m0,-⟩,⟨f0,-⟩,mlt⟩:=yq HI2.out.ii.bm
    have HI4:Hid (AcX W xb (.slice (some ⟨gb,off,none⟩) n c) r0 mb (.int .i64 (kkn q (i+1))) (.int .i64 0) (.slice none 0 0) (.int .i64 0) (.int .i64 0) (w2.setCell ⟨mb,0,none⟩ (.int .i64 i))):=hid (by rw[HI3.out];exact HI2.out.set0 _)
    go_wp2
    go_roundg (10- (i+1))
    case measure=>omega
    case rel=>exact⟨i+1,by omega,by omega,by omega,by go_num,HI4⟩
   ·have HI3:Hid (kkn w0 (i+1)=kkn w0 i):=hid (an0 hi1 (by omega) (HQ.out▸he))
    have hne:(q==w0)=false:=by simpa using he
    clear he
    go_upto_region 5 with fail
    refine zB (fun W'=>W'.cell? ⟨xb,0,none⟩=some (.slice (some ⟨gb,off,none⟩) n c)∧W'.cell? ⟨gb,off,none⟩=some (.string (S w0))) 5 (by kernel_rfl) ⟨by simpa using hxc,by simpa using hcell⟩ (fun hHeld=>?_)
    refine eT 0 hHeld ?_;(try simp only[Act.put,sEa,sEb,sEc]);refine eT 2 hHeld ?_;(try simp only[Act.put,sEa,sEb,sEc]);refine eT 3 hHeld ?_;(try simp only[Act.put,sEa,sEb,sEc]);refine eT 4 hHeld ?_;(try simp only[Act.put,sEa,sEb,sEc])
    refine eR 1 (fun K hK=>?_)
    go_simp
    (with_reducible refine HN.out.mono ?_)
    rintro r w2 ⟨rfl,hb2⟩
    have HI2:=hid (HI.out.below hb2)
    clear hb2 HN
    have hc2:=HC.out w2 HI2.out.ii.bw 0 _ HW.out.2.2.1
    rw[Nat.add_zero]at hc2
    have hx2:w2.cell? ⟨xb,0,none⟩=some (.slice (some ⟨gb,off,none⟩) n c):=HI2.out.xx.cell 0
    refine hK.out _ _ ⟨hx2,hc2⟩ (fun hHeld=>?_)
    clear hK K hc2 hx2
    (try simp only[Act.put,sEa,sEb,sEc])
    refine eL (fun K hK=>?_);go_simp;refine hK.out _ _ ?_;clear hK K;(try simp only[Act.put,sEa,sEb,sEc])
    have HI4:Hid (AcX W xb (.slice (some ⟨gb,off,none⟩) n c) r0 mb (.int .i64 (kkn w0 (i+1))) (.int .i64 0) (.slice none 0 0) (.int .i64 0) (.int .i64 0) w2):=hid (by rw[HI3.out];exact HI2.out)
    go_wp2
    go_roundg (10- (i+1))
    case measure=>omega
    case rel=>exact⟨i+1,by omega,by omega,by omega,by go_num,HI4⟩
  ·have hiz: ¬(i:Int)≤9:=by omega
   have hi10:i=10:=by omega
   subst hi10
   obtain⟨kd,hkd⟩: ∃k,k=zh w0:=⟨_,rfl⟩
   rw[ag5,←hkd]at HI
   have hk9:kd≤9:=by rw[hkd];exact vO w0
   have HKD:Hid (zh (ws.getD 0 [])=kd):=hid (by rw[hkd,HW.out.2.2.2.2.1])
   have HMK:=HI.out.mark
   obtain⟨kb,hkb⟩: ∃k,k=wr.heap.size:=⟨_,rfl⟩
   obtain⟨wk,hwk⟩: ∃w,w=wr.alloc (.cells #[.bool true] 4):=⟨_,rfl⟩
   rw[←hwk,←hkb]at HMK
   have HJ:=hid HMK
   have HWK:=hid (⟨hkb,hwk⟩:_∧_)
   clear hkd hkb hwk HMK
   go_upto_region 8 with fail
   rw[←HWK.out.2,←HWK.out.1]
   clear HWK HI
   by_cases hk0:kd=0
   ·have HO:Hid (xD ws=none):=hid (ajX (HKD.out.trans hk0))
    subst hk0
    have HJ:Hid (AcK W xb (.slice (some ⟨gb,off,none⟩) n c) kb true r0 mb (.int .i64 0) (.int .i64 0) (.slice none 0 0) (.int .i64 0) (.int .i64 0) wk):=HJ
    obtain⟨⟨m0,m1,m2,m3,m4⟩,⟨g0,g1,g2,g3,g4⟩,mlt⟩:=yq HJ.out.ii.bm
    obtain⟨⟨z0,z1,z2,z3,z4⟩,⟨y0,y1,y2,y3,y4⟩,zlt⟩:=yq HJ.out.ii.br
    obtain⟨wz,hwz,hbz,hfz,hvz⟩:=HJ.out.ii.fin (by have:=HRW.out.2.1;omega)
    unfold za za za za za za at hwz
    have HZ:=hid (⟨hwz,hbz,hfz,hvz⟩:_∧_∧_∧_)
    clear hwz hbz hfz hvz
    go_wp2
    rw[←HZ.out.1]
    obtain⟨⟨v0,v1,v2,v3,v4⟩,_,_⟩:=yq HZ.out.2.1
    refine bodyPost_ret (v:= .tuple #[.agg #[.int .i64 0,.int .i64 0,.slice none 0 0,.int .i64 0,.int .i64 0],.bool false]) (by simp[results,Tryz.results21,go_sem,v0,v1,v2,v3,v4]) rfl ?_
    exact⟨⟨0,0,none,0,0,[],0,0⟩,by rw[HO.out];rfl,(fun z hz=>by rw[HO.out]at hz;cases hz),⟨rfl,.nil ..⟩,HZ.out.2.2.1⟩
   ·by_cases hk3:kd=3
    ·have HO:Hid (xD ws=if ws.length=1 then some ⟨3,0,[],0,0⟩else none):=hid (ajY (HKD.out.trans hk3))
     subst hk3
     have HJ:Hid (AcK W xb (.slice (some ⟨gb,off,none⟩) n c) kb true r0 mb (.int .i64 3) (.int .i64 0) (.slice none 0 0) (.int .i64 0) (.int .i64 0) wk):=HJ
     have HE:Hid (((n:Int)==1)=(xD ws).isSome∧ ∀z,xD ws=some z→(⟨3,0,[],0,0⟩:Ac)=z):=hid (by
      rw[HO.out]
      by_cases hn1:n=1
      ·rw[if_pos (by rw[←HW.out.1];exact hn1),hn1]
       exact⟨rfl,fun z hz=>by injection hz⟩
      ·rw[if_neg (by rw[←HW.out.1];exact hn1)]
       exact⟨by show _=false;rw[beq_eq_false_iff_ne];omega,fun z hz=>by cases hz⟩)
     have hxc:wk.cell? ⟨xb,0,none⟩=some (.slice (some ⟨gb,off,none⟩) n c):=HJ.out.xx.cell 0
     obtain⟨⟨m0,m1,m2,m3,m4⟩,⟨g0,g1,g2,g3,g4⟩,mlt⟩:=yq HJ.out.ii.bm
     obtain⟨⟨z0,z1,z2,z3,z4⟩,⟨y0,y1,y2,y3,y4⟩,zlt⟩:=yq HJ.out.ii.br
     obtain⟨wz,hwz,hbz,hfz,hvz⟩:=HJ.out.ii.fin (by have:=HRW.out.2.1;omega)
     unfold za za za za za za at hwz
     have HZ:=hid (⟨hwz,hbz,hfz,hvz⟩:_∧_∧_∧_)
     clear hwz hbz hfz hvz
     clear hk9
     have ek: ∀o,wz.cell? ⟨mb,o,none⟩=wk.cell? ⟨mb,o,none⟩:=fun o=>World.cell?_of_block (HZ.out.2.2.2.1 mb (Ne.symm HJ.out.ii.ne))
     have ex:wz.cell? ⟨xb,0,none⟩=wk.cell? ⟨xb,0,none⟩:=World.cell?_of_block (HZ.out.2.2.2.1 xb (HJ.out.xx.ne_ HJ.out.ii.br (by decide)))
     go_upto_region 12 with fail
     refine zB (fun W'=>(W'.cell? ⟨mb,0,none⟩=some (.int .i64 3)∧W'.cell? ⟨mb,1,none⟩=some (.int .i64 0)∧W'.cell? ⟨mb,2,none⟩=some (.slice none 0 0)∧W'.cell? ⟨mb,3,none⟩=some (.int .i64 0)∧W'.cell? ⟨mb,4,none⟩=some (.int .i64 0))∧W'.cell? ⟨xb,0,none⟩=some (.slice (some ⟨gb,off,none⟩) n c)) 5 (by kernel_rfl) ⟨⟨m0,m1,m2,m3,m4⟩,hxc⟩ (fun hHeld=>?_)
     refine eT 0 hHeld ?_;(try simp only[Act.put,sEa,sEb,sEc]);refine eT 1 hHeld ?_;(try simp only[Act.put,sEa,sEb,sEc]);refine eT 2 hHeld ?_;(try simp only[Act.put,sEa,sEb,sEc]);refine eT 3 hHeld ?_;(try simp only[Act.put,sEa,sEb,sEc])
     refine eR 4 (fun K hK=>?_)
     go_simp
     rw[←HZ.out.1]
     refine hK.out _ _ ⟨⟨(ek 0).trans m0,(ek 1).trans m1,(ek 2).trans m2,(ek 3).trans m3,(ek 4).trans m4⟩,ex.trans hxc⟩ (fun hHeld=>?_)
     clear hK K
     (try simp only[Act.put,sEa,sEb,sEc])
     refine eL (fun K hK=>?_);go_simp;refine hK.out _ _ ?_;clear hK K;(try simp only[Act.put,sEa,sEb,sEc])
     go_wp2
     obtain⟨⟨v0,v1,v2,v3,v4⟩,_,_⟩:=yq HZ.out.2.1
     refine bodyPost_ret (v:= .tuple #[.agg #[.int .i64 3,.int .i64 0,.slice none 0 0,.int .i64 0,.int .i64 0],.bool ((n:Int)==1)]) (by simp[results,Tryz.results21,go_sem,v0,v1,v2,v3,v4]) rfl ?_
     exact⟨⟨3,0,none,0,0,[],0,0⟩,by rw[HE.out.1];rfl,HE.out.2,⟨rfl,.nil ..⟩,HZ.out.2.2.1.drew⟩
    ·by_cases hk7:kd=7
     ·have HO:=hid (ajZ (HKD.out.trans hk7))
      subst hk7
      have HJ:Hid (AcK W xb (.slice (some ⟨gb,off,none⟩) n c) kb true r0 mb (.int .i64 7) (.int .i64 0) (.slice none 0 0) (.int .i64 0) (.int .i64 0) wk):=HJ
      have hxc:wk.cell? ⟨xb,0,none⟩=some (.slice (some ⟨gb,off,none⟩) n c):=HJ.out.xx.cell 0
      by_cases hn4:n=4
      ·subst hn4
       obtain⟨w1,hw1⟩: ∃x,ws[1]? =some x:=⟨_,List.getElem?_eq_getElem (by rw[←HW.out.1];omega)⟩
       have HW1:Hid (ws.getD 1 []=w1∧w1.length≤90000):=hid ⟨by rw[List.getD_eq_getElem?_getD,hw1];rfl,HW.out.2.2.2.2.2 _ (List.mem_of_getElem? hw1)⟩
       have HC1:=hid (fun W' hb=>HC.out W' hb 1 w1 hw1)
       clear hw1
       obtain⟨w2,hw2⟩: ∃x,ws[2]? =some x:=⟨_,List.getElem?_eq_getElem (by rw[←HW.out.1];omega)⟩
       have HW2:Hid (ws.getD 2 []=w2∧w2.length≤90000):=hid ⟨by rw[List.getD_eq_getElem?_getD,hw2];rfl,HW.out.2.2.2.2.2 _ (List.mem_of_getElem? hw2)⟩
       have HC2:=hid (fun W' hb=>HC.out W' hb 2 w2 hw2)
       clear hw2
       obtain⟨w3,hw3⟩: ∃x,ws[3]? =some x:=⟨_,List.getElem?_eq_getElem (by rw[←HW.out.1];omega)⟩
       have HW3:Hid (ws.getD 3 []=w3∧w3.length≤90000):=hid ⟨by rw[List.getD_eq_getElem?_getD,hw3];rfl,HW.out.2.2.2.2.2 _ (List.mem_of_getElem? hw3)⟩
       have HC3:=hid (fun W' hb=>HC.out W' hb 3 w3 hw3)
       clear hw3
       have HO:Hid (xD ws=match zX w1,yR w2,yR w3 with
        |some b,some t,some n=>some ⟨7,0,b,t,n⟩
        |_,_,_=>none):=hid (by rw[HO.out,if_pos HW.out.1.symm,HW1.out.1,HW2.out.1,HW3.out.1];try rfl)
       obtain⟨⟨m0,m1,m2,m3,m4⟩,⟨g0,g1,g2,g3,g4⟩,mlt⟩:=yq HJ.out.ii.bm
       have c1:=HC1.out _ HJ.out.ii.bw
       obtain⟨o1,ho1⟩: ∃o,o=zX w1:=⟨_,rfl⟩
       obtain⟨o2,ho2⟩: ∃o,o=yR w2:=⟨_,rfl⟩
       obtain⟨o3,ho3⟩: ∃o,o=yR w3:=⟨_,rfl⟩
       rw[←ho1,←ho2,←ho3]at HO
       have HLT:Hid (mb<wk.heap.size∧r0<wk.heap.size∧W.heap.size≤wk.heap.size∧kb<wk.heap.size):=hid ⟨mlt,HJ.out.ii.br.lt,HJ.out.ii.bw.size,HJ.out.kk.lt⟩
       have HF:=ab9 w1 HW1.out.2 wk
       unfold BtP at HF
       rw[←ho1]at HF
       have HF:=hid HF
       have HN2:Hid (∀w (m:Bool),w.cell? ⟨xb,0,none⟩=some (.slice (some ⟨gb,off,none⟩) 4 c)→w.cell? ⟨gb,off+2,none⟩=some (.string (S w2))→Blk w kb 4 #[.bool m]→Calls Tryz.prog 50 #[.int .i64 2,.pointer (some ⟨xb,0,none⟩),.pointer (some ⟨kb,0,none⟩)] w fun r w'=> ∃v:Int,r= .returned (.int .i64 v)∧(∀k,o2=some k→v=k)∧w'=w.setCell ⟨kb,0,none⟩ (.bool (m&&o2.isSome))):=hid (fun w m h1 h2 h3=>by rw[ho2];exact YA (i:=2) rfl h1 h2 HW2.out.2 (by omega) (by omega) h3)
       have HN3:Hid (∀w (m:Bool),w.cell? ⟨xb,0,none⟩=some (.slice (some ⟨gb,off,none⟩) 4 c)→w.cell? ⟨gb,off+3,none⟩=some (.string (S w3))→Blk w kb 4 #[.bool m]→Calls Tryz.prog 50 #[.int .i64 3,.pointer (some ⟨xb,0,none⟩),.pointer (some ⟨kb,0,none⟩)] w fun r w'=> ∃v:Int,r= .returned (.int .i64 v)∧(∀k,o3=some k→v=k)∧w'=w.setCell ⟨kb,0,none⟩ (.bool (m&&o3.isSome))):=hid (fun w m h1 h2 h3=>by rw[ho3];exact YA (i:=3) rfl h1 h2 HW3.out.2 (by omega) (by omega) h3)
       clear ho1 ho2 ho3
       go_wp2_with fail
       (with_reducible refine HF.out.mono ?_)
       rintro r w5 ⟨kl,kp,kn,kc,rfl,hkn,hkz,hkv,hb5⟩
       have HJ:=hid (HJ.out.below hb5)
       have HK:=hid (⟨hkn,hkz⟩:_∧_)
       have HV7:=hid (⟨hkv,trivial⟩:_∧True)
       clear m0 m1 m2 m3 m4 g0 g1 g2 g3 g4 mlt c1 hxc hkn hkz hkv hb5 HF
       have hx2:w5.cell? ⟨xb,0,none⟩=some (.slice (some ⟨gb,off,none⟩) 4 c):=HJ.out.xx.cell 0
       have HF:=hid (HN2.out w5 true hx2 (HC2.out _ HJ.out.ii.bw) HJ.out.kk)
       clear hx2
       go_wp2_with fail
       (with_reducible refine HF.out.mono ?_)
       rintro r w6 ⟨tt,rfl,htt,hwn⟩
       have HJ:Hid (AcK W xb (.slice (some ⟨gb,off,none⟩) 4 c) kb (true&&o2.isSome) r0 mb (.int .i64 7) (.int .i64 0) (.slice none 0 0) (.int .i64 0) (.int .i64 0) w6):=hid (by rw[hwn];exact HJ.out.setk _)
       have HV7:Hid (VwF wk.heap.size 1 boC w6 (.slice kp kn kc) kl∧True):=hid ⟨HV7.out.1.to (by rw[hwn];simp[World.setCell]) (fun c h1 _=>by
        have hc:c≠kb:=by have:=HLT.out.2.2.2;omega
        rw[hwn];exact Below.heap_setCell _ _ _ _ hc),trivial⟩
       have Htt:=hid htt
       clear htt hwn HF
       have hx3:w6.cell? ⟨xb,0,none⟩=some (.slice (some ⟨gb,off,none⟩) 4 c):=HJ.out.xx.cell 0
       have HF:=hid (HN3.out w6 (true&&o2.isSome) hx3 (HC3.out _ HJ.out.ii.bw) HJ.out.kk)
       clear hx3
       go_wp2_with fail
       (with_reducible refine HF.out.mono ?_)
       rintro r w7 ⟨bb,rfl,hbb,hwn⟩
       have HJ:Hid (AcK W xb (.slice (some ⟨gb,off,none⟩) 4 c) kb ((true&&o2.isSome)&&o3.isSome) r0 mb (.int .i64 7) (.int .i64 0) (.slice none 0 0) (.int .i64 0) (.int .i64 0) w7):=hid (by rw[hwn];exact HJ.out.setk _)
       have HV7:Hid (VwF wk.heap.size 1 boC w7 (.slice kp kn kc) kl∧True):=hid ⟨HV7.out.1.to (by rw[hwn];simp[World.setCell]) (fun c h1 _=>by
        have hc:c≠kb:=by have:=HLT.out.2.2.2;omega
        rw[hwn];exact Below.heap_setCell _ _ _ _ hc),trivial⟩
       have Hbb:=hid hbb
       clear hbb hwn HF
       have HE:=hid (aow HO.out HK.out.2 Htt.out Hbb.out)
       obtain⟨ob,hob⟩: ∃b,b=((true&&o2.isSome)&&o3.isSome):=⟨_,rfl⟩
       rw[←hob]at HJ
       have HOB:Hid (ob=(o2.isSome&&o3.isSome)):=hid (by rw[hob,Bool.true_and])
       clear hob
       obtain⟨⟨m0,m1,m2,m3,m4⟩,⟨g0,g1,g2,g3,g4⟩,mlt⟩:=yq HJ.out.ii.bm
       go_upto_region 18 with fail
       obtain⟨wn,hwn⟩: ∃wn,wn=((w7.setCell ⟨mb,2,none⟩ (.slice kp kn kc)).setCell ⟨mb,3,none⟩ (.int .i64 tt)).setCell ⟨mb,4,none⟩ (.int .i64 bb):=⟨_,rfl⟩
       rw[←hwn]
       have HJN:Hid (AcK W xb (.slice (some ⟨gb,off,none⟩) 4 c) kb ob r0 mb (.int .i64 7) (.int .i64 0) (.slice kp kn kc) (.int .i64 tt) (.int .i64 bb) wn):=hid (by rw[hwn];exact((HJ.out.set2 _).set3 _).set4 _)
       have HKV:Hid (VwF wk.heap.size 1 boC wn (.slice kp kn kc) kl):=hid (HV7.out.1.to (by rw[hwn];simp[World.setCell]) (fun c h1 _=>by
        have hc:c≠mb:=by have:=HLT.out.1;omega
        rw[hwn];exact((Below.heap_setCell _ _ _ _ hc).trans (Below.heap_setCell _ _ _ _ hc)).trans (Below.heap_setCell _ _ _ _ hc)))
       clear hwn m0 m1 m2 m3 m4 g0 g1 g2 g3 g4 mlt HJ
       have HJ:=HJN
       clear HJN
       have hkc:wn.cell? ⟨kb,0,none⟩=some (.bool ob):=HJ.out.kk.cell 0
       have HAT:Hid (∀wz,(∀b,b≠r0→wz.heap[b]? =wn.heap[b]?)∧wn.heap.size≤wz.heap.size→AcF W.heap.size wz ⟨7,0,kp,kn,kc,kl,tt,bb⟩):=hid fun wz h=>⟨HK.out.1,(HKV.out.to h.2 fun b h1 _=>h.1 b (by have:=HLT.out.2.1;omega)).mono HLT.out.2.2.1⟩
       have HE2:Hid ((ob&&o1.isSome)=(xD ws).isSome):=hid (by rw[HOB.out];exact HE.out.1)
       cases ob
       all_goals
        obtain⟨⟨m0,m1,m2,m3,m4⟩,⟨g0,g1,g2,g3,g4⟩,mlt⟩:=yq HJ.out.ii.bm
        obtain⟨⟨z0,z1,z2,z3,z4⟩,⟨y0,y1,y2,y3,y4⟩,zlt⟩:=yq HJ.out.ii.br
        obtain⟨wz,hwz,hbz,hfz,hvz⟩:=HJ.out.ii.fin (by have:=HRW.out.2.1;omega)
        unfold za za za za za za at hwz
        have HZ:=hid (⟨hwz,hbz,hfz,hvz⟩:_∧_∧_∧_)
        clear hwz hbz hfz hvz
        go_wp2
        rw[←HZ.out.1]
        obtain⟨⟨v0,v1,v2,v3,v4⟩,_,_⟩:=yq HZ.out.2.1
       ·refine bodyPost_ret (v:= .tuple #[.agg #[.int .i64 7,.int .i64 0,.slice kp kn kc,.int .i64 tt,.int .i64 bb],.bool false]) (by simp[results,Tryz.results21,go_sem,v0,v1,v2,v3,v4]) rfl ?_
        exact⟨⟨7,0,kp,kn,kc,kl,tt,bb⟩,by rw[←HE2.out];rfl,HE.out.2,HAT.out _ HZ.out.2.2.2,HZ.out.2.2.1⟩
       ·refine bodyPost_ret (v:= .tuple #[.agg #[.int .i64 7,.int .i64 0,.slice kp kn kc,.int .i64 tt,.int .i64 bb],.bool o1.isSome]) (by simp[results,Tryz.results21,go_sem,v0,v1,v2,v3,v4]) rfl ?_
        exact⟨⟨7,0,kp,kn,kc,kl,tt,bb⟩,by rw[←HE2.out];rfl,HE.out.2,HAT.out _ HZ.out.2.2.2,HZ.out.2.2.1⟩
      ·have HO:Hid (xD ws=none):=hid (by rw[HO.out,if_neg (by rw[←HW.out.1];exact hn4)])
       have hnz:((n:Int)==4)=false:=by rw[beq_eq_false_iff_ne];omega
       have hnz2:((n:Int) != 4)=true:=by rw[bne_iff_ne];omega
       obtain⟨⟨m0,m1,m2,m3,m4⟩,⟨g0,g1,g2,g3,g4⟩,mlt⟩:=yq HJ.out.ii.bm
       obtain⟨⟨z0,z1,z2,z3,z4⟩,⟨y0,y1,y2,y3,y4⟩,zlt⟩:=yq HJ.out.ii.br
       obtain⟨wz,hwz,hbz,hfz,hvz⟩:=HJ.out.ii.fin (by have:=HRW.out.2.1;omega)
       unfold za za za za za za at hwz
       have HZ:=hid (⟨hwz,hbz,hfz,hvz⟩:_∧_∧_∧_)
       clear hwz hbz hfz hvz
       go_wp2
       rw[←HZ.out.1]
       obtain⟨⟨v0,v1,v2,v3,v4⟩,_,_⟩:=yq HZ.out.2.1
       refine bodyPost_ret (v:= .tuple #[.agg #[.int .i64 7,.int .i64 0,.slice none 0 0,.int .i64 0,.int .i64 0],.bool false]) (by simp[results,Tryz.results21,go_sem,v0,v1,v2,v3,v4]) rfl ?_
       exact⟨⟨7,0,none,0,0,[],0,0⟩,by rw[HO.out];rfl,(fun z hz=>by rw[HO.out]at hz;cases hz),⟨rfl,.nil ..⟩,HZ.out.2.2.1⟩
     ·have HO:=hid (aj0 (by rw[HKD.out];exact hk0) (by rw[HKD.out];exact hk3) (by rw[HKD.out];exact hk7))
      rw[HKD.out]at HO
      have k0:((kd:Int)==0)=false:=by rw[beq_eq_false_iff_ne];omega
      have k3:((kd:Int)==3)=false:=by rw[beq_eq_false_iff_ne];omega
      have k7:((kd:Int)==7)=false:=by rw[beq_eq_false_iff_ne];omega
      have hxc:wk.cell? ⟨xb,0,none⟩=some (.slice (some ⟨gb,off,none⟩) n c):=HJ.out.xx.cell 0
      clear hk0 hk3 hk7
      by_cases hn2:n=2
      ·subst hn2
       obtain⟨w1,hw1⟩: ∃x,ws[1]? =some x:=⟨_,List.getElem?_eq_getElem (by rw[←HW.out.1];omega)⟩
       have HW1:Hid (ws.getD 1 []=w1∧w1.length≤90000):=hid ⟨by rw[List.getD_eq_getElem?_getD,hw1];rfl,HW.out.2.2.2.2.2 _ (List.mem_of_getElem? hw1)⟩
       have HC1:=hid (fun W' hb=>HC.out W' hb 1 w1 hw1)
       clear hw1
       have HO:Hid (xD ws=match yR w1 with
        |some n=>some ⟨kd,n,[],0,0⟩
        |none=>none):=hid (by rw[HO.out,if_pos HW.out.1.symm,HW1.out.1];try rfl)
       obtain⟨⟨m0,m1,m2,m3,m4⟩,⟨g0,g1,g2,g3,g4⟩,mlt⟩:=yq HJ.out.ii.bm
       obtain⟨o1,ho1⟩: ∃o,o=yR w1:=⟨_,rfl⟩
       rw[←ho1]at HO
       have HN1:Hid (∀w (m:Bool),w.cell? ⟨xb,0,none⟩=some (.slice (some ⟨gb,off,none⟩) 2 c)→w.cell? ⟨gb,off+1,none⟩=some (.string (S w1))→Blk w kb 4 #[.bool m]→Calls Tryz.prog 50 #[.int .i64 1,.pointer (some ⟨xb,0,none⟩),.pointer (some ⟨kb,0,none⟩)] w fun r w'=> ∃v:Int,r= .returned (.int .i64 v)∧(∀k,o1=some k→v=k)∧w'=w.setCell ⟨kb,0,none⟩ (.bool (m&&o1.isSome))):=hid (fun w m h1 h2 h3=>by rw[ho1];exact YA (i:=1) rfl h1 h2 HW1.out.2 (by omega) (by omega) h3)
       clear ho1
       have hx1:wk.cell? ⟨xb,0,none⟩=some (.slice (some ⟨gb,off,none⟩) 2 c):=HJ.out.xx.cell 0
       have HF:=hid (HN1.out wk true hx1 (HC1.out _ HJ.out.ii.bw) HJ.out.kk)
       clear hx1
       go_wp2_with fail
       (with_reducible refine HF.out.mono ?_)
       rintro r w6 ⟨tt,rfl,htt,hwn⟩
       have HJ:Hid (AcK W xb (.slice (some ⟨gb,off,none⟩) 2 c) kb (true&&o1.isSome) r0 mb (.int .i64 kd) (.int .i64 0) (.slice none 0 0) (.int .i64 0) (.int .i64 0) w6):=hid (by rw[hwn];exact HJ.out.setk _)
       have Htt:=hid htt
       clear htt hwn HF
       clear m0 m1 m2 m3 m4 g0 g1 g2 g3 g4 mlt hxc
       obtain⟨⟨m0,m1,m2,m3,m4⟩,⟨g0,g1,g2,g3,g4⟩,mlt⟩:=yq HJ.out.ii.bm
       go_upto_region 22 with fail
       obtain⟨wn,hwn⟩: ∃wn,wn=w6.setCell ⟨mb,1,none⟩ (.int .i64 tt):=⟨_,rfl⟩
       rw[←hwn]
       have HJN:Hid (AcK W xb (.slice (some ⟨gb,off,none⟩) 2 c) kb o1.isSome r0 mb (.int .i64 kd) (.int .i64 tt) (.slice none 0 0) (.int .i64 0) (.int .i64 0) wn):=hid (by rw[hwn];have h:=HJ.out.set1 (.int .i64 tt);rwa[Bool.true_and]at h)
       clear hwn m0 m1 m2 m3 m4 g0 g1 g2 g3 g4 mlt HJ
       have HJ:=HJN
       clear HJN
       have hkc:wn.cell? ⟨kb,0,none⟩=some (.bool o1.isSome):=HJ.out.kk.cell 0
       have HE:Hid (o1.isSome=(xD ws).isSome∧ ∀z,xD ws=some z→(⟨kd,tt,[],0,0⟩:Ac)=z):=hid (by
        rw[HO.out]
        cases o1 with
        |none=>exact⟨rfl,fun z hz=>by cases hz⟩
        |some a=>exact⟨rfl,fun z hz=>by injection hz with hz;rw[←hz,Htt.out _ rfl]⟩)
       obtain⟨⟨m0,m1,m2,m3,m4⟩,⟨g0,g1,g2,g3,g4⟩,mlt⟩:=yq HJ.out.ii.bm
       obtain⟨⟨z0,z1,z2,z3,z4⟩,⟨y0,y1,y2,y3,y4⟩,zlt⟩:=yq HJ.out.ii.br
       obtain⟨wz,hwz,hbz,hfz,hvz⟩:=HJ.out.ii.fin (by have:=HRW.out.2.1;omega)
       unfold za za za za za za at hwz
       have HZ:=hid (⟨hwz,hbz,hfz,hvz⟩:_∧_∧_∧_)
       clear hwz hbz hfz hvz
       have ek: ∀o,wz.cell? ⟨mb,o,none⟩=wn.cell? ⟨mb,o,none⟩:=fun o=>World.cell?_of_block (HZ.out.2.2.2.1 mb (Ne.symm HJ.out.ii.ne))
       have eb:wz.cell? ⟨kb,0,none⟩=wn.cell? ⟨kb,0,none⟩:=World.cell?_of_block (HZ.out.2.2.2.1 kb (HJ.out.kk.ne_ HJ.out.ii.br (by decide)))
       refine zB (fun W'=>(W'.cell? ⟨mb,0,none⟩=some (.int .i64 kd)∧W'.cell? ⟨mb,1,none⟩=some (.int .i64 tt)∧W'.cell? ⟨mb,2,none⟩=some (.slice none 0 0)∧W'.cell? ⟨mb,3,none⟩=some (.int .i64 0)∧W'.cell? ⟨mb,4,none⟩=some (.int .i64 0))∧W'.cell? ⟨kb,0,none⟩=some (.bool o1.isSome)) 3 (by kernel_rfl) ⟨⟨m0,m1,m2,m3,m4⟩,hkc⟩ (fun hHeld=>?_)
       refine eT 0 hHeld ?_;(try simp only[Act.put,sEa,sEb,sEc]);refine eT 1 hHeld ?_;(try simp only[Act.put,sEa,sEb,sEc])
       refine eR 2 (fun K hK=>?_)
       go_simp
       rw[←HZ.out.1]
       refine hK.out _ _ ⟨⟨(ek 0).trans m0,(ek 1).trans m1,(ek 2).trans m2,(ek 3).trans m3,(ek 4).trans m4⟩,eb.trans hkc⟩ (fun hHeld=>?_)
       clear hK K
       (try simp only[Act.put,sEa,sEb,sEc])
       refine eL (fun K hK=>?_);go_simp;refine hK.out _ _ ?_;clear hK K;(try simp only[Act.put,sEa,sEb,sEc])
       go_wp2
       obtain⟨⟨v0,v1,v2,v3,v4⟩,_,_⟩:=yq HZ.out.2.1
       refine bodyPost_ret (v:= .tuple #[.agg #[.int .i64 kd,.int .i64 tt,.slice none 0 0,.int .i64 0,.int .i64 0],.bool o1.isSome]) (by simp[results,Tryz.results21,go_sem,v0,v1,v2,v3,v4]) rfl ?_
       exact⟨⟨kd,tt,none,0,0,[],0,0⟩,by rw[HE.out.1];rfl,HE.out.2,⟨rfl,.nil ..⟩,HZ.out.2.2.1.drew⟩
      ·have HO:Hid (xD ws=none):=hid (by rw[HO.out,if_neg (by rw[←HW.out.1];exact hn2)])
       have hnz:((n:Int)==2)=false:=by rw[beq_eq_false_iff_ne];omega
       have hnz2:((n:Int) != 2)=true:=by rw[bne_iff_ne];omega
       obtain⟨⟨m0,m1,m2,m3,m4⟩,⟨g0,g1,g2,g3,g4⟩,mlt⟩:=yq HJ.out.ii.bm
       obtain⟨⟨z0,z1,z2,z3,z4⟩,⟨y0,y1,y2,y3,y4⟩,zlt⟩:=yq HJ.out.ii.br
       obtain⟨wz,hwz,hbz,hfz,hvz⟩:=HJ.out.ii.fin (by have:=HRW.out.2.1;omega)
       unfold za za za za za za at hwz
       have HZ:=hid (⟨hwz,hbz,hfz,hvz⟩:_∧_∧_∧_)
       clear hwz hbz hfz hvz
       go_wp2
       rw[←HZ.out.1]
       obtain⟨⟨v0,v1,v2,v3,v4⟩,_,_⟩:=yq HZ.out.2.1
       refine bodyPost_ret (v:= .tuple #[.agg #[.int .i64 kd,.int .i64 0,.slice none 0 0,.int .i64 0,.int .i64 0],.bool false]) (by simp[results,Tryz.results21,go_sem,v0,v1,v2,v3,v4]) rfl ?_
       exact⟨⟨kd,0,none,0,0,[],0,0⟩,by rw[HO.out];rfl,(fun z hz=>by rw[HO.out]at hz;cases hz),⟨rfl,.nil ..⟩,HZ.out.2.2.1⟩
end
end Go.Proofs.YtcdiljebkpikbaaGreat
