/- Parts of the proof: Sff. -/
import Derived.Test.YtcdiljebkpikbaaGreatU42
set_option linter.all false
set_option maxRecDepth 100000
set_option maxHeartbeats 64000000
namespace Go.Proofs.YtcdiljebkpikbaaGreat
section
open Go.RowKit Go.Lib
theorem aT6 (hA:ace) {W:World} {x:ScV} (hx:aci W x) (hn:NmS x) (t:Bs):Calls Tryz.prog 5 #[.agg (scC x).toArray,.string (S t)] W fun r w'=>r= .returned (.bool true)∧Below W.heap.size W w':=by
 have HA:Hid (∀w,Calls Tryz.prog 6 #[] w fun e w'=>e= .returned (.bool true)∧Below w.heap.size w w'):=hid hA
 have HLI:Hid (∀w,Below W.heap.size W w→Calls Tryz.prog 11 #[.agg #[.int .i64 x.sec,.int .i64 x.fr,.int .i64 x.x.seed,.float .f64 x.x.en,.slice x.x.dp x.x.dn x.x.dc,.slice x.x.pp x.x.pn x.x.pc,.slice x.x.lp x.x.ln x.x.lc,.slice x.x.ip x.x.im x.x.ic,.slice x.ap x.an x.ac]] w fun r w'=>(∃b,r= .returned (.bool b)∧(b=true→LtS x))∧Below w.heap.size w w'):=hid fun w hb=>aUu (hx.below hb)
 have HSW:Hid (∀w,Below W.heap.size W w→LtS x→Calls Tryz.prog 12 #[.agg #[.int .i64 x.sec,.int .i64 x.fr,.int .i64 x.x.seed,.float .f64 x.x.en,.slice x.x.dp x.x.dn x.x.dc,.slice x.x.pp x.x.pn x.x.pc,.slice x.x.lp x.x.ln x.x.lc,.slice x.x.ip x.x.im x.x.ic,.slice x.ap x.an x.ac]] w fun r w'=>r= .returned (.tuple #[.string (S (qk x.s)),.int .i64 (qc x.s)])∧Below w.heap.size w w'):=hid fun w hb hl=>aTa (aV5 (hx.below hb) hn hl)
 have HTO:Hid (∀w,Calls Tryz.prog 13 #[.agg #[.int .i64 x.sec,.int .i64 x.fr,.int .i64 x.x.seed,.float .f64 x.x.en,.slice x.x.dp x.x.dn x.x.dc,.slice x.x.pp x.x.pn x.x.pc,.slice x.x.lp x.x.ln x.x.lc,.slice x.x.ip x.x.im x.x.ic,.slice x.ap x.an x.ac]] w fun r w'=>r= .returned (.agg #[.int .i64 x.sec,.int .i64 x.fr,.int .i64 x.x.seed,.float .f64 x.x.en,.slice x.x.dp x.x.dn x.x.dc,.slice x.x.pp x.x.pn x.x.pc,.slice x.x.lp x.x.ln x.x.lc,.slice x.x.ip x.x.im x.x.ic,.slice x.ap x.an x.ac])∧Below w.heap.size w w'):=hid fun w=>aVW _ _ _ _ _ _ _ _ _ _ _ _ _ _ _ _ _ _ _ _
 have HOF:Hid (∀(v:ScV) w,Calls Tryz.prog 10 #[.agg #[.int .i64 v.sec,.int .i64 v.fr,.int .i64 v.x.seed,.float .f64 v.x.en,.slice v.x.dp v.x.dn v.x.dc,.slice v.x.pp v.x.pn v.x.pc,.slice v.x.lp v.x.ln v.x.lc,.slice v.x.ip v.x.im v.x.ic,.slice v.ap v.an v.ac]] w fun r w'=>r= .returned (.agg #[.int .i64 v.sec,.int .i64 v.fr,.int .i64 v.x.seed,.float .f64 v.x.en,.slice v.x.dp v.x.dn v.x.dc,.slice v.x.pp v.x.pn v.x.pc,.slice v.x.lp v.x.ln v.x.lc,.slice v.x.ip v.x.im v.x.ic,.slice v.ap v.an v.ac])∧Below w.heap.size w w'):=hid fun v w=>aBU _ _ _ _ _ _ _ _ _ _ _ _ _ _ _ _ _ _ _ _
 have HRP:Hid (qc x.s=0→ ∀w,Calls Tryz.prog 7 #[.string (S (qk x.s))] w fun r w'=> ∃y:ScV,r= .returned (.tuple #[.agg (scC y).toArray,.int .i64 0,.int .i64 0])∧aci w' y∧ahW y.s x.s=true∧ScS y∧(∀a∈y.ats,okA a.ac=true)∧Below w.heap.size w w'):=hid fun h w=>(aTZ hn.m h w).mono fun r w' ⟨y,h1,h2,h3,_,h5,h6,h7⟩=>⟨y,h1,h2,h3,h5,h6,h7⟩
 have HSM:Hid (qc x.s=0→ ∀w (y:ScV),Below W.heap.size W w→aci w y→ahW y.s x.s=true→ScS y→(∀a∈y.ats,okA a.ac=true)→Calls Tryz.prog 9 #[.agg #[.int .i64 y.sec,.int .i64 y.fr,.int .i64 y.x.seed,.float .f64 y.x.en,.slice y.x.dp y.x.dn y.x.dc,.slice y.x.pp y.x.pn y.x.pc,.slice y.x.lp y.x.ln y.x.lc,.slice y.x.ip y.x.im y.x.ic,.slice y.ap y.an y.ac],.agg #[.int .i64 x.sec,.int .i64 x.fr,.int .i64 x.x.seed,.float .f64 x.x.en,.slice x.x.dp x.x.dn x.x.dc,.slice x.x.pp x.x.pn x.x.pc,.slice x.x.lp x.x.ln x.x.lc,.slice x.x.ip x.x.im x.x.ic,.slice x.ap x.an x.ac]] w fun r w'=>r= .returned (.bool true)∧Below w.heap.size w w'):=hid fun h w y hb hy hs hss hok=>JH hy (hx.below hb) hs hss hok fun a ha=>(aS5 h).2.2.2.1 a.ac (List.mem_map.2 ⟨a,ha,rfl⟩)
 have HPT:Hid (t.length≤20000→ ∀w,Calls Tryz.prog 7 #[.string (S t)] w fun r w'=> ∃(x:ScV) (i e:Int),r= .returned (.tuple #[.agg (scC x).toArray,.int .i64 i,.int .i64 e])∧aci w' x∧(e=0→ScW w' x∧x.s.m.ok∧(qc x.s=0∨qc x.s=11)∧ScS x∧ ∀a∈x.ats,okA a.ac=true)∧Below w.heap.size w w'):=hid fun h w=>aVR h w
 obtain⟨lt,hlt⟩: ∃p:Prop,p=LtS x:=⟨_,rfl⟩
 rw[←hlt]at HLI HSW
 obtain⟨B,hBB⟩: ∃B,B=qk x.s:=⟨_,rfl⟩
 obtain⟨E,hEE⟩: ∃E,E=qc x.s:=⟨_,rfl⟩
 rw[←hBB,←hEE]at HSW HRP
 rw[←hEE]at HSM
 clear hlt hBB hEE hA hx hn
 obtain⟨n,hnn⟩: ∃n,n=t.length:=⟨_,rfl⟩
 rw[←hnn]at HPT
 have HN:=hid hnn
 clear hnn
 obtain⟨xb,hxb⟩: ∃k,k=W.heap.size:=⟨_,rfl⟩
 obtain⟨W1,hW1⟩: ∃w,w=W.alloc (.cells #[.int .i64 x.sec,.int .i64 x.fr,.int .i64 x.x.seed,.float .f64 x.x.en,.slice x.x.dp x.x.dn x.x.dc,.slice x.x.pp x.x.pn x.x.pc,.slice x.x.lp x.x.ln x.x.lc,.slice x.x.ip x.x.im x.x.ic,.slice x.ap x.an x.ac] 36):=⟨_,rfl⟩
 have hB:Blk W1 xb 36 #[.int .i64 x.sec,.int .i64 x.fr,.int .i64 x.x.seed,.float .f64 x.x.en,.slice x.x.dp x.x.dn x.x.dc,.slice x.x.pp x.x.pn x.x.pc,.slice x.x.lp x.x.ln x.x.lc,.slice x.x.ip x.x.im x.x.ic,.slice x.ap x.an x.ac]:=by rw[hW1,hxb];exact Blk.new _ _ _
 have HB:=hid (⟨hB,(by rw[hW1];exact(Below.refl _ W).alloc (Nat.le_refl _) _:Below W.heap.size W W1),hxb,hW1⟩:_∧_∧_∧_)
 have HC:Hid (∀w,Below W1.heap.size W1 w→Blk w xb 36 #[.int .i64 x.sec,.int .i64 x.fr,.int .i64 x.x.seed,.float .f64 x.x.en,.slice x.x.dp x.x.dn x.x.dc,.slice x.x.pp x.x.pn x.x.pc,.slice x.x.lp x.x.ln x.x.lc,.slice x.x.ip x.x.im x.x.ic,.slice x.ap x.an x.ac]∧Below W.heap.size W w):=hid fun w hb=>⟨HB.out.1.below hb HB.out.1.lt,HB.out.2.1.trans (hb.mono HB.out.2.1.size)⟩
 obtain⟨x0,x1,x2,x3,x4,x5,x6,x7,x8⟩:=zZ hB
 have HF:=hid (HLI.out W1 HB.out.2.1)
 clear hB hxb hW1 HLI
 show Calls _ _ #[.agg #[.int .i64 x.sec,.int .i64 x.fr,.int .i64 x.x.seed,.float .f64 x.x.en,.slice x.x.dp x.x.dn x.x.dc,.slice x.x.pp x.x.pn x.x.pc,.slice x.x.lp x.x.ln x.x.lc,.slice x.x.ip x.x.im x.x.ic,.slice x.ap x.an x.ac],_] _ _
 go_enter Tryz.func5,Tryz.ntmps5
 go_upto_region 1 with fail
 rw[←HB.out.2.2.1,←HB.out.2.2.2]
 have hn2:=HN.out.symm
 go_wp2_with fail
 (with_reducible refine HF.out.mono ?_)
 rintro r w2 ⟨⟨b,rfl,hb⟩,hb2⟩
 have HB2:=hid hb2
 have HBL:=hid hb
 clear hb hb2 HF x0 x1 x2 x3 x4 x5 x6 x7 x8
 cases b
 case false=>
  go_wp2_with fail
  (with_reducible refine(HA.out _).mono ?_)
  rintro r w3 ⟨rfl,hb3⟩
  have HZ:=hid (HC.out _ (HB2.out.trans (hb3.mono HB2.out.size))).2
  clear hb3
  go_wp2
  go_ret
  exact⟨rfl,HZ.out⟩
 case true=>
 by_cases hlen:n≤20000
 case neg=>
  have hli:(20000:Int)<(n:Int):=by omega
  go_wp2_with fail
  (with_reducible refine(HA.out _).mono ?_)
  rintro r w3 ⟨rfl,hb3⟩
  have HZ:=hid (HC.out _ (HB2.out.trans (hb3.mono HB2.out.size))).2
  clear hb3
  go_wp2
  go_ret
  exact⟨rfl,HZ.out⟩
 case pos=>
 have hli: ¬(20000:Int)<(n:Int):=by omega
 have HPT:=hid (HPT.out hlen)
 have HLT:=hid (HBL.out rfl)
 obtain⟨x0,x1,x2,x3,x4,x5,x6,x7,x8⟩:=zZ (HC.out _ HB2.out).1
 clear hlen
 go_wp2_with fail
 (with_reducible refine(HTO.out _).mono ?_)
 rintro r w3 ⟨rfl,hb3⟩
 have HB3:=hid (HB2.out.trans (hb3.mono HB2.out.size))
 clear hb3 x0 x1 x2 x3 x4 x5 x6 x7 x8
 have HF:=hid (HSW.out _ (HC.out _ HB3.out).2 HLT.out)
 go_wp2_with fail
 (with_reducible refine HF.out.mono ?_)
 rintro r w4 ⟨rfl,hb4⟩
 have HB4:=hid (HB3.out.trans (hb4.mono HB3.out.size))
 clear hb4 HF hn2 hli HSW HTO HLT HBL
 by_cases hE:E=0
 case pos=>
  subst hE
  go_wp2_with fail
  (with_reducible refine(HRP.out (by trivial) _).mono ?_)
  rintro r w5 ⟨y,rfl,hy,hs1,hss,hok,hb5⟩
  obtain⟨yb,hbx⟩: ∃k,k=w5.heap.size:=⟨_,rfl⟩
  obtain⟨w6,hwx⟩: ∃w,w=w5.alloc (.cells #[.int .i64 y.sec,.int .i64 y.fr,.int .i64 y.x.seed,.float .f64 y.x.en,.slice y.x.dp y.x.dn y.x.dc,.slice y.x.pp y.x.pn y.x.pc,.slice y.x.lp y.x.ln y.x.lc,.slice y.x.ip y.x.im y.x.ic,.slice y.ap y.an y.ac] 32):=⟨_,rfl⟩
  have hX:Blk w6 yb 32 #[.int .i64 y.sec,.int .i64 y.fr,.int .i64 y.x.seed,.float .f64 y.x.en,.slice y.x.dp y.x.dn y.x.dc,.slice y.x.pp y.x.pn y.x.pc,.slice y.x.lp y.x.ln y.x.lc,.slice y.x.ip y.x.im y.x.ic,.slice y.ap y.an y.ac]:=by rw[hwx,hbx];exact Blk.new _ _ _
  have hbn:Below w5.heap.size w5 w6:=by rw[hwx];exact(Below.refl _ _).alloc (Nat.le_refl _) _
  have hb6:=hb5.trans (hbn.mono hb5.size)
  have HB6:=hid (HB4.out.trans (hb6.mono HB4.out.size))
  have HY:=hid (⟨hX,hy.below hbn,hs1,hss,hok⟩:_∧_∧_∧_∧_)
  have HW:=hid (⟨hbx,hwx⟩:_∧_)
  clear hX hbn hbx hwx hy hs1 hss hok hb5 hb6
  rw[show(scC y).toArray= #[.int .i64 y.sec,.int .i64 y.fr,.int .i64 y.x.seed,.float .f64 y.x.en,.slice y.x.dp y.x.dn y.x.dc,.slice y.x.pp y.x.pn y.x.pc,.slice y.x.lp y.x.ln y.x.lc,.slice y.x.ip y.x.im y.x.ic,.slice y.ap y.an y.ac]from rfl]
  go_upto_region 6 with fail
  rw[←HW.out.1,←HW.out.2]
  clear HW
  have HS1:Hid (∀w,Below w6.heap.size w6 w→(w.cell? ⟨xb,0,none⟩=some (.int .i64 x.sec)∧w.cell? ⟨xb,1,none⟩=some (.int .i64 x.fr)∧w.cell? ⟨xb,2,none⟩=some (.int .i64 x.x.seed)∧w.cell? ⟨xb,3,none⟩=some (.float .f64 x.x.en)∧w.cell? ⟨xb,4,none⟩=some (.slice x.x.dp x.x.dn x.x.dc)∧w.cell? ⟨xb,5,none⟩=some (.slice x.x.pp x.x.pn x.x.pc)∧w.cell? ⟨xb,6,none⟩=some (.slice x.x.lp x.x.ln x.x.lc)∧w.cell? ⟨xb,7,none⟩=some (.slice x.x.ip x.x.im x.x.ic)∧w.cell? ⟨xb,8,none⟩=some (.slice x.ap x.an x.ac))∧w.cell? ⟨yb,0,none⟩=some (.int .i64 y.sec)∧w.cell? ⟨yb,1,none⟩=some (.int .i64 y.fr)∧w.cell? ⟨yb,2,none⟩=some (.int .i64 y.x.seed)∧w.cell? ⟨yb,3,none⟩=some (.float .f64 y.x.en)∧w.cell? ⟨yb,4,none⟩=some (.slice y.x.dp y.x.dn y.x.dc)∧w.cell? ⟨yb,5,none⟩=some (.slice y.x.pp y.x.pn y.x.pc)∧w.cell? ⟨yb,6,none⟩=some (.slice y.x.lp y.x.ln y.x.lc)∧w.cell? ⟨yb,7,none⟩=some (.slice y.x.ip y.x.im y.x.ic)∧w.cell? ⟨yb,8,none⟩=some (.slice y.ap y.an y.ac)):=hid fun w hb=>⟨zZ (HC.out _ (HB6.out.trans (hb.mono HB6.out.size))).1,zZ (HY.out.1.below hb HY.out.1.lt)⟩
  have HSY:Hid (∀w,Below w6.heap.size w6 w→Calls Tryz.prog 9 #[.agg #[.int .i64 y.sec,.int .i64 y.fr,.int .i64 y.x.seed,.float .f64 y.x.en,.slice y.x.dp y.x.dn y.x.dc,.slice y.x.pp y.x.pn y.x.pc,.slice y.x.lp y.x.ln y.x.lc,.slice y.x.ip y.x.im y.x.ic,.slice y.ap y.an y.ac],.agg #[.int .i64 x.sec,.int .i64 x.fr,.int .i64 x.x.seed,.float .f64 x.x.en,.slice x.x.dp x.x.dn x.x.dc,.slice x.x.pp x.x.pn x.x.pc,.slice x.x.lp x.x.ln x.x.lc,.slice x.x.ip x.x.im x.x.ic,.slice x.ap x.an x.ac]] w fun r w'=>r= .returned (.bool true)∧Below w.heap.size w w'):=hid fun w hb=>HSM.out (by trivial) w y (HC.out _ (HB6.out.trans (hb.mono HB6.out.size))).2 (HY.out.2.1.below hb) HY.out.2.2.1 HY.out.2.2.2.1 HY.out.2.2.2.2
  have HX:=hid (Below.refl w6.heap.size w6).drew
  refine zB (fun w=>(w.cell? ⟨xb,0,none⟩=some (.int .i64 x.sec)∧w.cell? ⟨xb,1,none⟩=some (.int .i64 x.fr)∧w.cell? ⟨xb,2,none⟩=some (.int .i64 x.x.seed)∧w.cell? ⟨xb,3,none⟩=some (.float .f64 x.x.en)∧w.cell? ⟨xb,4,none⟩=some (.slice x.x.dp x.x.dn x.x.dc)∧w.cell? ⟨xb,5,none⟩=some (.slice x.x.pp x.x.pn x.x.pc)∧w.cell? ⟨xb,6,none⟩=some (.slice x.x.lp x.x.ln x.x.lc)∧w.cell? ⟨xb,7,none⟩=some (.slice x.x.ip x.x.im x.x.ic)∧w.cell? ⟨xb,8,none⟩=some (.slice x.ap x.an x.ac))∧w.cell? ⟨yb,0,none⟩=some (.int .i64 y.sec)∧w.cell? ⟨yb,1,none⟩=some (.int .i64 y.fr)∧w.cell? ⟨yb,2,none⟩=some (.int .i64 y.x.seed)∧w.cell? ⟨yb,3,none⟩=some (.float .f64 y.x.en)∧w.cell? ⟨yb,4,none⟩=some (.slice y.x.dp y.x.dn y.x.dc)∧w.cell? ⟨yb,5,none⟩=some (.slice y.x.pp y.x.pn y.x.pc)∧w.cell? ⟨yb,6,none⟩=some (.slice y.x.lp y.x.ln y.x.lc)∧w.cell? ⟨yb,7,none⟩=some (.slice y.x.ip y.x.im y.x.ic)∧w.cell? ⟨yb,8,none⟩=some (.slice y.ap y.an y.ac)) 8 (by kernel_rfl) (HS1.out _ HX.out) (fun hHeld=>?_)
  refine eT 0 hHeld ?_;(try simp only[Act.put,sEa,sEb,sEc]);refine eT 1 hHeld ?_;(try simp only[Act.put,sEa,sEb,sEc]);refine eT 2 hHeld ?_;(try simp only[Act.put,sEa,sEb,sEc]);refine eT 3 hHeld ?_;(try simp only[Act.put,sEa,sEb,sEc]);refine eT 5 hHeld ?_;(try simp only[Act.put,sEa,sEb,sEc])
  refine eR 4 (fun K hK=>?_)
  go_simp
  (with_reducible refine(HOF.out y _).mono ?_)
  rintro r v4 ⟨rfl,hb⟩
  have HX:=hid (HX.out.trans (hb.mono HX.out.size))
  clear hb
  refine hK.out _ _ (HS1.out _ HX.out) (fun hHeld=>?_)
  clear hK K
  (try simp only[Act.put,sEa,sEb,sEc])
  refine eR 6 (fun K hK=>?_)
  go_simp
  (with_reducible refine(HSY.out _ HX.out).mono ?_)
  rintro r v6 ⟨rfl,hb⟩
  have HX:=hid (HX.out.trans (hb.mono HX.out.size))
  clear hb
  refine hK.out _ _ (HS1.out _ HX.out) (fun hHeld=>?_)
  clear hK K
  (try simp only[Act.put,sEa,sEb,sEc])
  refine eT 7 hHeld ?_;(try simp only[Act.put,sEa,sEb,sEc]);refine eL (fun K hK=>?_);go_simp;refine hK.out _ _ ?_;clear hK K;(try simp only[Act.put,sEa,sEb,sEc])
  have HXw:=hid (HB6.out.trans (HX.out.mono HB6.out.size))
  clear HX hHeld HS1 HSY HSM HRP
  go_wp2_with fail
  (with_reducible refine(HPT.out _).mono ?_)
  rintro r w7 ⟨z,i,e,rfl,hz,hz0,hb7⟩
  obtain⟨zb,hbx⟩: ∃k,k=w7.heap.size:=⟨_,rfl⟩
  obtain⟨w8,hwx⟩: ∃w,w=w7.alloc (.cells #[.int .i64 z.sec,.int .i64 z.fr,.int .i64 z.x.seed,.float .f64 z.x.en,.slice z.x.dp z.x.dn z.x.dc,.slice z.x.pp z.x.pn z.x.pc,.slice z.x.lp z.x.ln z.x.lc,.slice z.x.ip z.x.im z.x.ic,.slice z.ap z.an z.ac] 32):=⟨_,rfl⟩
  have hX:Blk w8 zb 32 #[.int .i64 z.sec,.int .i64 z.fr,.int .i64 z.x.seed,.float .f64 z.x.en,.slice z.x.dp z.x.dn z.x.dc,.slice z.x.pp z.x.pn z.x.pc,.slice z.x.lp z.x.ln z.x.lc,.slice z.x.ip z.x.im z.x.ic,.slice z.ap z.an z.ac]:=by rw[hwx,hbx];exact Blk.new _ _ _
  have hbn:Below w7.heap.size w7 w8:=by rw[hwx];exact(Below.refl _ _).alloc (Nat.le_refl _) _
  have HB8:=hid (HXw.out.trans ((hb7.trans (hbn.mono hb7.size)).mono HXw.out.size))
  have HZ:=hid (⟨hX,fun he=>⟨(hz0 he).1.below hbn,(hz0 he).2⟩⟩:_∧(e=0→ScW w8 z∧z.s.m.ok∧(qc z.s=0∨qc z.s=11)∧ScS z∧ ∀a∈z.ats,okA a.ac=true))
  have HW:=hid (⟨hbx,hwx⟩:_∧_)
  clear hX hbn hbx hwx hz hz0 hb7
  rw[show(scC z).toArray= #[.int .i64 z.sec,.int .i64 z.fr,.int .i64 z.x.seed,.float .f64 z.x.en,.slice z.x.dp z.x.dn z.x.dc,.slice z.x.pp z.x.pn z.x.pc,.slice z.x.lp z.x.ln z.x.lc,.slice z.x.ip z.x.im z.x.ic,.slice z.ap z.an z.ac]from rfl]
  go_upto_region 9 with fail
  rw[←HW.out.1,←HW.out.2]
  clear HW
  go_wp2_with fail
  (with_reducible refine(HA.out _).mono ?_)
  rintro r w9 ⟨rfl,hb9⟩
  have HB9:=hid hb9
  clear hb9
  have HBz:=hid (HB8.out.trans (HB9.out.mono HB8.out.size))
  by_cases he:e=0
  case neg=>
   have he2:(e==0)=false:=by rw[beq_eq_false_iff_ne];exact he
   clear he
   go_wp2_with fail
   (with_reducible refine(HA.out _).mono ?_)
   rintro r w10 ⟨rfl,hb10⟩
   have HZZ:=hid (HC.out _ (HBz.out.trans (hb10.mono HBz.out.size))).2
   clear hb10
   go_wp2
   go_ret
   exact⟨rfl,HZZ.out⟩
  case pos=>
  subst he
  have HZ0:=hid (HZ.out.2 rfl)
  obtain⟨x0,x1,x2,x3,x4,x5,x6,x7,x8⟩:=zZ (HZ.out.1.below HB9.out HZ.out.1.lt)
  have HF:Hid (Calls Tryz.prog 12 #[.agg #[.int .i64 z.sec,.int .i64 z.fr,.int .i64 z.x.seed,.float .f64 z.x.en,.slice z.x.dp z.x.dn z.x.dc,.slice z.x.pp z.x.pn z.x.pc,.slice z.x.lp z.x.ln z.x.lc,.slice z.x.ip z.x.im z.x.ic,.slice z.ap z.an z.ac]] w9 fun r w'=>r= .returned (.tuple #[.string (S (qk z.s)),.int .i64 (qc z.s)])∧Below w9.heap.size w9 w'):=hid (aTa (HZ0.out.1.below HB9.out))
  have HRZ:Hid (qc z.s=0→ ∀w,Calls Tryz.prog 7 #[.string (S (qk z.s))] w fun r w'=> ∃y:ScV,r= .returned (.tuple #[.agg (scC y).toArray,.int .i64 0,.int .i64 0])∧aci w' y∧ahW y.s z.s=true∧ahW z.s y.s=true∧ScS y∧(∀a∈y.ats,okA a.ac=true)∧Below w.heap.size w w'):=hid fun h w=>aTZ HZ0.out.2.1 h w
  have HEE:=hid HZ0.out.2.2.1
  obtain⟨B2,hB2⟩: ∃B,B=qk z.s:=⟨_,rfl⟩
  obtain⟨E2,hE2⟩: ∃E,E=qc z.s:=⟨_,rfl⟩
  rw[←hB2,←hE2]at HF HRZ
  rw[←hE2]at HEE
  clear hB2 hE2
  go_wp2_with fail
  (with_reducible refine HF.out.mono ?_)
  rintro r w10 ⟨rfl,hb10⟩
  have HB10:=hid (HB9.out.trans (hb10.mono HB9.out.size))
  have HBz:=hid (HB8.out.trans (HB10.out.mono HB8.out.size))
  clear hb10 HF x0 x1 x2 x3 x4 x5 x6 x7 x8
  rcases HEE.out with h0|h0
  case inr=>
   subst h0
   go_wp2
   go_ret
   exact⟨rfl,(HC.out _ HBz.out).2⟩
  case inl=>
  subst h0
  go_wp2_with fail
  (with_reducible refine(HRZ.out (by trivial) _).mono ?_)
  rintro r w11 ⟨u,rfl,hu,_,hsu,hssu,hoku,hb11⟩
  obtain⟨ub,hbx⟩: ∃k,k=w11.heap.size:=⟨_,rfl⟩
  obtain⟨w12,hwx⟩: ∃w,w=w11.alloc (.cells #[.int .i64 u.sec,.int .i64 u.fr,.int .i64 u.x.seed,.float .f64 u.x.en,.slice u.x.dp u.x.dn u.x.dc,.slice u.x.pp u.x.pn u.x.pc,.slice u.x.lp u.x.ln u.x.lc,.slice u.x.ip u.x.im u.x.ic,.slice u.ap u.an u.ac] 32):=⟨_,rfl⟩
  have hX:Blk w12 ub 32 #[.int .i64 u.sec,.int .i64 u.fr,.int .i64 u.x.seed,.float .f64 u.x.en,.slice u.x.dp u.x.dn u.x.dc,.slice u.x.pp u.x.pn u.x.pc,.slice u.x.lp u.x.ln u.x.lc,.slice u.x.ip u.x.im u.x.ic,.slice u.ap u.an u.ac]:=by rw[hwx,hbx];exact Blk.new _ _ _
  have hbn:Below w11.heap.size w11 w12:=by rw[hwx];exact(Below.refl _ _).alloc (Nat.le_refl _) _
  have hb12:=hb11.trans (hbn.mono hb11.size)
  have HB12:=hid (HB10.out.trans (hb12.mono HB10.out.size))
  have HU:=hid (⟨hX,hu.below hbn,hsu,hssu,hoku⟩:_∧_∧_∧_∧_)
  have HW:=hid (⟨hbx,hwx⟩:_∧_)
  clear hX hbn hbx hwx hu hsu hssu hoku hb11 hb12 HRZ
  rw[show(scC u).toArray= #[.int .i64 u.sec,.int .i64 u.fr,.int .i64 u.x.seed,.float .f64 u.x.en,.slice u.x.dp u.x.dn u.x.dc,.slice u.x.pp u.x.pn u.x.pc,.slice u.x.lp u.x.ln u.x.lc,.slice u.x.ip u.x.im u.x.ic,.slice u.ap u.an u.ac]from rfl]
  go_upto_region 15 with fail
  rw[←HW.out.1,←HW.out.2]
  clear HW
  have HS2:Hid (∀w,Below w12.heap.size w12 w→(w.cell? ⟨zb,0,none⟩=some (.int .i64 z.sec)∧w.cell? ⟨zb,1,none⟩=some (.int .i64 z.fr)∧w.cell? ⟨zb,2,none⟩=some (.int .i64 z.x.seed)∧w.cell? ⟨zb,3,none⟩=some (.float .f64 z.x.en)∧w.cell? ⟨zb,4,none⟩=some (.slice z.x.dp z.x.dn z.x.dc)∧w.cell? ⟨zb,5,none⟩=some (.slice z.x.pp z.x.pn z.x.pc)∧w.cell? ⟨zb,6,none⟩=some (.slice z.x.lp z.x.ln z.x.lc)∧w.cell? ⟨zb,7,none⟩=some (.slice z.x.ip z.x.im z.x.ic)∧w.cell? ⟨zb,8,none⟩=some (.slice z.ap z.an z.ac))∧w.cell? ⟨ub,0,none⟩=some (.int .i64 u.sec)∧w.cell? ⟨ub,1,none⟩=some (.int .i64 u.fr)∧w.cell? ⟨ub,2,none⟩=some (.int .i64 u.x.seed)∧w.cell? ⟨ub,3,none⟩=some (.float .f64 u.x.en)∧w.cell? ⟨ub,4,none⟩=some (.slice u.x.dp u.x.dn u.x.dc)∧w.cell? ⟨ub,5,none⟩=some (.slice u.x.pp u.x.pn u.x.pc)∧w.cell? ⟨ub,6,none⟩=some (.slice u.x.lp u.x.ln u.x.lc)∧w.cell? ⟨ub,7,none⟩=some (.slice u.x.ip u.x.im u.x.ic)∧w.cell? ⟨ub,8,none⟩=some (.slice u.ap u.an u.ac)):=hid fun w hb=>⟨zZ (HZ.out.1.below (HB12.out.trans (hb.mono HB12.out.size)) HZ.out.1.lt),zZ (HU.out.1.below hb HU.out.1.lt)⟩
  have HSU:Hid (∀w,Below w12.heap.size w12 w→Calls Tryz.prog 9 #[.agg #[.int .i64 z.sec,.int .i64 z.fr,.int .i64 z.x.seed,.float .f64 z.x.en,.slice z.x.dp z.x.dn z.x.dc,.slice z.x.pp z.x.pn z.x.pc,.slice z.x.lp z.x.ln z.x.lc,.slice z.x.ip z.x.im z.x.ic,.slice z.ap z.an z.ac],.agg #[.int .i64 u.sec,.int .i64 u.fr,.int .i64 u.x.seed,.float .f64 u.x.en,.slice u.x.dp u.x.dn u.x.dc,.slice u.x.pp u.x.pn u.x.pc,.slice u.x.lp u.x.ln u.x.lc,.slice u.x.ip u.x.im u.x.ic,.slice u.ap u.an u.ac]] w fun r w'=>r= .returned (.bool true)∧Below w.heap.size w w'):=hid fun w hb=>JH (HZ0.out.1.i.below (HB12.out.trans (hb.mono HB12.out.size))) (HU.out.2.1.below hb) HU.out.2.2.1 HZ0.out.2.2.2.1 HZ0.out.2.2.2.2 HU.out.2.2.2.2
  have HX:=hid (Below.refl w12.heap.size w12).drew
  refine zB (fun w=>(w.cell? ⟨zb,0,none⟩=some (.int .i64 z.sec)∧w.cell? ⟨zb,1,none⟩=some (.int .i64 z.fr)∧w.cell? ⟨zb,2,none⟩=some (.int .i64 z.x.seed)∧w.cell? ⟨zb,3,none⟩=some (.float .f64 z.x.en)∧w.cell? ⟨zb,4,none⟩=some (.slice z.x.dp z.x.dn z.x.dc)∧w.cell? ⟨zb,5,none⟩=some (.slice z.x.pp z.x.pn z.x.pc)∧w.cell? ⟨zb,6,none⟩=some (.slice z.x.lp z.x.ln z.x.lc)∧w.cell? ⟨zb,7,none⟩=some (.slice z.x.ip z.x.im z.x.ic)∧w.cell? ⟨zb,8,none⟩=some (.slice z.ap z.an z.ac))∧w.cell? ⟨ub,0,none⟩=some (.int .i64 u.sec)∧w.cell? ⟨ub,1,none⟩=some (.int .i64 u.fr)∧w.cell? ⟨ub,2,none⟩=some (.int .i64 u.x.seed)∧w.cell? ⟨ub,3,none⟩=some (.float .f64 u.x.en)∧w.cell? ⟨ub,4,none⟩=some (.slice u.x.dp u.x.dn u.x.dc)∧w.cell? ⟨ub,5,none⟩=some (.slice u.x.pp u.x.pn u.x.pc)∧w.cell? ⟨ub,6,none⟩=some (.slice u.x.lp u.x.ln u.x.lc)∧w.cell? ⟨ub,7,none⟩=some (.slice u.x.ip u.x.im u.x.ic)∧w.cell? ⟨ub,8,none⟩=some (.slice u.ap u.an u.ac)) 9 (by kernel_rfl) (HS2.out _ HX.out) (fun hHeld=>?_)
  refine eT 0 hHeld ?_;(try simp only[Act.put,sEa,sEb,sEc]);refine eT 1 hHeld ?_;(try simp only[Act.put,sEa,sEb,sEc]);refine eT 2 hHeld ?_;(try simp only[Act.put,sEa,sEb,sEc]);refine eT 3 hHeld ?_;(try simp only[Act.put,sEa,sEb,sEc]);refine eT 5 hHeld ?_;(try simp only[Act.put,sEa,sEb,sEc])
  refine eR 4 (fun K hK=>?_)
  go_simp
  (with_reducible refine(HOF.out z _).mono ?_)
  rintro r v4 ⟨rfl,hb⟩
  have HX:=hid (HX.out.trans (hb.mono HX.out.size))
  clear hb
  refine hK.out _ _ (HS2.out _ HX.out) (fun hHeld=>?_)
  clear hK K
  (try simp only[Act.put,sEa,sEb,sEc])
  refine eR 6 (fun K hK=>?_)
  go_simp
  (with_reducible refine(HOF.out u _).mono ?_)
  rintro r v6 ⟨rfl,hb⟩
  have HX:=hid (HX.out.trans (hb.mono HX.out.size))
  clear hb
  refine hK.out _ _ (HS2.out _ HX.out) (fun hHeld=>?_)
  clear hK K
  (try simp only[Act.put,sEa,sEb,sEc])
  refine eR 7 (fun K hK=>?_)
  go_simp
  (with_reducible refine(HSU.out _ HX.out).mono ?_)
  rintro r v7 ⟨rfl,hb⟩
  have HX:=hid (HX.out.trans (hb.mono HX.out.size))
  clear hb
  refine hK.out _ _ (HS2.out _ HX.out) (fun hHeld=>?_)
  clear hK K
  (try simp only[Act.put,sEa,sEb,sEc])
  refine eT 8 hHeld ?_;(try simp only[Act.put,sEa,sEb,sEc]);refine eL (fun K hK=>?_);go_simp;refine hK.out _ _ ?_;clear hK K;(try simp only[Act.put,sEa,sEb,sEc])
  have HZZ:=hid (HC.out _ (HB8.out.trans ((HB12.out.trans (HX.out.mono HB12.out.size)).mono HB8.out.size))).2
  go_wp2
  go_ret
  exact⟨rfl,HZZ.out⟩
 case neg=>
  have hE2:(E==0)=false:=by rw[beq_eq_false_iff_ne];exact hE
  clear hE HSM HRP
  have HXw:=hid HB4.out
  go_wp2_with fail
  (with_reducible refine(HPT.out _).mono ?_)
  rintro r w7 ⟨z,i,e,rfl,hz,hz0,hb7⟩
  obtain⟨zb,hbx⟩: ∃k,k=w7.heap.size:=⟨_,rfl⟩
  obtain⟨w8,hwx⟩: ∃w,w=w7.alloc (.cells #[.int .i64 z.sec,.int .i64 z.fr,.int .i64 z.x.seed,.float .f64 z.x.en,.slice z.x.dp z.x.dn z.x.dc,.slice z.x.pp z.x.pn z.x.pc,.slice z.x.lp z.x.ln z.x.lc,.slice z.x.ip z.x.im z.x.ic,.slice z.ap z.an z.ac] 32):=⟨_,rfl⟩
  have hX:Blk w8 zb 32 #[.int .i64 z.sec,.int .i64 z.fr,.int .i64 z.x.seed,.float .f64 z.x.en,.slice z.x.dp z.x.dn z.x.dc,.slice z.x.pp z.x.pn z.x.pc,.slice z.x.lp z.x.ln z.x.lc,.slice z.x.ip z.x.im z.x.ic,.slice z.ap z.an z.ac]:=by rw[hwx,hbx];exact Blk.new _ _ _
  have hbn:Below w7.heap.size w7 w8:=by rw[hwx];exact(Below.refl _ _).alloc (Nat.le_refl _) _
  have HB8:=hid (HXw.out.trans ((hb7.trans (hbn.mono hb7.size)).mono HXw.out.size))
  have HZ:=hid (⟨hX,fun he=>⟨(hz0 he).1.below hbn,(hz0 he).2⟩⟩:_∧(e=0→ScW w8 z∧z.s.m.ok∧(qc z.s=0∨qc z.s=11)∧ScS z∧ ∀a∈z.ats,okA a.ac=true))
  have HW:=hid (⟨hbx,hwx⟩:_∧_)
  clear hX hbn hbx hwx hz hz0 hb7
  rw[show(scC z).toArray= #[.int .i64 z.sec,.int .i64 z.fr,.int .i64 z.x.seed,.float .f64 z.x.en,.slice z.x.dp z.x.dn z.x.dc,.slice z.x.pp z.x.pn z.x.pc,.slice z.x.lp z.x.ln z.x.lc,.slice z.x.ip z.x.im z.x.ic,.slice z.ap z.an z.ac]from rfl]
  go_upto_region 9 with fail
  rw[←HW.out.1,←HW.out.2]
  clear HW
  go_wp2_with fail
  (with_reducible refine(HA.out _).mono ?_)
  rintro r w9 ⟨rfl,hb9⟩
  have HB9:=hid hb9
  clear hb9
  have HBz:=hid (HB8.out.trans (HB9.out.mono HB8.out.size))
  by_cases he:e=0
  case neg=>
   have he2:(e==0)=false:=by rw[beq_eq_false_iff_ne];exact he
   clear he
   go_wp2_with fail
   (with_reducible refine(HA.out _).mono ?_)
   rintro r w10 ⟨rfl,hb10⟩
   have HZZ:=hid (HC.out _ (HBz.out.trans (hb10.mono HBz.out.size))).2
   clear hb10
   go_wp2
   go_ret
   exact⟨rfl,HZZ.out⟩
  case pos=>
  subst he
  have HZ0:=hid (HZ.out.2 rfl)
  obtain⟨x0,x1,x2,x3,x4,x5,x6,x7,x8⟩:=zZ (HZ.out.1.below HB9.out HZ.out.1.lt)
  have HF:Hid (Calls Tryz.prog 12 #[.agg #[.int .i64 z.sec,.int .i64 z.fr,.int .i64 z.x.seed,.float .f64 z.x.en,.slice z.x.dp z.x.dn z.x.dc,.slice z.x.pp z.x.pn z.x.pc,.slice z.x.lp z.x.ln z.x.lc,.slice z.x.ip z.x.im z.x.ic,.slice z.ap z.an z.ac]] w9 fun r w'=>r= .returned (.tuple #[.string (S (qk z.s)),.int .i64 (qc z.s)])∧Below w9.heap.size w9 w'):=hid (aTa (HZ0.out.1.below HB9.out))
  have HRZ:Hid (qc z.s=0→ ∀w,Calls Tryz.prog 7 #[.string (S (qk z.s))] w fun r w'=> ∃y:ScV,r= .returned (.tuple #[.agg (scC y).toArray,.int .i64 0,.int .i64 0])∧aci w' y∧ahW y.s z.s=true∧ahW z.s y.s=true∧ScS y∧(∀a∈y.ats,okA a.ac=true)∧Below w.heap.size w w'):=hid fun h w=>aTZ HZ0.out.2.1 h w
  have HEE:=hid HZ0.out.2.2.1
  obtain⟨B2,hB2⟩: ∃B,B=qk z.s:=⟨_,rfl⟩
  obtain⟨E2,hE2⟩: ∃E,E=qc z.s:=⟨_,rfl⟩
  rw[←hB2,←hE2]at HF HRZ
  rw[←hE2]at HEE
  clear hB2 hE2
  go_wp2_with fail
  (with_reducible refine HF.out.mono ?_)
  rintro r w10 ⟨rfl,hb10⟩
  have HB10:=hid (HB9.out.trans (hb10.mono HB9.out.size))
  have HBz:=hid (HB8.out.trans (HB10.out.mono HB8.out.size))
  clear hb10 HF x0 x1 x2 x3 x4 x5 x6 x7 x8
  rcases HEE.out with h0|h0
  case inr=>
   subst h0
   go_wp2
   go_ret
   exact⟨rfl,(HC.out _ HBz.out).2⟩
  case inl=>
  subst h0
  go_wp2_with fail
  (with_reducible refine(HRZ.out (by trivial) _).mono ?_)
  rintro r w11 ⟨u,rfl,hu,_,hsu,hssu,hoku,hb11⟩
  obtain⟨ub,hbx⟩: ∃k,k=w11.heap.size:=⟨_,rfl⟩
  obtain⟨w12,hwx⟩: ∃w,w=w11.alloc (.cells #[.int .i64 u.sec,.int .i64 u.fr,.int .i64 u.x.seed,.float .f64 u.x.en,.slice u.x.dp u.x.dn u.x.dc,.slice u.x.pp u.x.pn u.x.pc,.slice u.x.lp u.x.ln u.x.lc,.slice u.x.ip u.x.im u.x.ic,.slice u.ap u.an u.ac] 32):=⟨_,rfl⟩
  have hX:Blk w12 ub 32 #[.int .i64 u.sec,.int .i64 u.fr,.int .i64 u.x.seed,.float .f64 u.x.en,.slice u.x.dp u.x.dn u.x.dc,.slice u.x.pp u.x.pn u.x.pc,.slice u.x.lp u.x.ln u.x.lc,.slice u.x.ip u.x.im u.x.ic,.slice u.ap u.an u.ac]:=by rw[hwx,hbx];exact Blk.new _ _ _
  have hbn:Below w11.heap.size w11 w12:=by rw[hwx];exact(Below.refl _ _).alloc (Nat.le_refl _) _
  have hb12:=hb11.trans (hbn.mono hb11.size)
  have HB12:=hid (HB10.out.trans (hb12.mono HB10.out.size))
  have HU:=hid (⟨hX,hu.below hbn,hsu,hssu,hoku⟩:_∧_∧_∧_∧_)
  have HW:=hid (⟨hbx,hwx⟩:_∧_)
  clear hX hbn hbx hwx hu hsu hssu hoku hb11 hb12 HRZ
  rw[show(scC u).toArray= #[.int .i64 u.sec,.int .i64 u.fr,.int .i64 u.x.seed,.float .f64 u.x.en,.slice u.x.dp u.x.dn u.x.dc,.slice u.x.pp u.x.pn u.x.pc,.slice u.x.lp u.x.ln u.x.lc,.slice u.x.ip u.x.im u.x.ic,.slice u.ap u.an u.ac]from rfl]
  go_upto_region 15 with fail
  rw[←HW.out.1,←HW.out.2]
  clear HW
  have HS2:Hid (∀w,Below w12.heap.size w12 w→(w.cell? ⟨zb,0,none⟩=some (.int .i64 z.sec)∧w.cell? ⟨zb,1,none⟩=some (.int .i64 z.fr)∧w.cell? ⟨zb,2,none⟩=some (.int .i64 z.x.seed)∧w.cell? ⟨zb,3,none⟩=some (.float .f64 z.x.en)∧w.cell? ⟨zb,4,none⟩=some (.slice z.x.dp z.x.dn z.x.dc)∧w.cell? ⟨zb,5,none⟩=some (.slice z.x.pp z.x.pn z.x.pc)∧w.cell? ⟨zb,6,none⟩=some (.slice z.x.lp z.x.ln z.x.lc)∧w.cell? ⟨zb,7,none⟩=some (.slice z.x.ip z.x.im z.x.ic)∧w.cell? ⟨zb,8,none⟩=some (.slice z.ap z.an z.ac))∧w.cell? ⟨ub,0,none⟩=some (.int .i64 u.sec)∧w.cell? ⟨ub,1,none⟩=some (.int .i64 u.fr)∧w.cell? ⟨ub,2,none⟩=some (.int .i64 u.x.seed)∧w.cell? ⟨ub,3,none⟩=some (.float .f64 u.x.en)∧w.cell? ⟨ub,4,none⟩=some (.slice u.x.dp u.x.dn u.x.dc)∧w.cell? ⟨ub,5,none⟩=some (.slice u.x.pp u.x.pn u.x.pc)∧w.cell? ⟨ub,6,none⟩=some (.slice u.x.lp u.x.ln u.x.lc)∧w.cell? ⟨ub,7,none⟩=some (.slice u.x.ip u.x.im u.x.ic)∧w.cell? ⟨ub,8,none⟩=some (.slice u.ap u.an u.ac)):=hid fun w hb=>⟨zZ (HZ.out.1.below (HB12.out.trans (hb.mono HB12.out.size)) HZ.out.1.lt),zZ (HU.out.1.below hb HU.out.1.lt)⟩
  have HSU:Hid (∀w,Below w12.heap.size w12 w→Calls Tryz.prog 9 #[.agg #[.int .i64 z.sec,.int .i64 z.fr,.int .i64 z.x.seed,.float .f64 z.x.en,.slice z.x.dp z.x.dn z.x.dc,.slice z.x.pp z.x.pn z.x.pc,.slice z.x.lp z.x.ln z.x.lc,.slice z.x.ip z.x.im z.x.ic,.slice z.ap z.an z.ac],.agg #[.int .i64 u.sec,.int .i64 u.fr,.int .i64 u.x.seed,.float .f64 u.x.en,.slice u.x.dp u.x.dn u.x.dc,.slice u.x.pp u.x.pn u.x.pc,.slice u.x.lp u.x.ln u.x.lc,.slice u.x.ip u.x.im u.x.ic,.slice u.ap u.an u.ac]] w fun r w'=>r= .returned (.bool true)∧Below w.heap.size w w'):=hid fun w hb=>JH (HZ0.out.1.i.below (HB12.out.trans (hb.mono HB12.out.size))) (HU.out.2.1.below hb) HU.out.2.2.1 HZ0.out.2.2.2.1 HZ0.out.2.2.2.2 HU.out.2.2.2.2
  have HX:=hid (Below.refl w12.heap.size w12).drew
  refine zB (fun w=>(w.cell? ⟨zb,0,none⟩=some (.int .i64 z.sec)∧w.cell? ⟨zb,1,none⟩=some (.int .i64 z.fr)∧w.cell? ⟨zb,2,none⟩=some (.int .i64 z.x.seed)∧w.cell? ⟨zb,3,none⟩=some (.float .f64 z.x.en)∧w.cell? ⟨zb,4,none⟩=some (.slice z.x.dp z.x.dn z.x.dc)∧w.cell? ⟨zb,5,none⟩=some (.slice z.x.pp z.x.pn z.x.pc)∧w.cell? ⟨zb,6,none⟩=some (.slice z.x.lp z.x.ln z.x.lc)∧w.cell? ⟨zb,7,none⟩=some (.slice z.x.ip z.x.im z.x.ic)∧w.cell? ⟨zb,8,none⟩=some (.slice z.ap z.an z.ac))∧w.cell? ⟨ub,0,none⟩=some (.int .i64 u.sec)∧w.cell? ⟨ub,1,none⟩=some (.int .i64 u.fr)∧w.cell? ⟨ub,2,none⟩=some (.int .i64 u.x.seed)∧w.cell? ⟨ub,3,none⟩=some (.float .f64 u.x.en)∧w.cell? ⟨ub,4,none⟩=some (.slice u.x.dp u.x.dn u.x.dc)∧w.cell? ⟨ub,5,none⟩=some (.slice u.x.pp u.x.pn u.x.pc)∧w.cell? ⟨ub,6,none⟩=some (.slice u.x.lp u.x.ln u.x.lc)∧w.cell? ⟨ub,7,none⟩=some (.slice u.x.ip u.x.im u.x.ic)∧w.cell? ⟨ub,8,none⟩=some (.slice u.ap u.an u.ac)) 9 (by kernel_rfl) (HS2.out _ HX.out) (fun hHeld=>?_)
  refine eT 0 hHeld ?_;(try simp only[Act.put,sEa,sEb,sEc]);refine eT 1 hHeld ?_;(try simp only[Act.put,sEa,sEb,sEc]);refine eT 2 hHeld ?_;(try simp only[Act.put,sEa,sEb,sEc]);refine eT 3 hHeld ?_;(try simp only[Act.put,sEa,sEb,sEc]);refine eT 5 hHeld ?_;(try simp only[Act.put,sEa,sEb,sEc])
  refine eR 4 (fun K hK=>?_)
  go_simp
  (with_reducible refine(HOF.out z _).mono ?_)
  rintro r v4 ⟨rfl,hb⟩
  have HX:=hid (HX.out.trans (hb.mono HX.out.size))
  clear hb
  refine hK.out _ _ (HS2.out _ HX.out) (fun hHeld=>?_)
  clear hK K
  (try simp only[Act.put,sEa,sEb,sEc])
  refine eR 6 (fun K hK=>?_)
  go_simp
  (with_reducible refine(HOF.out u _).mono ?_)
  rintro r v6 ⟨rfl,hb⟩
  have HX:=hid (HX.out.trans (hb.mono HX.out.size))
  clear hb
  refine hK.out _ _ (HS2.out _ HX.out) (fun hHeld=>?_)
  clear hK K
  (try simp only[Act.put,sEa,sEb,sEc])
  refine eR 7 (fun K hK=>?_)
  go_simp
  (with_reducible refine(HSU.out _ HX.out).mono ?_)
  rintro r v7 ⟨rfl,hb⟩
  have HX:=hid (HX.out.trans (hb.mono HX.out.size))
  clear hb
  refine hK.out _ _ (HS2.out _ HX.out) (fun hHeld=>?_)
  clear hK K
  (try simp only[Act.put,sEa,sEb,sEc])
  refine eT 8 hHeld ?_;(try simp only[Act.put,sEa,sEb,sEc]);refine eL (fun K hK=>?_);go_simp;refine hK.out _ _ ?_;clear hK K;(try simp only[Act.put,sEa,sEb,sEc])
  have HZZ:=hid (HC.out _ (HB8.out.trans ((HB12.out.trans (HX.out.mono HB12.out.size)).mono HB8.out.size))).2
  go_wp2
  go_ret
  exact⟨rfl,HZZ.out⟩
end
end Go.Proofs.YtcdiljebkpikbaaGreat
