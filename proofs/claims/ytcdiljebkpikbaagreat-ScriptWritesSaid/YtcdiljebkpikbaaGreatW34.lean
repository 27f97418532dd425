/- Parts of the proof: Scg Sch Eg Ex Set Ses Ok. -/
import Derived.Laws.EntriesVeiled
import Derived.Deep.Cut
import Derived.Deep.CutRange
import Derived.Deep.CutBlock
import Derived.Test.YtcdiljebkpikbaaGreatRows
import Derived.Deep.Slices
import Derived.ProofKit
import Derived.SizedLaws
import Derived.Laws.Cover2
import Derived.Carry
import Derived.Test.YtcdiljebkpikbaaGreatS12
import Derived.Test.YtcdiljebkpikbaaGreatS30
import Derived.Test.YtcdiljebkpikbaaGreatW31
import Derived.Test.YtcdiljebkpikbaaGreatW32
import Derived.Test.YtcdiljebkpikbaaGreatW33
set_option linter.all false
set_option maxRecDepth 100000
set_option maxHeartbeats 64000000
namespace Go.Proofs.YtcdiljebkpikbaaGreat
section
open Go.RowKit Go.Lib
section
variable {B:Nat} {v:Value} {b:Bs} {W:World}
theorem Ly.all (B:Nat) (W:World) (o:Obj) (hB:B≤W.heap.size):Ly B W (W.alloc o):=Ly.of ((Below.refl _ W).alloc (Nat.le_refl _) _) hB
theorem aTd {l:List Int} (hown:OB B W v b) (hB:B≤W.heap.size) (hl:l.length≤100) (hok: ∀z∈l,okZ z) (hb:b.length≤900000):
  Calls Tryz.prog 62 #[v,.slice (some ⟨W.heap.size,0,none⟩) l.length l.length] (W.alloc (.cells (cZ l) 3)) (aSR B (W.alloc (.cells (cZ l) 3)) (b++l.flatMap X6)):=
 qk (hown.below ((Below.refl _ W).alloc (Nat.le_refl _) _)) (by simp;omega) (Blk.new W _ _) hl hok hb
theorem aTo {l:List Int} (hown:OB B W v b) (hB:B≤W.heap.size) (hl:l.length≤100) (hok: ∀z∈l,okZ z) (hb:b.length≤900000):
  Calls Tryz.prog 62 #[v,.slice (some ⟨W.heap.size,0,none⟩) l.length l.length] (W.alloc (.cells (cZ l) 3)).drew (aSR B (W.alloc (.cells (cZ l) 3)).drew (b++l.flatMap X6)):=
 qk (hown.below (Z0 ((Below.refl _ W).alloc (Nat.le_refl _) _) 1)) (Nat.le_trans hB (by show W.heap.size≤(W.alloc _).heap.size;simp)) (Blk.new W _ _).drew hl hok hb
theorem Ly.alld (B:Nat) (W:World) (o:Obj) (hB:B≤W.heap.size):Ly B W (W.alloc o).drew:=Ly.of (Z0 ((Below.refl _ W).alloc (Nat.le_refl _) _) 1) hB
theorem aUC {x:In} (hown:OB B W v b) (hB:B≤W.heap.size) (hx:x.ok) (hb:b.length≤900000):
  Calls Tryz.prog 61 #[v,.agg #[.int .i64 x.op,.int .i64 x.a,.int .i64 x.b,.int .i64 x.c]] W (aSR B W (b++aRU x)):=by
 obtain⟨p0,c0,rfl⟩:=zm hown
 obtain⟨W1,hW1⟩: ∃W1,W1=W.alloc (.cells #[.int .i64 x.op,.int .i64 x.a,.int .i64 x.b,.int .i64 x.c] 84):=⟨_,rfl⟩
 have hB1:Blk W1 W.heap.size 84 #[.int .i64 x.op,.int .i64 x.a,.int .i64 x.b,.int .i64 x.c]:=by rw[hW1];exact Blk.new W _ _
 have hl1:Below W.heap.size W W1:=by rw[hW1];exact(Below.refl _ W).alloc (Nat.le_refl _) _
 have HI:Hid (Calls Tryz.prog 62 #[.slice p0 b.length c0,.slice (some ⟨W1.heap.size,0,none⟩) 4 4] (W1.alloc (.cells #[.int .i64 x.op,.int .i64 x.a,.int .i64 x.b,.int .i64 x.c] 3)) (aSR B (W1.alloc (.cells #[.int .i64 x.op,.int .i64 x.a,.int .i64 x.b,.int .i64 x.c] 3)) (b++aRU x))):=hid (by
  have:=aTd (l:=[x.op,x.a,x.b,x.c]) (hown.below hl1) (Nat.le_trans hB hl1.size) (by simp) (by
   intro z hz
   simp only[List.mem_cons,List.not_mem_nil,or_false]at hz
   rcases hz with rfl|rfl|rfl|rfl
   ·exact hx.1
   ·exact hx.2.1
   ·exact hx.2.2.1
   ·exact hx.2.2.2) hb
  rw[show [x.op,x.a,x.b,x.c].flatMap X6=aRU x by simp[aRU]]at this
  exact this)
 obtain⟨m0,hm0⟩: ∃m,m=b.length:=⟨_,rfl⟩
 rw[←hm0]at HI⊢
 have x0:W1.cell? ⟨W.heap.size,0,none⟩=some (.int .i64 x.op):=hB1.cell 0
 have x1:W1.cell? ⟨W.heap.size,1,none⟩=some (.int .i64 x.a):=hB1.cell 1
 have x2:W1.cell? ⟨W.heap.size,2,none⟩=some (.int .i64 x.b):=hB1.cell 2
 have x3:W1.cell? ⟨W.heap.size,3,none⟩=some (.int .i64 x.c):=hB1.cell 3
 have HL:Hid (Ly B W (W1.alloc (.cells #[.int .i64 x.op,.int .i64 x.a,.int .i64 x.b,.int .i64 x.c] 3))):=hid ((Ly.of hl1 hB).trans (Ly.all B W1 _ (Nat.le_trans hB hl1.size)))
 have HW1:=hid hW1
 clear hown hB hx hb hB1 hl1 hW1 hm0
 go_enter Tryz.func61,Tryz.ntmps61
 go_upto_region 1 with fail
 rw[←HW1.out]
 go_wp2_with fail
 (with_reducible refine HI.out.mono ?_)
 rintro r w2 ⟨v2,rfl,hO2,hl2⟩
 obtain⟨p2,c2,rfl⟩:=zm hO2
 obtain⟨m2,hm2⟩: ∃m,m=(b++aRU x).length:=⟨_,rfl⟩
 rw[←hm2]at hO2⊢
 have HF:Hid (OB B w2 (.slice p2 m2 c2) (b++aRU x)∧Ly B W w2):=hid ⟨hO2,HL.out.trans hl2⟩
 clear hO2 hl2 hm2
 go_wp2
 go_ret
 exact⟨_,rfl,HF.out.1,HF.out.2⟩
theorem aUj {x:Int} (hown:OB B W v b) (hB:B≤W.heap.size) (hx:okZ x) (hb:b.length≤900000):
  Calls Tryz.prog 63 #[v,.int .i64 x] W (aSR B W (b++X6 x)):=by
 obtain⟨p0,c0,rfl⟩:=zm hown
 have HI:Hid (Calls Tryz.prog 62 #[.slice p0 b.length c0,.slice (some ⟨W.heap.size,0,none⟩) 1 1] (W.alloc (.cells #[.int .i64 x] 3)) (aSR B (W.alloc (.cells #[.int .i64 x] 3)) (b++X6 x))):=hid (by
  have:=aTd (l:=[x]) hown hB (by simp) (by intro z hz;simp at hz;rw[hz];exact hx) hb
  rw[show [x].flatMap X6=X6 x by simp]at this
  exact this)
 obtain⟨m0,hm0⟩: ∃m,m=b.length:=⟨_,rfl⟩
 rw[←hm0]at HI⊢
 have HL:Hid (Ly B W (W.alloc (.cells #[.int .i64 x] 3))):=hid (Ly.all B W _ hB)
 clear hown hB hx hb hm0
 go_enter Tryz.func63,Tryz.ntmps63
 go_wp2_with fail
 (with_reducible refine HI.out.mono ?_)
 rintro r w2 ⟨v2,rfl,hO2,hl2⟩
 obtain⟨p2,c2,rfl⟩:=zm hO2
 obtain⟨m2,hm2⟩: ∃m,m=(b++X6 x).length:=⟨_,rfl⟩
 rw[←hm2]at hO2⊢
 have HF:Hid (OB B w2 (.slice p2 m2 c2) (b++X6 x)∧Ly B W w2):=hid ⟨hO2,HL.out.trans hl2⟩
 clear hO2 hl2 hm2
 go_wp2
 go_ret
 exact⟨_,rfl,HF.out.1,HF.out.2⟩
end
section
variable {w0:World}
theorem aU0 {l:List In} (h: ∀x∈l,x.ok):LaD w0 61 #[] (fun x:In=>Value.agg #[.int .i64 x.op,.int .i64 x.a,.int .i64 x.b,.int .i64 x.c]) aRU l:=
 ⟨fun vs W=>Tryz.call61 vs W,fun x hx W v b ho hb hl=>aUC ho hb.size (h x hx) (by omega)⟩
theorem aUt {l:List Int} (h: ∀x∈l,okZ x):LaD w0 63 #[] (fun x:Int=>Value.int .i64 x) X6 l:=
 ⟨fun vs W=>Tryz.call63 vs W,fun x hx W v b ho hb hl=>aUj ho hb.size (h x hx) (by omega)⟩
theorem aTZ {l:List Nat} (h: ∀x∈l,x<18446744073709551616):LaD w0 64 #[] (fun x:Nat=>Value.float .f64 x) agP l:=
 ⟨fun vs W=>Tryz.call64 vs W,fun x hx W v b ho hb hl=>atN ho hb.size (h x hx) (by omega)⟩
variable {v:Value} {b:Bs} {W:World} {g:Nat}
theorem aUh {q:Prg} {T:TypeId} (hown:OB w0.heap.size W v b) (hb0:Below w0.heap.size w0 W) (hg:Blk w0 g T #[.func (.func 61) #[] #[]]) (hv:Vw 4 inC w0 (.slice q.p q.n q.c) q.l) (hn:q.n=q.l.length) (hl:q.n≤1000) (hok: ∀x∈q.l,x.ok) (hb:b.length+(abK aRU q.l).length≤900000):
  Calls Tryz.prog 67 #[v,.slice q.p q.n q.c,.pointer (some ⟨g,0,none⟩)] W (aSR w0.heap.size W (b++abK aRU q.l)):=by
 obtain⟨p0,c0,rfl⟩:=zm hown
 have HI:=hid (aT6 (aU0 hok) hown hb0 hv hn hl hb)
 have c1:W.cell? ⟨g,0,none⟩=some (.func (.func 61) #[] #[]):=(hg.below hb0 hg.lt).cell 0
 obtain⟨m0,hm0⟩: ∃m,m=b.length:=⟨_,rfl⟩
 rw[←hm0]at HI⊢
 clear hown hb0 hg hv hn hl hok hb hm0
 go_enter Tryz.func67,Tryz.ntmps67
 go_wp2_with fail
 (with_reducible refine HI.out.mono ?_)
 rintro r w2 ⟨v2,rfl,hO2,hl2⟩
 obtain⟨p2,c2,rfl⟩:=zm hO2
 obtain⟨m2,hm2⟩: ∃m,m=(b++abK aRU q.l).length:=⟨_,rfl⟩
 rw[←hm2]at hO2⊢
 have HF:Hid (OB w0.heap.size w2 (.slice p2 m2 c2) (b++abK aRU q.l)∧Ly w0.heap.size W w2):=hid ⟨hO2,hl2⟩
 clear hO2 hl2 hm2 c1
 go_wp2
 go_ret
 exact⟨_,rfl,HF.out.1,HF.out.2⟩
def vw (q:LpR):Bs:=aU1 (q.k,q.l)
theorem aU5 {q:LpR} {T:TypeId} (hown:OB w0.heap.size W v b) (hb0:Below w0.heap.size w0 W) (hg:Blk w0 g T #[.func (.func 63) #[] #[]]) (hv:Vw 1 wdC w0 (.slice q.p q.n q.c) q.l) (hn:q.n=q.l.length) (hl:q.n≤1000) (hk:okZ q.k) (hok: ∀x∈q.l,okZ x) (hb:b.length+(vw q).length≤900000):
  Calls Tryz.prog 70 #[v,.agg #[.int .i64 q.k,.slice q.p q.n q.c],.pointer (some ⟨g,0,none⟩)] W (aSR w0.heap.size W (b++vw q)):=by
 obtain⟨p0,c0,rfl⟩:=zm hown
 obtain⟨W1,hW1⟩: ∃W1,W1=W.alloc (.cells #[.int .i64 q.k,.slice q.p q.n q.c] 88):=⟨_,rfl⟩
 have hB1:Blk W1 W.heap.size 88 #[.int .i64 q.k,.slice q.p q.n q.c]:=by rw[hW1];exact Blk.new W _ _
 have hl1:Below W.heap.size W W1:=by rw[hW1];exact(Below.refl _ W).alloc (Nat.le_refl _) _
 have HLy:Hid (Ly w0.heap.size W W1):=hid (Ly.of hl1 hb0.size)
 have hlen:(vw q).length=8+(abK X6 q.l).length:=by unfold vw aU1;simp
 have HI:Hid (Calls Tryz.prog 62 #[.slice p0 b.length c0,.slice (some ⟨W1.heap.size,0,none⟩) 1 1] (W1.alloc (.cells #[.int .i64 q.k] 3)).drew (aSR w0.heap.size (W1.alloc (.cells #[.int .i64 q.k] 3)).drew (b++X6 q.k))):=hid (by
  have:=aTo (l:=[q.k]) (hown.below hl1) (Nat.le_trans hb0.size hl1.size) (by simp) (by intro z hz;simp at hz;rw[hz];exact hk) (by omega)
  rw[show [q.k].flatMap X6=X6 q.k by simp]at this
  exact this)
 have HC:Hid (∀W',Ly w0.heap.size W1 W'→W'.cell? ⟨W.heap.size,0,none⟩=some (.int .i64 q.k)∧W'.cell? ⟨W.heap.size,1,none⟩=some (.slice q.p q.n q.c)∧W'.cell? ⟨g,0,none⟩=some (.func (.func 63) #[] #[])):=hid fun W' h=>by
  have h1:=h.t _ _ _ (by decide) hB1
  have h2:=hg.below ((hb0.trans (HLy.out.b)).trans h.b) hg.lt
  exact⟨h1.cell 0,h1.cell 1,h2.cell 0⟩
 have HD:Hid (Ly w0.heap.size W1 W1.drew):=hid (Ly.of (Z0 (Below.refl _ W1) 1) (Nat.le_trans hb0.size hl1.size))
 have HA:Hid (Ly w0.heap.size W1 (W1.alloc (.cells #[.int .i64 q.k] 3)).drew):=hid (Ly.alld _ _ _ (Nat.le_trans hb0.size hl1.size))
 have HH:=hid (⟨hb0,hv,hn,hl,hok,hb,hlen⟩:_∧_∧_∧_∧_∧_∧_)
 obtain⟨m0,hm0⟩: ∃m,m=b.length:=⟨_,rfl⟩
 rw[←hm0]at HI⊢
 have HW1:=hid hW1
 clear hown hb0 hg hv hn hl hk hok hb hlen hB1 hl1 hW1 hm0
 go_enter Tryz.func70,Tryz.ntmps70
 go_upto_region 1 with fail
 rw[←HW1.out]
 refine zB (fun W'=>W'.cell? ⟨W.heap.size,0,none⟩=some (.int .i64 q.k)∧W'.cell? ⟨W.heap.size,1,none⟩=some (.slice q.p q.n q.c)∧W'.cell? ⟨g,0,none⟩=some (.func (.func 63) #[] #[])) 9 (by kernel_rfl) (HC.out _ HD.out) (fun hHeld=>?_)
 refine eT 0 hHeld ?_;(try simp only[Act.put,sEa,sEb,sEc]);refine eT 1 hHeld ?_;(try simp only[Act.put,sEa,sEb,sEc]);refine eT 2 hHeld ?_;(try simp only[Act.put,sEa,sEb,sEc]);refine eT 5 hHeld ?_;(try simp only[Act.put,sEa,sEb,sEc]);refine eT 6 hHeld ?_;(try simp only[Act.put,sEa,sEb,sEc]);refine eT 7 hHeld ?_;(try simp only[Act.put,sEa,sEb,sEc]);refine eR 3 (fun K hK=>?_);go_simp;refine hK.out _ _ (by exact HC.out _ HA.out) (fun hHeld=>?_);clear hK K;(try simp only[Act.put,sEa,sEb,sEc])
 refine eR 4 (fun K hK=>?_)
 go_simp
 (with_reducible refine HI.out.mono ?_)
 rintro r w2 ⟨v2,rfl,hO2,hl2⟩
 have hL2:Ly w0.heap.size W1 w2:=HA.out.trans hl2
 have HL:=hid (aT8 (aUt HH.out.2.2.2.2.1) hO2 ((HH.out.1.trans HLy.out.b).trans hL2.b) HH.out.2.1 HH.out.2.2.1 HH.out.2.2.2.1 (by have:=HH.out.2.2.2.2.2.1;have:=HH.out.2.2.2.2.2.2;rw[List.length_append,aAY];omega))
 have HL2:=hid hL2
 obtain⟨p2,c2,rfl⟩:=zm hO2
 obtain⟨m2,hm2⟩: ∃m,m=(b++X6 q.k).length:=⟨_,rfl⟩
 rw[←hm2]at HL⊢
 clear hO2 hl2 hL2 hm2
 refine hK.out _ _ (HC.out _ HL2.out) (fun hHeld=>?_)
 clear hK K
 (try simp only[Act.put,sEa,sEb,sEc])
 refine eR 8 (fun K hK=>?_)
 go_simp
 (with_reducible refine HL.out.mono ?_)
 rintro r w3 ⟨v3,rfl,hO3,hl3⟩
 have HF:Hid (OB w0.heap.size w3 v3 (b++vw q)∧Ly w0.heap.size W w3):=hid ⟨by
  have:b++vw q=b++X6 q.k++abK X6 q.l:=by unfold vw aU1;simp
  rw[this]
  exact hO3,(HLy.out.trans HL2.out).trans hl3⟩
 refine hK.out _ _ (HC.out _ (HL2.out.trans hl3)) (fun hHeld=>?_)
 clear hK K hO3 hl3
 (try simp only[Act.put,sEa,sEb,sEc])
 refine eL (fun K hK=>?_);go_simp;refine hK.out _ _ ?_;clear hK K;(try simp only[Act.put,sEa,sEb,sEc])
 go_wp2
 go_ret
 exact⟨_,rfl,HF.out.1,HF.out.2⟩
theorem aUB {B:Nat} {x:Ini} (hown:OB B W v b) (hB:B≤W.heap.size) (hx:x.ok) (hb:b.length+24≤900000):
  Calls Tryz.prog 73 #[v,.agg #[.float .f64 x.t,.int .i64 x.dst,.int .i64 x.pay]] W (aSR B W (b++aRT x)):=by
 obtain⟨p0,c0,rfl⟩:=zm hown
 obtain⟨W1,hW1⟩: ∃W1,W1=W.alloc (.cells #[.float .f64 x.t,.int .i64 x.dst,.int .i64 x.pay] 90):=⟨_,rfl⟩
 have hB1:Blk W1 W.heap.size 90 #[.float .f64 x.t,.int .i64 x.dst,.int .i64 x.pay]:=by rw[hW1];exact Blk.new W _ _
 have hl1:Below W.heap.size W W1:=by rw[hW1];exact(Below.refl _ W).alloc (Nat.le_refl _) _
 have HLy:Hid (Ly B W W1):=hid (Ly.of hl1 hB)
 have hBs:=Nat.le_trans hB hl1.size
 have HD:Hid (Ly B W1 W1.drew):=hid (Ly.of (Z0 (Below.refl _ W1) 1) hBs)
 have HI:=hid (atN (w:=W1.drew) (hown.below (hl1.trans (Z0 (Below.refl _ W1) 1 |>.mono hl1.size))) hBs hx.1 (by omega))
 have HC:Hid (∀W',Ly B W1 W'→W'.cell? ⟨W.heap.size,0,none⟩=some (.float .f64 x.t)∧W'.cell? ⟨W.heap.size,1,none⟩=some (.int .i64 x.dst)∧W'.cell? ⟨W.heap.size,2,none⟩=some (.int .i64 x.pay)):=hid fun W' h=>by
  have h1:=h.t _ _ _ (by decide) hB1
  exact⟨h1.cell 0,h1.cell 1,h1.cell 2⟩
 have HA:Hid (Ly B W1 (W1.alloc (.cells #[.int .i64 x.dst,.int .i64 x.pay] 3)).drew∧Blk (W1.alloc (.cells #[.int .i64 x.dst,.int .i64 x.pay] 3)).drew W1.heap.size 3 #[.int .i64 x.dst,.int .i64 x.pay]):=hid ⟨Ly.alld _ _ _ hBs,Blk.new _ _ _⟩
 have HI2:=hid (atN (w:=(W1.alloc (.cells #[.int .i64 x.dst,.int .i64 x.pay] 3)).drew) ((hown.below hl1).below (Z0 ((Below.refl _ W1).alloc (Nat.le_refl _) _) 1)) (Nat.le_trans hBs (by show W1.heap.size≤(W1.alloc _).heap.size;simp)) hx.1 (by omega))
 have HH:=hid (⟨hBs,hx,hb⟩:_∧_∧_)
 obtain⟨m0,hm0⟩: ∃m,m=b.length:=⟨_,rfl⟩
 rw[←hm0]at HI HI2⊢
 have HW1:=hid hW1
 clear hown hB hx hb hB1 hl1 hW1 hm0 hBs
 go_enter Tryz.func73,Tryz.ntmps73
 go_upto_region 1 with fail
 rw[←HW1.out]
 refine zB (fun W'=>W'.cell? ⟨W.heap.size,0,none⟩=some (.float .f64 x.t)∧W'.cell? ⟨W.heap.size,1,none⟩=some (.int .i64 x.dst)∧W'.cell? ⟨W.heap.size,2,none⟩=some (.int .i64 x.pay)) 10 (by kernel_rfl) (HC.out _ HD.out) (fun hHeld=>?_)
 refine eT 0 hHeld ?_;(try simp only[Act.put,sEa,sEb,sEc]);refine eT 1 hHeld ?_;(try simp only[Act.put,sEa,sEb,sEc]);refine eT 2 hHeld ?_;(try simp only[Act.put,sEa,sEb,sEc]);refine eT 4 hHeld ?_;(try simp only[Act.put,sEa,sEb,sEc]);refine eT 5 hHeld ?_;(try simp only[Act.put,sEa,sEb,sEc]);refine eT 6 hHeld ?_;(try simp only[Act.put,sEa,sEb,sEc]);refine eT 7 hHeld ?_;(try simp only[Act.put,sEa,sEb,sEc])
 refine eR2 (i:=3) (j:=8) (by(simp only[gEa,gEb,gEc];try rfl)) (by(simp only[gEa,gEb,gEc];try rfl)) (by kernel_rfl) (by rfl) (fun K hK=>?_) (fun K hK=>?_)
 ·go_simp
  (with_reducible refine HI.out.mono ?_)
  rintro r w2 ⟨v2,rfl,hO2,hl2⟩
  have hL2:Ly B W1 w2:=HD.out.trans hl2
  have hs2:B≤w2.heap.size:=Nat.le_trans HH.out.1 hL2.b.size
  have HJ:Hid (Calls Tryz.prog 62 #[v2,.slice (some ⟨w2.heap.size,0,none⟩) 2 2] (w2.alloc (.cells #[.int .i64 x.dst,.int .i64 x.pay] 3)) (aSR B (w2.alloc (.cells #[.int .i64 x.dst,.int .i64 x.pay] 3)) (b++aRT x))):=hid (by
   have:=aTd (l:=[x.dst,x.pay]) hO2 hs2 (by simp) (by
    intro z hz
    simp only[List.mem_cons,List.not_mem_nil,or_false]at hz
    rcases hz with rfl|rfl
    ·exact HH.out.2.1.2.1
    ·exact HH.out.2.1.2.2) (by have:=HH.out.2.2;rw[List.length_append];unfold agP;rw[aL0];omega)
   rw[show b++agP x.t++[x.dst,x.pay].flatMap X6=b++aRT x by simp[aRT]]at this
   exact this)
  obtain⟨p2,c2,rfl⟩:=zm hO2
  obtain⟨m2,hm2⟩: ∃m,m=(b++agP x.t).length:=⟨_,rfl⟩
  rw[←hm2]at HJ⊢
  have HL2:Hid (Ly B W1 w2∧Ly B W1 (w2.alloc (.cells #[.int .i64 x.dst,.int .i64 x.pay] 3))):=hid ⟨hL2,hL2.trans (Ly.all _ _ _ hs2)⟩
  clear hO2 hl2 hL2 hs2 hm2
  refine hK.out _ _ (HC.out _ HL2.out.1) (fun hHeld=>?_)
  clear hK K
  (try simp only[Act.put,sEa,sEb,sEc])
  refine eR 8 (fun K hK=>?_);go_simp;refine hK.out _ _ (by exact HC.out _ HL2.out.2) (fun hHeld=>?_);clear hK K;(try simp only[Act.put,sEa,sEb,sEc])
  refine eR 9 (fun K hK=>?_)
  go_simp
  (with_reducible refine HJ.out.mono ?_)
  rintro r w3 ⟨v3,rfl,hO3,hl3⟩
  have HF:Hid (OB B w3 v3 (b++aRT x)∧Ly B W w3):=hid ⟨hO3,(HLy.out.trans HL2.out.2).trans hl3⟩
  refine hK.out _ _ (HC.out _ (HL2.out.2.trans hl3)) (fun hHeld=>?_)
  clear hK K hO3 hl3
  (try simp only[Act.put,sEa,sEb,sEc])
  refine eL (fun K hK=>?_);go_simp;refine hK.out _ _ ?_;clear hK K;(try simp only[Act.put,sEa,sEb,sEc])
  go_wp2
  go_ret
  exact⟨_,rfl,HF.out.1,HF.out.2⟩
 ·go_simp
  refine hK.out _ _ (HC.out _ HA.out.1) (fun hHeld=>?_)
  clear hK K
  (try simp only[Act.put,sEa,sEb,sEc])
  refine eR 3 (fun K hK=>?_)
  go_simp
  (with_reducible refine HI2.out.mono ?_)
  rintro r w2 ⟨v2,rfl,hO2,hl2⟩
  have hL2:Ly B W1 w2:=HA.out.1.trans hl2
  have hs2:B≤w2.heap.size:=Nat.le_trans HH.out.1 hL2.b.size
  have HJ:Hid (Calls Tryz.prog 62 #[v2,.slice (some ⟨W1.heap.size,0,none⟩) 2 2] w2 (aSR B w2 (b++aRT x))):=hid (by
   have:=qk (l:=[x.dst,x.pay]) hO2 hs2 (hl2.t _ _ _ (by decide) HA.out.2) (by simp) (by
    intro z hz
    simp only[List.mem_cons,List.not_mem_nil,or_false]at hz
    rcases hz with rfl|rfl
    ·exact HH.out.2.1.2.1
    ·exact HH.out.2.1.2.2) (by have:=HH.out.2.2;rw[List.length_append];unfold agP;rw[aL0];omega)
   rw[show b++agP x.t++[x.dst,x.pay].flatMap X6=b++aRT x by simp[aRT]]at this
   exact this)
  obtain⟨p2,c2,rfl⟩:=zm hO2
  obtain⟨m2,hm2⟩: ∃m,m=(b++agP x.t).length:=⟨_,rfl⟩
  rw[←hm2]at HJ⊢
  have HL2:=hid hL2
  clear hO2 hl2 hL2 hs2 hm2
  refine hK.out _ _ (HC.out _ HL2.out) (fun hHeld=>?_)
  clear hK K
  (try simp only[Act.put,sEa,sEb,sEc])
  refine eR 9 (fun K hK=>?_)
  go_simp
  (with_reducible refine HJ.out.mono ?_)
  rintro r w3 ⟨v3,rfl,hO3,hl3⟩
  have HF:Hid (OB B w3 v3 (b++aRT x)∧Ly B W w3):=hid ⟨hO3,(HLy.out.trans HL2.out).trans hl3⟩
  refine hK.out _ _ (HC.out _ (HL2.out.trans hl3)) (fun hHeld=>?_)
  clear hK K hO3 hl3
  (try simp only[Act.put,sEa,sEb,sEc])
  refine eL (fun K hK=>?_);go_simp;refine hK.out _ _ ?_;clear hK K;(try simp only[Act.put,sEa,sEb,sEc])
  go_wp2
  go_ret
  exact⟨_,rfl,HF.out.1,HF.out.2⟩
end
end
section
open Go.RowKit Go.Lib
theorem aUV {α:Type} {f:α→Bs} {k:Nat} {l:List α} (h: ∀x∈l,(f x).length≤k):(l.flatMap f).length≤l.length*k:=by
 induction l with
 |nil=>simp
 |cons a l ih=>
  have h1:=h a (by simp)
  have h2:=ih fun x hx=>h x (by simp[hx])
  rw[List.flatMap_cons,List.length_append,List.length_cons,Nat.add_mul,Nat.one_mul]
  omega
theorem atL {α:Type} {f:α→Bs} {k n:Nat} {l:List α} (hn:l.length≤n) (h: ∀x∈l,(f x).length≤k):(abK f l).length≤8+n*k:=by
 unfold abK
 have:=aUV h
 have:=Nat.mul_le_mul_right k hn
 simp only[List.length_append,aAY]
 omega
theorem aTY (x:In):(aRU x).length=32:=by simp[aRU]
theorem aTn (x:Ini):(aRT x).length=24:=by simp[aRT,agP]
theorem qb (x:Nat):(agP x).length=8:=by simp[agP]
structure Mdl.lgt (m:Mdl):Prop where
 p:m.pr.length≤10
 l:m.lp.length≤20
 d:m.dl.length≤60
 i:m.ini.length≤60
 pi: ∀p∈m.pr,p.length≤100
 li: ∀x∈m.lp,x.2.length≤60
theorem aSN {m:Mdl} (h:m.lgt):(aS7 m).length≤45000:=by
 have h1:=atL (f:=agP) (k:=8) h.d (fun x _=>by rw[qb];omega)
 have h2:=atL (f:=abK aRU) (k:=3208) h.p (fun p hp=>atL (k:=32) (h.pi p hp) (fun x _=>by rw[aTY];omega))
 have h3:=atL (f:=aU1) (k:=496) h.l (fun x hx=>by
  have:=atL (f:=X6) (k:=8) (h.li x hx) (fun y _=>by rw[aAY];omega)
  unfold aU1
  rw[List.length_append,aAY]
  omega)
 have h4:=atL (f:=aRT) (k:=24) h.i (fun x _=>by rw[aTn];omega)
 unfold aS7
 simp only[List.length_append,aAY,qb]
 omega
def aUM (x:MdV):Bs:=X6 x.seed++agP x.en++abK agP x.dl++abK (fun q:Prg=>abK aRU q.l) x.ps++abK vw x.ls++abK aRT x.is
theorem aTu (x:MdV):aUM x=aS7 x.m:=by
 unfold aUM aS7 MdV.m abK vw
 simp only[List.length_map,List.flatMap_map]
structure MdV.nice (x:MdV):Prop where
 ok:x.m.ok
 lgt:x.m.lgt
section
variable {x:MdV} {W:World}
theorem MdV.nice.qn (h:x.nice) (hm:qZ W x):x.dn≤1000∧x.pn≤1000∧x.ln≤1000∧x.im≤1000∧(∀q∈x.ps,q.n≤1000)∧ ∀q∈x.ls,q.n≤1000:=by
 have h1:=h.lgt.d
 have h2:=h.lgt.p
 have h3:=h.lgt.l
 have h4:=h.lgt.i
 unfold MdV.m at h1 h2 h3 h4
 simp only[List.length_map]at h1 h2 h3 h4
 refine⟨by rw[hm.dn];omega,by rw[hm.pn];omega,by rw[hm.ln];omega,by rw[hm.im];omega,fun q hq=>?_,fun q hq=>?_⟩
 ·have:=h.lgt.pi q.l (List.mem_map.2 ⟨q,hq,rfl⟩)
  rw[(hm.pi q hq).1];omega
 ·have:=h.lgt.li (q.k,q.l) (List.mem_map.2 ⟨q,hq,rfl⟩)
  rw[(hm.li q hq).1]
  show q.l.length≤1000
  have:q.l.length≤60:=this
  omega
theorem aUs {w0:World} {g:Nat} {T:TypeId} (hg:Blk w0 g T #[.func (.func 61) #[] #[]]) {l:List Prg} (hv: ∀q∈l,q.n=q.l.length∧Vw 4 inC w0 (.slice q.p q.n q.c) q.l) (hl: ∀q∈l,q.n≤1000) (hok: ∀q∈l,∀x∈q.l,x.ok):
  LaD w0 67 #[.pointer (some ⟨g,0,none⟩)] (fun x:Prg=>Value.slice x.p x.n x.c) (fun q:Prg=>abK aRU q.l) l:=
 ⟨fun vs W=>Tryz.call67 vs W,fun q hq W v b ho hb hb2=>aUh ho hb hg (hv q hq).2 (hv q hq).1 (hl q hq) (hok q hq) hb2⟩
theorem aVf {w0:World} {g:Nat} {T:TypeId} (hg:Blk w0 g T #[.func (.func 63) #[] #[]]) {l:List LpR} (hv: ∀q∈l,q.n=q.l.length∧Vw 1 wdC w0 (.slice q.p q.n q.c) q.l) (hl: ∀q∈l,q.n≤1000) (hok: ∀q∈l,okZ q.k∧ ∀x∈q.l,okZ x):
  LaD w0 70 #[.pointer (some ⟨g,0,none⟩)] (fun x:LpR=>Value.agg #[.int .i64 x.k,.slice x.p x.n x.c]) vw l:=
 ⟨fun vs W=>Tryz.call70 vs W,fun q hq W v b ho hb hb2=>aU5 ho hb hg (hv q hq).2 (hv q hq).1 (hl q hq) (hok q hq).1 (hok q hq).2 hb2⟩
theorem aUZ {w0:World} {l:List Ini} (h: ∀x∈l,x.ok):LaD w0 73 #[] (fun x:Ini=>Value.agg #[.float .f64 x.t,.int .i64 x.dst,.int .i64 x.pay]) aRT l:=
 ⟨fun vs W=>Tryz.call73 vs W,fun x hx W v b ho hb hl=>aUB ho hb.size (h x hx) (by rw[aTn]at hl;omega)⟩
theorem aUv (hm:qZ W x) (hx:x.nice):
  Calls Tryz.prog 29 #[.agg (mdC x).toArray] W fun r w'=>r= .returned (.tuple #[.string (S (if yM x.m=true then aS7 x.m else [])),.int .i64 (if yM x.m=true then 0 else 15)])∧Below W.heap.size W w':=by
 obtain⟨q1,q2,q3,q4,q5,q6⟩:=hx.qn hm
 obtain⟨W1,hW1⟩: ∃W1,W1=W.alloc (.cells (mdC x).toArray 29):=⟨_,rfl⟩
 have hb1:Below W.heap.size W W1:=by rw[hW1];exact(Below.refl _ W).alloc (Nat.le_refl _) _
 have hB1:=MdB.new hm
 rw[←hW1]at hB1
 have HCK:=hid (abN (W:=W1) hB1.2 q1 q2 q3 q4 q5)
 have HH:=hid (⟨hB1,hb1,hx,q1,q2,q3,q4,q5,q6⟩:_∧_∧_∧_∧_∧_∧_∧_∧_)
 have HW1:=hid hW1
 have k0:W1.cell? ⟨W.heap.size,0,none⟩=some (.int .i64 x.seed):=hB1.1.cell 0
 have k1:W1.cell? ⟨W.heap.size,1,none⟩=some (.float .f64 x.en):=hB1.1.cell 1
 have k2:W1.cell? ⟨W.heap.size,2,none⟩=some (.slice x.dp x.dn x.dc):=hB1.1.cell 2
 have k3:W1.cell? ⟨W.heap.size,3,none⟩=some (.slice x.pp x.pn x.pc):=hB1.1.cell 3
 have k4:W1.cell? ⟨W.heap.size,4,none⟩=some (.slice x.lp x.ln x.lc):=hB1.1.cell 4
 have k5:W1.cell? ⟨W.heap.size,5,none⟩=some (.slice x.ip x.im x.ic):=hB1.1.cell 5
 unfold mdC at HW1 HCK⊢
 clear hm hx hW1 hb1 hB1 q1 q2 q3 q4 q5 q6
 cases hc:yM x.m with
 |false=>
  rw[hc]at HCK
  simp only[Bool.false_eq_true,if_false]at HCK⊢
  clear hc
  go_enter Tryz.func29,Tryz.ntmps29
  go_upto_region 1 with fail
  rw[←HW1.out]
  go_wp2_with ((with_reducible refine HCK.out.mono ?_);rintro r w2 ⟨rfl,hb2⟩)
  go_ret2
  exact⟨rfl,HH.out.2.1.trans (hb2.mono HH.out.2.1.size)⟩
 | true=>
  rw[hc]at HCK
  simp only[if_true]at HCK⊢
  clear hc
  go_enter Tryz.func29,Tryz.ntmps29
  go_upto_region 1 with fail
  rw[←HW1.out]
  go_wp2_with fail
  (with_reducible refine HCK.out.mono ?_)
  rintro r w2 ⟨rfl,hb2⟩
  have HB2:=hid hb2
  clear hb2 k0 k1 k2 k3 k4 k5
  go_upto_region 6 with fail
  obtain⟨W3,hW3⟩: ∃W3,W3=(w2.alloc (.cells #[.func (.func 61) #[] #[]] 119)).alloc (.cells #[.func (.func 63) #[] #[]] 120):=⟨_,rfl⟩
  have hb3:Below w2.heap.size w2 W3:=by rw[hW3];exact((Below.refl _ w2).alloc (Nat.le_refl _) _).alloc (by simp) _
  have hI3:Blk W3 w2.heap.size 119 #[.func (.func 61) #[] #[]]:=by rw[hW3];exact(Blk.new w2 _ _).alloc _
  have hJ3:Blk W3 (w2.heap.size+1) 120 #[.func (.func 63) #[] #[]]:=by
   rw[hW3]
   have:=Blk.new (w2.alloc (.cells #[.func (.func 61) #[] #[]] 119)) 120 #[.func (.func 63) #[] #[]]
   simpa using this
  have hb13:Below W1.heap.size W1 W3:=HB2.out.trans (hb3.mono HB2.out.size)
  have HB3:=hid (⟨HH.out.1.below hb13,HH.out.2.1.trans (hb13.mono HH.out.2.1.size)⟩:MdB W3 W.heap.size x∧Below W.heap.size W W3)
  have HC:Hid (∀W',Below W3.heap.size W3 W'→W'.cell? ⟨W.heap.size,0,none⟩=some (.int .i64 x.seed)∧W'.cell? ⟨W.heap.size,1,none⟩=some (.float .f64 x.en)∧W'.cell? ⟨W.heap.size,2,none⟩=some (.slice x.dp x.dn x.dc)∧W'.cell? ⟨W.heap.size,3,none⟩=some (.slice x.pp x.pn x.pc)∧W'.cell? ⟨W.heap.size,4,none⟩=some (.slice x.lp x.ln x.lc)∧W'.cell? ⟨W.heap.size,5,none⟩=some (.slice x.ip x.im x.ic)):=hid fun W' hb=>(HB3.out.1.below hb).c
  have HD:Hid (Ly W3.heap.size W3 W3.drew):=hid (Ly.of (Z0 (Below.refl _ W3) 1) (Nat.le_refl _))
  have HA:Hid (Ly W3.heap.size W3 (W3.alloc (.cells #[.int .i64 x.seed] 3)).drew):=hid (Ly.alld _ _ _ (Nat.le_refl _))
  have hok:=HH.out.2.2.1.ok
  have HI:Hid (Calls Tryz.prog 62 #[.slice none 0 0,.slice (some ⟨W3.heap.size,0,none⟩) 1 1] (W3.alloc (.cells #[.int .i64 x.seed] 3)).drew (aSR W3.heap.size (W3.alloc (.cells #[.int .i64 x.seed] 3)).drew (X6 x.seed))):=hid (by
   have:=aTo (l:=[x.seed]) (OB.nil W3.heap.size W3) (Nat.le_refl _) (by simp) (by intro z hz;simp at hz;rw[hz];exact hok.seed) (by simp)
   rw[show []++[x.seed].flatMap X6=X6 x.seed by simp]at this
   exact this)
  have hlen:(aUM x).length≤45000:=by rw[aTu];exact aSN HH.out.2.2.1.lgt
  have HLN:=hid (show 16+(abK agP x.dl).length+(abK (fun q:Prg=>abK aRU q.l) x.ps).length+(abK vw x.ls).length+(abK aRT x.is).length≤45000 by
   unfold aUM at hlen
   simp only[List.length_append,aAY,qb]at hlen
   omega)
  have HIJ:=hid (⟨hI3,hJ3⟩:_∧_)
  have HW3:=hid hW3
  rw[←HW3.out]
  clear hW3 hb3 hI3 hJ3 hb13 hok hlen
  refine zB (fun W'=>W'.cell? ⟨W.heap.size,0,none⟩=some (.int .i64 x.seed)∧W'.cell? ⟨W.heap.size,1,none⟩=some (.float .f64 x.en)) 7 (by kernel_rfl) (by obtain⟨z0,z1,_⟩:=HC.out _ HD.out.b;exact⟨z0,z1⟩) (fun hHeld=>?_)
  refine eT 0 hHeld ?_;(try simp only[Act.put,sEa,sEb,sEc]);refine eT 1 hHeld ?_;(try simp only[Act.put,sEa,sEb,sEc]);refine eT 4 hHeld ?_;(try simp only[Act.put,sEa,sEb,sEc]);refine eT 5 hHeld ?_;(try simp only[Act.put,sEa,sEb,sEc]);refine eR 2 (fun K hK=>?_);go_simp;refine hK.out _ _ (by obtain⟨z0,z1,_⟩:=HC.out _ HA.out.b;exact⟨z0,z1⟩) (fun hHeld=>?_);clear hK K;(try simp only[Act.put,sEa,sEb,sEc])
  refine eR 3 (fun K hK=>?_)
  go_simp
  (with_reducible refine HI.out.mono ?_)
  rintro r w4 ⟨v4,rfl,hO4,hl4⟩
  have H4:=hid (⟨hO4,HA.out.trans hl4⟩:OB W3.heap.size w4 v4 (X6 x.seed)∧Ly W3.heap.size W3 w4)
  have HFL:=hid (atN (x:=x.en) hO4 H4.out.2.b.size HH.out.2.2.1.ok.en (by simp))
  obtain⟨p4,c4,rfl⟩:=zm hO4
  obtain⟨m4,hm4⟩: ∃m,m=(X6 x.seed).length:=⟨_,rfl⟩
  rw[←hm4]at HFL⊢
  clear hO4 hl4 hm4
  refine hK.out _ _ (by obtain⟨z0,z1,_⟩:=HC.out _ H4.out.2.b;exact⟨z0,z1⟩) (fun hHeld=>?_)
  clear hK K
  (try simp only[Act.put,sEa,sEb,sEc])
  refine eR 6 (fun K hK=>?_)
  go_simp
  (with_reducible refine HFL.out.mono ?_)
  rintro r w5 ⟨v5,rfl,hO5,hl5⟩
  have H5:=hid (⟨hO5,H4.out.2.trans hl5⟩:OB W3.heap.size w5 v5 (X6 x.seed++agP x.en)∧Ly W3.heap.size W3 w5)
  have HL:=hid (aT3 (w0:=W3) (aTZ (l:=x.dl) HH.out.2.2.1.ok.dl) hO5 H5.out.2.b HB3.out.1.2.d HB3.out.1.2.dn HH.out.2.2.2.1 (by have:=HLN.out;simp only[List.length_append,aAY,qb];omega))
  obtain⟨p5,c5,rfl⟩:=zm hO5
  obtain⟨m5,hm5⟩: ∃m,m=(X6 x.seed++agP x.en).length:=⟨_,rfl⟩
  rw[←hm5]at HL⊢
  clear hO5 hl5 hm5
  refine hK.out _ _ (by obtain⟨z0,z1,_⟩:=HC.out _ H5.out.2.b;exact⟨z0,z1⟩) (fun hHeld=>?_)
  clear hK K
  (try simp only[Act.put,sEa,sEb,sEc])
  refine eL (fun K hK=>?_);go_simp;refine hK.out _ _ ?_;clear hK K;(try simp only[Act.put,sEa,sEb,sEc])
  clear hHeld
  obtain⟨_,_,k2,_,_,_⟩:=HC.out _ H5.out.2.b
  go_wp2_with fail
  (with_reducible refine HL.out.mono ?_)
  rintro r w6 ⟨v6,rfl,hO6,hl6⟩
  have H6:=hid (⟨hO6,H5.out.2.trans hl6⟩:_∧Ly W3.heap.size W3 w6)
  have HL:=hid (aT7 (w0:=W3) (aUs HIJ.out.1 HB3.out.1.2.pi HH.out.2.2.2.2.2.2.2.1 (fun q hq y hy=>HH.out.2.2.1.ok.pr q.l (List.mem_map.2 ⟨q,hq,rfl⟩) y hy)) hO6 H6.out.2.b HB3.out.1.2.p HB3.out.1.2.pn HH.out.2.2.2.2.1 (by have:=HLN.out;simp only[List.length_append,aAY,qb];omega))
  obtain⟨p6,c6,rfl⟩:=zm hO6
  obtain⟨m6,hm6⟩: ∃m,m=(X6 x.seed++agP x.en++abK agP x.dl).length:=⟨_,rfl⟩
  rw[←hm6]at HL⊢
  clear hO6 hl6 hm6 k2
  obtain⟨_,_,_,k3,_,_⟩:=HC.out _ H6.out.2.b
  go_wp2_with fail
  (with_reducible refine HL.out.mono ?_)
  rintro r w7 ⟨v7,rfl,hO7,hl7⟩
  have H7:=hid (⟨hO7,H6.out.2.trans hl7⟩:_∧Ly W3.heap.size W3 w7)
  have HL:=hid (aT5 (w0:=W3) (aVf HIJ.out.2 HB3.out.1.2.li HH.out.2.2.2.2.2.2.2.2 (fun q hq=>HH.out.2.2.1.ok.lp (q.k,q.l) (List.mem_map.2 ⟨q,hq,rfl⟩))) hO7 H7.out.2.b HB3.out.1.2.l HB3.out.1.2.ln HH.out.2.2.2.2.2.1 (by have:=HLN.out;simp only[List.length_append,aAY,qb];omega))
  obtain⟨p7,c7,rfl⟩:=zm hO7
  obtain⟨m7,hm7⟩: ∃m,m=(X6 x.seed++agP x.en++abK agP x.dl++abK (fun q:Prg=>abK aRU q.l) x.ps).length:=⟨_,rfl⟩
  rw[←hm7]at HL⊢
  clear hO7 hl7 hm7 k3
  obtain⟨_,_,_,_,k4,_⟩:=HC.out _ H7.out.2.b
  go_wp2_with fail
  (with_reducible refine HL.out.mono ?_)
  rintro r w8 ⟨v8,rfl,hO8,hl8⟩
  have H8:=hid (⟨hO8,H7.out.2.trans hl8⟩:_∧Ly W3.heap.size W3 w8)
  have HL:=hid (aT4 (w0:=W3) (l:=x.is) (aUZ (l:=x.is) HH.out.2.2.1.ok.ini) hO8 H8.out.2.b HB3.out.1.2.i HB3.out.1.2.im HH.out.2.2.2.2.2.2.1 (by have:=HLN.out;simp only[List.length_append,aAY,qb];omega))
  obtain⟨p8,c8,rfl⟩:=zm hO8
  obtain⟨m8,hm8⟩: ∃m,m=(X6 x.seed++agP x.en++abK agP x.dl++abK (fun q:Prg=>abK aRU q.l) x.ps++abK vw x.ls).length:=⟨_,rfl⟩
  rw[←hm8]at HL⊢
  clear hO8 hl8 hm8 k4
  obtain⟨_,_,_,_,_,k5⟩:=HC.out _ H8.out.2.b
  go_wp2_with fail
  (with_reducible refine HL.out.mono ?_)
  rintro r w9 ⟨v9,rfl,hO9,hl9⟩
  have hconv:=Xj hO9
  have HF:Hid (Below W.heap.size W w9):=hid (HB3.out.2.trans ((H8.out.2.b.trans hl9.b).mono HB3.out.2.size))
  have HV:Hid (aUM x=aS7 x.m):=hid (aTu x)
  obtain⟨p9,c9,rfl⟩:=zm hO9
  change (convert _ _ (Value.slice p9 _ c9)).run _ _=Result.ok (Value.string (S (aUM x))) _ at hconv
  rw[HV.out]at hconv
  obtain⟨m9,hm9⟩: ∃m,m=(X6 x.seed++agP x.en++abK agP x.dl++abK (fun q:Prg=>abK aRU q.l) x.ps++abK vw x.ls++abK aRT x.is).length:=⟨_,rfl⟩
  rw[←hm9]at hconv⊢
  clear hO9 hl9 k5 hm9
  go_wp2
  go_ret2
  exact⟨rfl,HF.out⟩
end
end
section
open Go.RowKit Go.Lib
theorem aMO (op:Int):op=0∨op=1∨(op=2∨op=11∨op=13∨op=14)∨(op=3∨op=4∨op=5∨op=6∨op=7∨op=8∨op=12)∨op=9∨op=10∨(¬op=0∧ ¬op=1∧ ¬op=2∧ ¬op=3∧ ¬op=4∧ ¬op=5∧ ¬op=6∧ ¬op=7∧ ¬op=8∧ ¬op=9∧ ¬op=10∧ ¬op=11∧ ¬op=12∧ ¬op=13∧ ¬op=14):=by omega
theorem agX (x:In) (len:Int) (w:World):
  Calls Tryz.prog 112 #[.agg #[.int .i64 x.op,.int .i64 x.a,.int .i64 x.b,.int .i64 x.c],.int .i64 len] w fun r w'=>r= .returned (.bool (vM x len))∧Below w.heap.size w w':=by
 obtain⟨op,a,b,c⟩:=x
 have HB:=hid ((Below.refl _ w).alloc (Nat.le_refl _) (.cells #[.int .i64 op,.int .i64 a,.int .i64 b,.int .i64 c] 84))
 have HA:=hid (fun W=>Kw a W)
 have HBB:=hid (fun W=>Kw b W)
 have HC:=hid (fun W=>Kw c W)
 show Calls _ _ #[.agg #[.int .i64 op,.int .i64 a,.int .i64 b,.int .i64 c],.int .i64 len] w _
 rcases aMO op with rfl|rfl|h|h|rfl|rfl| ⟨h0,h1,h2,h3,h4,h5,h6,h7,h8,h9,h10,h11,h12,h13,h14⟩
 ·rw[show vM ⟨0,a,b,c⟩ len=true by simp[vM]]
  go_enter Tryz.func112,Tryz.ntmps112
  go_wp2
  go_ret
  exact⟨rfl,HB.out⟩
 ·rw[show vM ⟨1,a,b,c⟩ len=rgB a by simp[vM]]
  go_enter Tryz.func112,Tryz.ntmps112
  go_wp2_with ((with_reducible refine(HA.out _).mono ?_);rintro r w' ⟨rfl,rfl⟩)
  go_ret
  exact⟨rfl,HB.out⟩
 ·rw[show vM ⟨op,a,b,c⟩ len=(rgB a&&rgB b)by rcases h with rfl|rfl|rfl|rfl<;>simp[vM]]
  rcases h with rfl|rfl|rfl|rfl
  all_goals
   cases ha:rgB a
   all_goals
    rw[ha]at HA
    clear ha
    go_enter Tryz.func112,Tryz.ntmps112
    go_wp2_with (first | ((with_reducible refine(HA.out _).mono ?_);rintro r w' ⟨rfl,rfl⟩) | ((with_reducible refine(HBB.out _).mono ?_);rintro r w' ⟨rfl,rfl⟩))
    go_ret
    exact⟨rfl,HB.out⟩
 ·rw[show vM ⟨op,a,b,c⟩ len=(rgB a&&(rgB b&&rgB c))by rcases h with rfl|rfl|rfl|rfl|rfl|rfl|rfl<;>simp[vM]]
  rcases h with rfl|rfl|rfl|rfl|rfl|rfl|rfl
  all_goals
   cases ha:rgB a
   all_goals cases hb:rgB b
   all_goals
    rw[ha]at HA
    rw[hb]at HBB
    clear ha hb
    go_enter Tryz.func112,Tryz.ntmps112
    go_wp2_with (first | ((with_reducible refine(HA.out _).mono ?_);rintro r w' ⟨rfl,rfl⟩) | ((with_reducible refine(HBB.out _).mono ?_);rintro r w' ⟨rfl,rfl⟩) | ((with_reducible refine(HC.out _).mono ?_);rintro r w' ⟨rfl,rfl⟩))
    go_ret
    exact⟨rfl,HB.out⟩
 ·rw[show vM ⟨9,a,b,c⟩ len=plB a len by simp[vM]]
  unfold plB
  by_cases h1:0≤a
  ·by_cases h2:a≤len
   ·rw[decide_eq_true h1,decide_eq_true h2]
    go_enter Tryz.func112,Tryz.ntmps112
    go_wp2
    go_ret
    exact⟨rfl,HB.out⟩
   ·rw[decide_eq_true h1,decide_eq_false h2]
    go_enter Tryz.func112,Tryz.ntmps112
    go_wp2
    go_ret
    exact⟨rfl,HB.out⟩
  ·rw[decide_eq_false h1]
   go_enter Tryz.func112,Tryz.ntmps112
   go_wp2
   go_ret
   exact⟨rfl,HB.out⟩
 ·rw[show vM ⟨10,a,b,c⟩ len=(rgB a&&plB b len)by simp[vM]]
  unfold plB
  have hcs:(0≤b∧b≤len∧(decide (0≤b)&&decide (b≤len))=true)∨(0≤b∧ ¬b≤len∧(decide (0≤b)&&decide (b≤len))=false)∨(¬0≤b∧(decide (0≤b)&&decide (b≤len))=false):=by
   by_cases h1:0≤b
   ·by_cases h2:b≤len
    ·exact .inl ⟨h1,h2,by simp[h1,h2]⟩
    ·exact .inr (.inl ⟨h1,h2,by simp[h2]⟩)
   ·exact .inr (.inr ⟨h1,by simp[h1]⟩)
  cases ha:rgB a
  all_goals
   rw[ha]at HA
   clear ha
   rcases hcs with⟨h1,h2,e⟩ | ⟨h1,h2,e⟩ | ⟨h1,e⟩
   all_goals
    rw[e]
    clear e
    go_enter Tryz.func112,Tryz.ntmps112
    go_wp2_with ((with_reducible refine(HA.out _).mono ?_);rintro r w' ⟨rfl,rfl⟩)
    go_ret
    exact⟨by first |rfl| (simp;omega),HB.out⟩
 ·rw[show vM ⟨op,a,b,c⟩ len=false by
   unfold vM
   rw[if_neg h0,if_neg h1,if_neg (by simp only;omega),if_neg (by simp only;omega),if_neg h9,if_neg h10]]
  go_enter Tryz.func112,Tryz.ntmps112
  go_wp2
  go_ret
  exact⟨rfl,HB.out⟩
end
section
open Go.RowKit Go.Lib
section
variable {W:World} {x:MdV} {q:Option Addr} {n c:Nat} {l:List In}
theorem Qo (hv:Vw 4 inC W (.slice q n c) l) (hn:n=l.length) (hnb:n≤1000):
  Calls Tryz.prog 75 #[.slice q n c] W fun r w'=>r= .returned (.bool (xf l))∧Below W.heap.size W w':=by
 obtain⟨r0,hr0⟩: ∃r,r=xf l:=⟨_,rfl⟩
 rw[←hr0]
 have HR:=hid hr0
 have HV:=hid (⟨hv,hn⟩:_∧_)
 clear hr0 hv hn
 go_enter Tryz.func75,Tryz.ntmps75
 go_wp2
 go_loopg [3] (n+1) (fun gg s3 wr=> ∃j:Nat,j≤n∧n+1-j≤gg∧s3= .int .i64 j∧Hid ((l.take j).all (fun x=>vM x l.length)=true)∧Hid (Below W.heap.size W wr))
 case atStart=>exact⟨0,by omega,by omega,rfl,hid (by simp),hid (Below.refl _ _)⟩
 case round=>
  obtain⟨j,hj,hgg,rfl,HJ,HBW⟩:=hrel
  by_cases hjn:j<n
  ·obtain⟨x,hx⟩: ∃x,l[j]? =some x:=⟨_,List.getElem?_eq_getElem (by rw[←HV.out.2];exact hjn)⟩
   obtain⟨b,o,rfl,hxc⟩:=aMu HV.out.1 hx
   obtain⟨x0,x1,x2,x3⟩:=hxc wr HBW.out
   have hji:(j:Int)<(n:Int):=by omega
   have hnz:(n:Int)≤1000:=by omega
   have HP:=hid (agX x n wr)
   have HX:=hid hx
   have HJN:=hid hjn
   clear hx hxc
   go_wp2_with fail
   (with_reducible refine HP.out.mono ?_)
   rintro r w1 ⟨rfl,hb1⟩
   obtain⟨go,hgo⟩: ∃go,go=vM x n:=⟨_,rfl⟩
   rw[←hgo]
   have HG:=hid (⟨hgo,HBW.out.trans (hb1.mono HBW.out.size)⟩:_∧_)
   clear hgo hb1 x0 x1 x2 x3
   cases go with
   |true=>
    have HJ2:Hid ((l.take (j+1)).all (fun x=>vM x l.length)=true):=hid (by rw[zD _ HX.out,HJ.out,←HV.out.2,←HG.out.1];rfl)
    go_wp2
    go_roundg (n+1- (j+1))
    case measure=>omega
    case rel=>exact⟨j+1,by have:=HJN.out;omega,by omega,by go_num,HJ2,hid HG.out.2⟩
   |false=>
    have HZ:Hid (r0=false):=hid (by rw[HR.out];unfold xf;rw[yU HX.out (by rw[←HV.out.2,←HG.out.1]),Bool.false_and])
    go_wp2
    go_ret
    rw[HZ.out]
    exact⟨rfl,HG.out.2⟩
  ·have hji: ¬(j:Int)<(n:Int):=by omega
   have HZ:Hid (r0=(decide ((1:Int)≤n)&&decide ((n:Int)≤48))):=hid (by
    have h1:=HJ.out
    rw[List.take_of_length_le (by rw[←HV.out.2];omega)]at h1
    rw[HR.out]
    unfold xf
    rw[h1,Bool.true_and,←HV.out.2,←Bool.decide_and,←Bool.decide_and]
    exact decide_eq_decide.2 (by omega))
   by_cases h1:(1:Int)≤n
   ·have HZ2:Hid (r0=decide ((n:Int)≤48)):=hid (by rw[HZ.out,decide_eq_true h1,Bool.true_and])
    go_wp2
    go_ret
    rw[HZ2.out]
    exact⟨rfl,HBW.out⟩
   ·have h2:decide ((1:Int)≤n)=false:=decide_eq_false h1
    have HZ2:Hid (r0=false):=hid (by rw[HZ.out,h2,Bool.false_and])
    go_wp2
    go_ret
    rw[HZ2.out]
    exact⟨rfl,HBW.out⟩
theorem agN (a p d i:Nat) (hn: ¬((1:Int)≤a∧(a:Int)≤6∧(1:Int)≤p∧(p:Int)≤4∧(1:Int)≤d∧(d:Int)≤8∧(i:Int)≤16)):
  ((a:Int)<1)∨(¬(a:Int)<1∧6<(a:Int))∨(¬(a:Int)<1∧ ¬6<(a:Int)∧(p:Int)<1)∨(¬(a:Int)<1∧ ¬6<(a:Int)∧ ¬(p:Int)<1∧4<(p:Int))∨
  (¬(a:Int)<1∧ ¬6<(a:Int)∧ ¬(p:Int)<1∧ ¬4<(p:Int)∧(d:Int)<1)∨(¬(a:Int)<1∧ ¬6<(a:Int)∧ ¬(p:Int)<1∧ ¬4<(p:Int)∧ ¬(d:Int)<1∧8<(d:Int))∨
  (¬(a:Int)<1∧ ¬6<(a:Int)∧ ¬(p:Int)<1∧ ¬4<(p:Int)∧ ¬(d:Int)<1∧ ¬8<(d:Int)∧16<(i:Int)):=by omega
theorem V3 (h:qZ W x) (hd:x.dn≤1000) (hp:x.pn≤1000) (hl:x.ln≤1000) (hi:x.im≤1000) (hq: ∀q∈x.ps,q.n≤1000):
  Calls Tryz.prog 35 #[.agg (mdC x).toArray] W fun r w'=>r= .returned (.int .i64 (if yM x.m=true then 0 else 15))∧Below W.heap.size W w':=by
 obtain⟨W1,hW1⟩: ∃W1,W1=W.alloc (.cells (mdC x).toArray 29):=⟨_,rfl⟩
 have hb1:Below W.heap.size W W1:=by rw[hW1];exact(Below.refl _ W).alloc (Nat.le_refl _) _
 have hB1:=MdB.new h
 rw[←hW1]at hB1
 obtain⟨e0,he0⟩: ∃e:Int,e=if yM x.m=true then 0 else 15:=⟨_,rfl⟩
 rw[←he0]
 rw[aag h]at he0
 obtain⟨dp,hdp⟩: ∃p,p=x.dp:=⟨_,rfl⟩
 obtain⟨pp,hpp⟩: ∃p,p=x.pp:=⟨_,rfl⟩
 obtain⟨lp,hlp⟩: ∃p,p=x.lp:=⟨_,rfl⟩
 obtain⟨ip,hip⟩: ∃p,p=x.ip:=⟨_,rfl⟩
 have HC:Hid (∀W',Below W1.heap.size W1 W'→(W'.cell? ⟨W.heap.size,0,none⟩=some (.int .i64 x.seed)∧W'.cell? ⟨W.heap.size,1,none⟩=some (.float .f64 x.en)∧W'.cell? ⟨W.heap.size,2,none⟩=some (.slice dp x.dn x.dc)∧W'.cell? ⟨W.heap.size,3,none⟩=some (.slice pp x.pn x.pc)∧W'.cell? ⟨W.heap.size,4,none⟩=some (.slice lp x.ln x.lc)∧W'.cell? ⟨W.heap.size,5,none⟩=some (.slice ip x.im x.ic))∧qZ W' x∧Below W.heap.size W W'):=hid fun W' hW=>by
  have:=hB1.below hW
  rw[hdp,hpp,hlp,hip]
  exact⟨this.c,this.2,hb1.trans (hW.mono hb1.size)⟩
 have HE:=hid he0
 have HH:=hid (⟨h,hq⟩:_∧_)
 have HW1:=hid hW1
 have HD:=hid hdp
 have HP:=hid hpp
 have HL:=hid hlp
 have HI:=hid hip
 unfold mdC at HW1⊢
 rw[←hdp,←hpp,←hlp,←hip]at HW1⊢
 obtain⟨⟨c0,c1,c2,c3,c4,c5⟩,_,_⟩:=HC.out W1 (Below.refl _ _)
 have HB0:=hid hb1
 clear h hq hW1 hb1 hB1 he0 hdp hpp hlp hip
 have goal15:Hid (aio x=false∨jm x.en=true→e0=15):=hid fun h=>by
  rw[HE.out]
  rcases h with h|h
  ·rw[h];simp
  ·rw[h];simp
 by_cases hcn:(1:Int)≤x.ln∧(x.ln:Int)≤6∧(1:Int)≤x.pn∧(x.pn:Int)≤4∧(1:Int)≤x.dn∧(x.dn:Int)≤8∧(x.im:Int)≤16
 ·have hcB : aio x=true:=by
   unfold aio
   simp only[Bool.and_eq_true,decide_eq_true_eq]
   exact⟨⟨hcn.1,hcn.2.1⟩,⟨hcn.2.2.1,hcn.2.2.2.1⟩,⟨hcn.2.2.2.2.1,hcn.2.2.2.2.2.1⟩,hcn.2.2.2.2.2.2⟩
  have i1: ¬(x.ln:Int)<1:=by omega
  have i2: ¬6<(x.ln:Int):=by omega
  have i3: ¬(x.pn:Int)<1:=by omega
  have i4: ¬4<(x.pn:Int):=by omega
  have i5: ¬(x.dn:Int)<1:=by omega
  have i6: ¬8<(x.dn:Int):=by omega
  have i7: ¬16<(x.im:Int):=by omega
  have HCB:=hid hcB
  clear hcB hcn
  by_cases hnan:jm x.en=true
  ·have HZ:Hid (e0=15):=hid (goal15.out (.inr hnan))
   clear HE
   go_enter Tryz.func35,Tryz.ntmps35
   go_upto_region 1 with fail
   rw[←HW1.out]
   go_wp2
   go_ret
   rw[HZ.out]
   exact⟨rfl,HB0.out⟩
  ·have hnan2 :jm x.en=false:=by simpa using hnan
   have HE1:Hid (e0=if(x.dl.all dlB&&(x.ps.all (fun q=>xf q.l)&&(x.ls.all (lpR x.pn)&&x.is.all (aaz x.ln))))=true then 0 else 15):=hid (by rw[HE.out,HCB.out,hnan2];rfl)
   clear HE goal15 hnan
   go_enter Tryz.func35,Tryz.ntmps35
   go_upto_region 1 with fail
   rw[←HW1.out]
   go_wp2
   go_loopg [3] x.dn (fun gg s3 wr=> ∃(j:Nat),j≤x.dn∧x.dn-j≤gg∧s3= .int .i64 j∧Hid ((x.dl.take j).all dlB=true)∧W1=wr)
   case atStart=>exact⟨0,by omega,by omega,rfl,hid (by simp),rfl⟩
   case round =>
    obtain⟨j,hj,hgg,rfl,HJ,hwr⟩:=hrel
    subst hwr
    by_cases hjn:j<x.dn
    ·obtain⟨d,hd'⟩: ∃d,x.dl[j]? =some d:=⟨_,List.getElem?_eq_getElem (by rw[←HH.out.1.dn];exact hjn)⟩
     obtain⟨g,o,e1,m0⟩:=(HC.out W1 (Below.refl _ _)).2.1.dly hd'
     obtain rfl:dp=some ⟨g,o,none⟩:=HD.out.trans e1
     have hji:(j:Int)<(x.dn:Int):=by omega
     have hjz:(x.dn:Int)≤1000:=by omega
     have HJN:=hid hjn
     have HX:=hid hd'
     clear hd' e1
     by_cases hz:fgt d 0=true
     ·have HX2:Hid ((x.dl.take (j+1)).all dlB=true):=hid (by rw[zD _ HX.out,HJ.out];exact hz)
      go_wp2
      go_roundg (x.dn- (j+1))
      case measure=>omega
      case rel=>exact⟨j+1,by have:=HJN.out;omega,by omega,by go_num,HX2,rfl⟩
     ·have hz2:fgt d 0=false:=by simpa using hz
      have HZ:Hid (e0=15):=hid (by rw[HE1.out,yU HX.out hz2];rfl)
      clear hz HE1
      go_wp2
      go_ret
      rw[HZ.out]
      exact⟨rfl,HB0.out⟩
    ·have hji : ¬(j:Int)<(x.dn:Int):=by omega
     have HE2:Hid (e0=if(x.ps.all (fun q=>xf q.l)&&(x.ls.all (lpR x.pn)&&x.is.all (aaz x.ln)))=true then 0 else 15):=hid (by
      have:=HJ.out
      rw[List.take_of_length_le (by rw[←HH.out.1.dn];omega)]at this
      rw[HE1.out,this,Bool.true_and])
     clear HE1 HJ
     go_wp2
     go_loopg [4] x.pn (fun gg s4 wr=> ∃(j:Nat),j≤x.pn∧x.pn-j≤gg∧s4= .int .i64 j∧Hid (((x.ps.take j).all fun q=>xf q.l)=true)∧Hid (Below W1.heap.size W1 wr))
     case atStart=>exact⟨0,by omega,by omega,rfl,hid (by simp),hid (Below.refl _ _)⟩
     case round=>
      obtain⟨j,hj,hgg,rfl,HJ,HBr⟩:=hrel
      obtain⟨⟨k0,k1,k2,k3,k4,k5⟩,hmr,_⟩:=HC.out wr HBr.out
      by_cases hjn:j<x.pn
      ·obtain⟨q,hq'⟩: ∃q,x.ps[j]? =some q:=⟨_,List.getElem?_eq_getElem (by rw[←HH.out.1.pn];exact hjn)⟩
       obtain⟨g,o,e1,m0⟩:=hmr.prg hq'
       obtain rfl:pp=some ⟨g,o,none⟩:=HP.out.trans e1
       have hqm:=List.mem_of_getElem? hq'
       obtain⟨go,hgo⟩: ∃b,b=xf q.l:=⟨_,rfl⟩
       have HPR:=hid (Qo (hmr.pi q hqm).2 (hmr.pi q hqm).1 (HH.out.2 q hqm))
       rw[←hgo]at HPR
       have hji:(j:Int)<(x.pn:Int):=by omega
       have hjz:(x.pn:Int)≤1000:=by omega
       have HJN:=hid hjn
       have HX:=hid (⟨hq',hgo⟩:_∧_)
       clear hq' e1 hqm hgo hmr
       go_wp2_with fail
       (with_reducible refine HPR.out.mono ?_)
       rintro r w2 ⟨rfl,hb2⟩
       have HB2:=hid (HBr.out.trans (hb2.mono HBr.out.size))
       clear hb2
       cases go with
       |true=>
        have HX2:Hid (((x.ps.take (j+1)).all fun q=>xf q.l)=true):=hid (by rw[zD (fun q:Prg=>xf q.l) HX.out.1,HJ.out,←HX.out.2];rfl)
        go_wp2
        go_roundg (x.pn- (j+1))
        case measure=>omega
        case rel=>exact⟨j+1,by have:=HJN.out;omega,by omega,by go_num,HX2,HB2⟩
       |false=>
        have HZ:Hid (e0=15):=hid (by rw[HE2.out,yU (f:=fun q:Prg=>xf q.l) HX.out.1 HX.out.2.symm];rfl)
        clear HE2
        go_wp2
        go_ret
        rw[HZ.out]
        exact⟨rfl,(HC.out _ HB2.out).2.2⟩
      ·have hji: ¬(j:Int)<(x.pn:Int):=by omega
       have HE3:Hid (e0=if(x.ls.all (lpR x.pn)&&x.is.all (aaz x.ln))=true then 0 else 15):=hid (by
        have:=HJ.out
        rw[List.take_of_length_le (by rw[←HH.out.1.pn];omega)]at this
        rw[HE2.out,this,Bool.true_and])
       obtain⟨w2,rfl⟩: ∃w2,w2=wr:=⟨_,rfl⟩
       clear HE2 HJ c0 c1 c2 c3 c4 c5 hmr
       go_wp2
       go_loopg [5] x.ln (fun gg s5 wr=> ∃(j:Nat),j≤x.ln∧x.ln-j≤gg∧s5= .int .i64 j∧Hid ((x.ls.take j).all (lpR x.pn)=true)∧Hid (Below W1.heap.size W1 wr))
       case atStart=>exact⟨0,by omega,by omega,rfl,hid (by simp),HBr⟩
       case round=>
        obtain⟨j,hj,hgg,rfl,HJ,HBr⟩:=hrel
        obtain⟨⟨r0,r1,r2,r3,r4,r5⟩,hmr,_⟩:=HC.out wr HBr.out
        by_cases hjn:j<x.ln
        ·obtain⟨q,hq'⟩: ∃q,x.ls[j]? =some q:=⟨_,List.getElem?_eq_getElem (by rw[←HH.out.1.ln];exact hjn)⟩
         obtain⟨g,o,e1,m0,m1⟩:=hmr.lpr hq'
         obtain rfl:lp=some ⟨g,o,none⟩:=HL.out.trans e1
         have hji:(j:Int)<(x.ln:Int):=by omega
         have hj0:(0:Int)≤(j:Int):=by omega
         have hjz:(x.ln:Int)≤1000:=by omega
         have HJN:=hid hjn
         have HCW:Hid (∀w',vv wr w'→(w'.cell? ⟨W.heap.size,3,none⟩=some (.slice pp x.pn x.pc)∧w'.cell? ⟨W.heap.size,4,none⟩=some (.slice (some ⟨g,o,none⟩) x.ln x.lc))∧w'.cell? ⟨g,o+j*2,none⟩=some (.int .i64 q.k)∧w'.cell? ⟨g,o+j*2+1,none⟩=some (.slice q.p q.n q.c)):=hid fun w' hw=>by
          obtain⟨⟨_,_,_,z3,z4,_⟩,hm,_⟩:=HC.out w' (HBr.out.trans (hw.out.mono HBr.out.size))
          obtain⟨g',o',e',y0,y1⟩:=hm.lpr hq'
          rw[e1]at e'
          injection e' with e'
          injection e' with e2 e3 _
          subst e2 e3
          exact⟨⟨z3,z4⟩,y0,y1⟩
         have HX:=hid hq'
         clear hq' e1 hmr
         by_cases hz:(0:Int)≤q.k∧q.k≤(x.pn:Int) -1∧(q.n:Int)≤8
         ·have t1: ¬q.k<0:=by omega
          have t2: ¬(x.pn:Int)≤q.k:=by omega
          have t3: ¬8<(q.n:Int):=by omega
          have t4:decide (q.k<0)=false:=decide_eq_false t1
          have t5:decide ((x.pn:Int)≤q.k)=false:=decide_eq_false t2
          have t6:decide (8<(q.n:Int))=false:=decide_eq_false t3
          have HX2:Hid ((x.ls.take (j+1)).all (lpR x.pn)=true):=hid (by
           rw[zD _ HX.out,HJ.out]
           unfold lpR
           simp only[Bool.true_and,Bool.and_eq_true,decide_eq_true_eq]
           exact⟨⟨hz.1,hz.2.1⟩,hz.2.2⟩)
          clear hz
          go_wp2
          refine vU (by kernel_rfl) (by kernel_rfl) (vv wr) (vv.drew wr) ?_
          repeat(first | (refine Qs rfl (fun K hK=>?_);apply Exists.intro;refine⟨fun w0 hw0=>?_,?_⟩;(focus(obtain⟨⟨y0,y1⟩,y2,y3⟩:=HCW.out w0 hw0;go_simp;first |exact rfl|exact⟨rfl,rfl⟩ | (fail)));go_simp;refine hK _ ?_;clear hK K) | (refine aaU _ _ _ rfl rfl (by rfl) (fun K hK=>?_);apply Exists.intro;refine⟨fun w0 hw0=>?_,?_⟩;(focus(obtain⟨⟨y0,y1⟩,y2,y3⟩:=HCW.out w0 hw0;go_simp;first |exact rfl|exact⟨rfl,rfl⟩ | (fail)));go_simp;refine hK _ ?_;clear hK K) | (refine ajj _ _ _ rfl rfl (by rfl) (fun K hK=>?_);go_simp;refine hK _ ?_;clear hK K) | (refine Zp _ _ _ rfl rfl (by rfl) (fun K hK=>?_);go_simp;refine hK _ ?_;clear hK K))
          refine aaT ?_
          intro w3 hw3
          have HB3:Hid (Below W1.heap.size W1 w3):=hid (HBr.out.trans (hw3.out.mono HBr.out.size))
          clear hw3
          go_wp2
          go_roundg (x.ln- (j+1))
          case measure=>omega
          case rel=>exact⟨j+1,by have:=HJN.out;omega,by omega,by go_num,HX2,HB3⟩
         ·have HZ:Hid (e0=15):=hid (by
           rw[HE3.out,yU HX.out (by
            unfold lpR
            rw[←Bool.decide_and]
            exact decide_eq_false (by omega))]
           rfl)
          have hcs:q.k<0∨(¬q.k<0∧(x.pn:Int)≤q.k)∨(¬q.k<0∧ ¬(x.pn:Int)≤q.k∧8<(q.n:Int)):=by omega
          clear hz HE3
          rcases hcs with t1| ⟨t1,t2⟩ | ⟨t1,t2,t3⟩
          ·go_wp2
           refine vU (by kernel_rfl) (by kernel_rfl) (vv wr) (vv.drew wr) ?_
           repeat(first | (refine Qs rfl (fun K hK=>?_);apply Exists.intro;refine⟨fun w0 hw0=>?_,?_⟩;(focus(obtain⟨⟨y0,y1⟩,y2,y3⟩:=HCW.out w0 hw0;go_simp;first |exact rfl|exact⟨rfl,rfl⟩ | (fail)));go_simp;refine hK _ ?_;clear hK K) | (refine aaU _ _ _ rfl rfl (by rfl) (fun K hK=>?_);apply Exists.intro;refine⟨fun w0 hw0=>?_,?_⟩;(focus(obtain⟨⟨y0,y1⟩,y2,y3⟩:=HCW.out w0 hw0;go_simp;first |exact rfl|exact⟨rfl,rfl⟩ | (fail)));go_simp;refine hK _ ?_;clear hK K) | (refine ajj _ _ _ rfl rfl (by rfl) (fun K hK=>?_);go_simp;refine hK _ ?_;clear hK K) | (refine Zp _ _ _ rfl rfl (by rfl) (fun K hK=>?_);go_simp;refine hK _ ?_;clear hK K))
           refine aaT ?_
           intro w3 hw3
           have HB3:Hid (Below W.heap.size W w3):=hid (HC.out w3 (HBr.out.trans (hw3.out.mono HBr.out.size))).2.2
           clear hw3
           go_wp2
           go_ret
           rw[HZ.out]
           exact⟨rfl,HB3.out⟩
          ·have t4:decide (q.k<0)=false:=decide_eq_false t1
           go_wp2
           refine vU (by kernel_rfl) (by kernel_rfl) (vv wr) (vv.drew wr) ?_
           repeat(first | (refine Qs rfl (fun K hK=>?_);apply Exists.intro;refine⟨fun w0 hw0=>?_,?_⟩;(focus(obtain⟨⟨y0,y1⟩,y2,y3⟩:=HCW.out w0 hw0;go_simp;first |exact rfl|exact⟨rfl,rfl⟩ | (fail)));go_simp;refine hK _ ?_;clear hK K) | (refine aaU _ _ _ rfl rfl (by rfl) (fun K hK=>?_);apply Exists.intro;refine⟨fun w0 hw0=>?_,?_⟩;(focus(obtain⟨⟨y0,y1⟩,y2,y3⟩:=HCW.out w0 hw0;go_simp;first |exact rfl|exact⟨rfl,rfl⟩ | (fail)));go_simp;refine hK _ ?_;clear hK K) | (refine ajj _ _ _ rfl rfl (by rfl) (fun K hK=>?_);go_simp;refine hK _ ?_;clear hK K) | (refine Zp _ _ _ rfl rfl (by rfl) (fun K hK=>?_);go_simp;refine hK _ ?_;clear hK K))
           refine aaT ?_
           intro w3 hw3
           have HB3:Hid (Below W.heap.size W w3):=hid (HC.out w3 (HBr.out.trans (hw3.out.mono HBr.out.size))).2.2
           clear hw3
           go_wp2
           go_ret
           rw[HZ.out]
           exact⟨rfl,HB3.out⟩
          ·have t4:decide (q.k<0)=false:=decide_eq_false t1
           have t5:decide ((x.pn:Int)≤q.k)=false:=decide_eq_false t2
           go_wp2
           refine vU (by kernel_rfl) (by kernel_rfl) (vv wr) (vv.drew wr) ?_
           repeat(first | (refine Qs rfl (fun K hK=>?_);apply Exists.intro;refine⟨fun w0 hw0=>?_,?_⟩;(focus(obtain⟨⟨y0,y1⟩,y2,y3⟩:=HCW.out w0 hw0;go_simp;first |exact rfl|exact⟨rfl,rfl⟩ | (fail)));go_simp;refine hK _ ?_;clear hK K) | (refine aaU _ _ _ rfl rfl (by rfl) (fun K hK=>?_);apply Exists.intro;refine⟨fun w0 hw0=>?_,?_⟩;(focus(obtain⟨⟨y0,y1⟩,y2,y3⟩:=HCW.out w0 hw0;go_simp;first |exact rfl|exact⟨rfl,rfl⟩ | (fail)));go_simp;refine hK _ ?_;clear hK K) | (refine ajj _ _ _ rfl rfl (by rfl) (fun K hK=>?_);go_simp;refine hK _ ?_;clear hK K) | (refine Zp _ _ _ rfl rfl (by rfl) (fun K hK=>?_);go_simp;refine hK _ ?_;clear hK K))
           refine aaT ?_
           intro w3 hw3
           have HB3:Hid (Below W.heap.size W w3):=hid (HC.out w3 (HBr.out.trans (hw3.out.mono HBr.out.size))).2.2
           clear hw3
           go_wp2
           go_ret
           rw[HZ.out]
           exact⟨rfl,HB3.out⟩
        ·have hji: ¬(j:Int)<(x.ln:Int):=by omega
         have HE4:Hid (e0=if(x.is.all (aaz x.ln))=true then 0 else 15):=hid (by
          have:=HJ.out
          rw[List.take_of_length_le (by rw[←HH.out.1.ln];omega)]at this
          rw[HE3.out,this,Bool.true_and])
         obtain⟨w3,rfl⟩: ∃w2,w2=wr:=⟨_,rfl⟩
         clear HE3 HJ k0 k1 k2 k3 k4 k5 hmr
         go_wp2
         go_loopg [6] x.im (fun gg s6 wr=> ∃(j:Nat),j≤x.im∧x.im-j≤gg∧s6= .int .i64 j∧Hid ((x.is.take j).all (aaz x.ln)=true)∧Hid (Below W1.heap.size W1 wr))
         case atStart=>exact⟨0,by omega,by omega,rfl,hid (by simp),HBr⟩
         case round=>
          obtain⟨j,hj,hgg,rfl,HJ,HBr⟩:=hrel
          obtain⟨⟨s0,s1,s2,s3,s4,s5⟩,hmr,_⟩:=HC.out wr HBr.out
          by_cases hjn:j<x.im
          ·obtain⟨y,hy'⟩: ∃q,x.is[j]? =some q:=⟨_,List.getElem?_eq_getElem (by rw[←HH.out.1.im];exact hjn)⟩
           obtain⟨g,o,e1,m0,m1,m2⟩:=hmr.ini hy'
           obtain rfl:ip=some ⟨g,o,none⟩:=HI.out.trans e1
           obtain⟨wo,hwo⟩: ∃wo,wo=wr.alloc (.cells #[.float .f64 y.t,.int .i64 y.dst,.int .i64 y.pay] 90):=⟨_,rfl⟩
           have hbo:Below W1.heap.size W1 wo:=by rw[hwo];exact HBr.out.alloc HBr.out.size _
           have hBo:Blk wo wr.heap.size 90 #[.float .f64 y.t,.int .i64 y.dst,.int .i64 y.pay]:=by rw[hwo];exact Blk.new wr _ _
           have hji:(j:Int)<(x.im:Int):=by omega
           have hjz:(x.im:Int)≤1000:=by omega
           have HJN:=hid hjn
           have HX:=hid hy'
           have HBO:=hid (⟨hwo,hbo,hBo⟩:_∧_∧_)
           clear hy' e1 hwo hmr
           go_upto_region 22 with fail
           rw[←HBO.out.1]
           obtain⟨⟨z0,z1,z2,z3,z4,z5⟩,_,_⟩:=HC.out wo HBO.out.2.1
           have q0:wo.cell? ⟨wr.heap.size,0,none⟩=some (.float .f64 y.t):=HBO.out.2.2.cell 0
           have q1:wo.cell? ⟨wr.heap.size,1,none⟩=some (.int .i64 y.dst):=HBO.out.2.2.cell 1
           clear hbo hBo
           by_cases hz:jm y.t=false∧(0:Int)≤y.dst∧y.dst≤(x.ln:Int) -1
           ·have HX2:Hid ((x.is.take (j+1)).all (aaz x.ln)=true):=hid (by
             rw[zD _ HX.out,HJ.out]
             unfold aaz
             rw[hz.1]
             simp only[Bool.true_and,Bool.not_false,decide_eq_true_eq]
             exact hz.2)
            obtain⟨t1,t2,t3⟩:=hz
            have t4: ¬y.dst<0:=by omega
            have t5: ¬(x.ln:Int)≤y.dst:=by omega
            go_wp2
            go_roundg (x.im- (j+1))
            case measure=>omega
            case rel=>exact⟨j+1,by have:=HJN.out;omega,by omega,by go_num,HX2,hid HBO.out.2.1⟩
           ·have HZ:Hid (e0=15):=hid (by
             rw[HE4.out,yU HX.out (by
              unfold aaz
              rw[Bool.and_eq_false_iff]
              by_cases h:jm y.t=true
              ·left;rw[h];rfl
              ·right;exact decide_eq_false (fun h2=>hz ⟨by simpa using h,h2⟩))]
             rfl)
            have hcs:jm y.t=true∨(jm y.t=false∧y.dst<0)∨(jm y.t=false∧ ¬y.dst<0∧(x.ln:Int)≤y.dst):=by
             by_cases h:jm y.t=true
             ·exact .inl h
             ·have h':jm y.t=false:=by simpa using h
              have: ¬((0:Int)≤y.dst∧y.dst≤(x.ln:Int) -1):=fun h2=>hz ⟨h',h2⟩
              by_cases h3:y.dst<0
              ·exact .inr (.inl ⟨h',h3⟩)
              ·exact .inr (.inr ⟨h',h3,by omega⟩)
            have HF:=hid (HC.out wo HBO.out.2.1).2.2
            clear hz HE4
            rcases hcs with t1| ⟨t1,t2⟩ | ⟨t1,t2,t3⟩
            all_goals
             go_wp2
             go_ret
             rw[HZ.out]
             exact⟨rfl,HF.out⟩
          ·have hji: ¬(j:Int)<(x.im:Int):=by omega
           have HZ:Hid (e0=0):=hid (by
            have:=HJ.out
            rw[List.take_of_length_le (by rw[←HH.out.1.im];omega)]at this
            rw[HE4.out,this]
            rfl)
           have HF:=hid (HC.out wr HBr.out).2.2
           clear HE4 HJ hmr
           go_wp2
           go_ret
           rw[HZ.out]
           exact⟨rfl,HF.out⟩
 ·have HZ:Hid (e0=15):=hid (goal15.out (.inl (by
   unfold aio
   rw[←Bool.decide_and,←Bool.decide_and,←Bool.decide_and]
   exact decide_eq_false (fun h=>hcn ⟨h.1.1,h.1.2,h.2.1.1,h.2.1.2,h.2.2.1.1,h.2.2.1.2,h.2.2.2⟩))))
  have hcs:=agN x.ln x.pn x.dn x.im hcn
  clear hcn HE goal15
  rcases hcs with t1| ⟨t1,t2⟩ | ⟨t1,t2,t3⟩ | ⟨t1,t2,t3,t4⟩ | ⟨t1,t2,t3,t4,t5⟩ | ⟨t1,t2,t3,t4,t5,t6⟩ | ⟨t1,t2,t3,t4,t5,t6,t7⟩
  all_goals
   go_enter Tryz.func35,Tryz.ntmps35
   go_upto_region 1 with fail
   rw[←HW1.out]
   go_wp2
   go_ret
   rw[HZ.out]
   exact⟨rfl,HB0.out⟩
end
end
section
open Go.RowKit Go.Lib
def ace:Prop:= ∀w,Calls Tryz.prog 6 #[] w fun e w'=>e= .returned (.bool true)∧Below w.heap.size w w'
end
section
open Go.RowKit Go.Lib
theorem ZC:ace:=fun w=>Kv.plain_run Kv.awtop rfl rfl (by decide+kernel) (args':=[]) (fun ρ=>rfl) (by rfl) w
end
section
open Go.ChangeShapes Go.WideShapes Go.ChangeAt Go.RowKit Go.Deep
theorem own:ownKnob Tryz.prog.godebug=none:=by kernel_rfl
theorem aSC:laidOutB Tryz.prog=true:=by kernel_rfl
section
variable {H:Type} {enc:TypeId×Value→H}
theorem qN {P:Program} {W W':World} (hl:laidOutB P=true) (hb:Below W.heap.size W W'): ∀ {ts:List TypeId} {vs:List Value} {ds:List (DataW H)} {ps:List MemPlace},
  DataW.TrodAll enc P W 0 (fun _=>true) true ts vs ds ps→(∀t∈ts,P.readableRec t=true∧t<P.types.size)→
  DataW.TrodAll enc P W' 0 (fun b=>decide (b<W.heap.size)) true ts vs ds ps
 | [],[],[],_,h,_=>h
 |t::ts,v::vs,d::ds,_,h,ht=>by
  obtain⟨p,q,h1,h2,rfl⟩:=h
  obtain⟨a,b⟩:=ht t (by simp)
  refine⟨p,q,Below.trod hl a b h1 hb ?_,qN hl hb h2 (fun t ht'=>ht t (by simp[ht'])),rfl⟩
  obtain⟨fuel,hf⟩:=h1
  exact DataW.trod_lt _ _ _ _ hf
 | [],[],_::_,_,h,_=>h.elim
 | [],_::_,_,_,h,_=>h.elim
 |_::_,[],_,_,h,_=>h.elim
 |_::_,_::_,[],_,h,_=>h.elim
end
end
end Go.Proofs.YtcdiljebkpikbaaGreat
