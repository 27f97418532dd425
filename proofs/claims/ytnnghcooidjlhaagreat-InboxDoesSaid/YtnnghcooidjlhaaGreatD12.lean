/- Parts of the proof: Ne Nf Ga. -/
import Derived.Deep.RegionHeld3
import Derived.Test.YtnnghcooidjlhaaGreatD10
import Derived.Test.YtnnghcooidjlhaaGreatD11
set_option linter.all false
set_option maxRecDepth 100000
namespace Go.Proofs.YtnnghcooidjlhaaGreat
section
def Fm.more (f : Fm) (x : En) (r : Nat) : Nd := ⟨false, f.L.map Ch.en ++ f.hole :: ⟨x.key, [], r⟩ :: f.R.map Ch.en⟩
theorem SSt.split {m : Mp} {d q : Nat} {n : Nd} {f : Fm} {up : List Fm} {E : List En} {ps : List PN} (h : SSt m d q n (f :: up) E ps) (hf : 223 < nB n.l) {i : Nat} (hh : HalfAt n.l i) :
  ∃ x t, n.l.drop i = x :: t ∧ mayN ⟨n.leaf, n.l.take i⟩ ∧ nB (n.l.take i) ≤ 223 ∧ mayN (strip ⟨n.leaf, n.l.drop i⟩) ∧ nB (strip ⟨n.leaf, n.l.drop i⟩).l ≤ 223 ∧ n.l.take i ≠ [] ∧ mayN f.nd ∧
   ∀ r, m r = none → r < 512 → ∃ ps2, SSt (upd (upd m r (some (pgOf (strip ⟨n.leaf, n.l.drop i⟩)))) q (some (pgOf ⟨n.leaf, n.l.take i⟩))) (d + 1) f.page (f.more x r) up E ps2 ∧
    Turn m (pgsOf ps) (upd (upd m r (some (pgOf (strip ⟨n.leaf, n.l.drop i⟩)))) q (some (pgOf ⟨n.leaf, n.l.take i⟩))) (pgsOf ps2) ∧ ∀ p : Pot, p.sum ps2 ≤ p.sum ps + if d = 0 then p.R else 0 := by
 obtain ⟨⟨pre, post, es, ps0, psc, h1, h2, h3, h4, h5, rfl, rfl⟩, hm, hnd, hal, hb⟩ := h
 obtain ⟨x, t, ea, eb, pa, pb, H⟩ := h2.halved hm hb hh
 obtain ⟨rfl, hF, pre', post', ps', hC, rfl, rfl, rfl⟩ := h1
 obtain ⟨eL, hps⟩ := (⟨H.ees, H.eps⟩ : es = ea ++ eb ∧ ps0 = pa ++ pb)
 subst eL hps
 refine ⟨x, t, H.dr, H.am, H.ab, H.bm, H.bb, H.an, hF.nd.2.1, fun r hr hr5 => ?_⟩
 obtain ⟨a, ha⟩ : ∃ a : Nd, a = ⟨n.leaf, n.l.take i⟩ := ⟨_, rfl⟩
 obtain ⟨b, hbd⟩ : ∃ b : Nd, b = strip ⟨n.leaf, n.l.drop i⟩ := ⟨_, rfl⟩
 have Ha := H.a
 have Hb := H.b
 have Ham := H.am
 have Hbm := H.bm
 have Hab := H.ab
 have Hbb := H.bb
 have Hai := H.ai
 have Hbi := H.bi
 have Han := H.an
 have Hbn := H.bn
 have eab : nB (n.l.take i) = nB a.l := by rw [ha]
 have ean : n.l.take i = a.l := by rw [ha]
 rw [← ha] at Ha Ham ⊢
 rw [← hbd] at Hb Hbm Hbb Hbi Hbn ⊢
 rw [eab] at Hab Hai
 rw [ean] at Han
 have al : ∀ y ∈ pgsOf (pa ++ pb) ++ f.page :: (pgsOf (chPs f.L) ++ pgsOf (chPs f.R) ++ pgsOf ps'), ∃ b, m y = some b := by
  intro y hy
  rcases List.mem_append.1 hy with hy | hy
  ·obtain ⟨z, hz, rfl⟩ := List.mem_map.1 hy
   rcases List.mem_append.1 hz with hz | hz
   ·revert Ha; intro Ha
    cases d with
    | zero => obtain ⟨_, rfl⟩ := Ha; simp at hz
    | succ d =>
     obtain ⟨cs, _, _, _, h9, _, rfl⟩ := Ha
     obtain ⟨c, hc, hz⟩ := mem_chPs.1 hz
     exact (h9 c hc).alloc z hz
   ·cases d with
    | zero => obtain ⟨_, rfl⟩ := Hb; simp at hz
    | succ d =>
     obtain ⟨cs, _, _, _, h9, _, rfl⟩ := Hb
     obtain ⟨c, hc, hz⟩ := mem_chPs.1 hz
     exact (h9 c hc).alloc z hz
  ·rcases List.mem_cons.1 hy with rfl | hy
   ·exact ⟨_, hF.nd.1⟩
   ·rcases List.mem_append.1 hy with hy | hy
    ·rw [← pgsOf_append] at hy
     obtain ⟨z, hz, rfl⟩ := List.mem_map.1 hy
     rw [← chPs_append] at hz
     obtain ⟨c, hc, hz⟩ := mem_chPs.1 hz
     exact (hF.ch c hc).alloc z hz
    ·obtain ⟨z, hz, rfl⟩ := List.mem_map.1 hy
     exact hC.alloc z hz
 have hrn : r ∉ pgsOf (pa ++ pb) ++ f.page :: (pgsOf (chPs f.L) ++ pgsOf (chPs f.R) ++ pgsOf ps') := fun hy => by
  obtain ⟨b, hb⟩ := al r hy
  rw [hr] at hb; cases hb
 have hqn : f.hp ∉ pgsOf (pa ++ pb) ++ f.page :: (pgsOf (chPs f.L) ++ pgsOf (chPs f.R) ++ pgsOf ps') := by
  rw [pgsOf_cons, List.nodup_cons] at hnd
  simpa using hnd.1
 by_cases hqr : r = f.hp
 ·-- the page itself is there
  exfalso
  obtain ⟨b, hb⟩ := hal
  rw [← hqr, hr] at hb
  cases hb
 have keep : ∀ y ∈ pgsOf (pa ++ pb) ++ f.page :: (pgsOf (chPs f.L) ++ pgsOf (chPs f.R) ++ pgsOf ps'), upd (upd m r (some (pgOf b))) f.hp (some (pgOf a)) y = m y := fun y hy => by
  have y1 : y ≠ f.hp := fun e => hqn (by rw [← e]; exact hy)
  have y2 : y ≠ r := fun e => hrn (by rw [← e]; exact hy)
  rw [upd_ne _ _ y1, upd_ne _ _ y2]
 obtain ⟨m2, hm2⟩ : ∃ m2, m2 = upd (upd m r (some (pgOf b))) f.hp (some (pgOf a)) := ⟨_, rfl⟩
 have mq : m2 f.hp = some (pgOf a) := by rw [hm2, upd_same]
 have mr : m2 r = some (pgOf b) := by rw [hm2, upd_ne _ _ hqr, upd_same]
 rw [← hm2] at keep ⊢
 have kp0 : ∀ z ∈ pa ++ pb, m2 z.1 = m z.1 := fun z hz => keep _ (List.mem_append_left _ (mem_pgsOf hz))
 have kpf : m2 f.page = m f.page := keep _ (by simp)
 have kpc : ∀ c ∈ f.L ++ f.R, ∀ z ∈ c.ps, m2 z.1 = m z.1 := fun c hc z hz => keep _ (by
  have : z.1 ∈ pgsOf (chPs f.L) ++ pgsOf (chPs f.R) := by rw [← pgsOf_append, ← chPs_append]; exact mem_pgsOf (mem_chPs.2 ⟨c, hc, hz⟩)
  simp only [List.mem_append, List.mem_cons] at this ⊢
  exact .inr (.inr (.inl this)))
 have kps : ∀ z ∈ ps', m2 z.1 = m z.1 := fun z hz => keep _ (by have := mem_pgsOf hz; simp [this])
 have Ra : Rep m2 d f.hp ea ((f.hp, d, nB a.l) :: pa) := rep_iff.2 ⟨a, pa, ⟨mq, Ham, Hab⟩, Ha.congr fun z hz => kp0 z (by simp [hz]), fun _ => Han, rfl⟩
 have Rb : Rep m2 d r eb ((r, d, nB b.l) :: pb) := rep_iff.2 ⟨b, pb, ⟨mr, Hbm, Hbb⟩, Hb.congr fun z hz => kp0 z (by simp [hz]), fun _ => Hbn, rfl⟩
 have hF2 : FmOk m2 (d + 0) f up := hF.congr kpf kpc
 have hC2 := hC.congr kps
 have inb := fun z hz => InB.cons.1 (h5 z hz)
 obtain ⟨ya, hya⟩ := List.exists_mem_of_ne_nil _ H.nea
 obtain ⟨yb, hyb⟩ := List.exists_mem_of_ne_nil _ H.neb
 have k1 : f.key < x.key := blt_of_le_of_lt (inb ya (by simp [hya])).1.1 (H.lt ya hya)
 have k2 : ∀ c ∈ f.R, x.key < c.key := fun c hc => blt_of_le_of_lt (H.le yb hyb) ((inb yb (by simp [hyb])).1.2 c hc)
 obtain ⟨cs, hcs⟩ : ∃ cs : List Ch, cs = f.L ++ ⟨f.key, f.hp, ea, (f.hp, d, nB a.l) :: pa⟩ :: ⟨x.key, r, eb, (r, d, nB b.l) :: pb⟩ :: f.R := ⟨_, rfl⟩
 have mem : ∀ c ∈ cs, c ∈ f.L ++ f.R ∨ c = ⟨f.key, f.hp, ea, (f.hp, d, nB a.l) :: pa⟩ ∨ c = ⟨x.key, r, eb, (r, d, nB b.l) :: pb⟩ := by
  intro c hc
  rw [hcs] at hc
  simp only [List.mem_append, List.mem_cons] at hc ⊢
  rcases hc with h | h | h | h
  ·exact .inl (.inl h)
  ·exact .inr (.inl h)
  ·exact .inr (.inr h)
  ·exact .inl (.inr h)
 have hfirst : FirstE cs := by
  intro c hc
  have := hF.first
  rw [hcs] at hc
  cases hL : f.L with
  | nil => rw [hL] at this hc; simp at hc; subst hc; exact this
  | cons a t => rw [hL] at this hc; simp at hc; subst hc; exact this
 have hok : ChOk cs := by
  refine ⟨fun c hc => ?_, ?_⟩
  ·rcases mem c hc with hc | rfl | rfl
   ·exact hF.ok.1 c hc
   ·exact ⟨H.nea, fun z hz => (inb z (by simp [hz])).1.1⟩
   ·exact ⟨H.neb, fun z hz => H.le z hz⟩
  ·rw [hcs, pw_mid]
   refine ⟨?_, hF.lk, fun c hc z hz => ?_⟩
   ·rw [pw_mid]
    exact ⟨hF.ok.2, fun c hc z hz => blt_trans (hF.lk c hc z hz) k1, fun c hc z hz => (inb z (by simp [hz])).1.2 c hc⟩
   ·rcases List.mem_cons.1 hc with rfl | hc
    ·exact H.lt z hz
    ·exact (inb z (by simp [hz])).1.2 c hc
 have hrep : ∀ c ∈ cs, Rep m2 d c.page c.es c.ps := by
  intro c hc
  rcases mem c hc with hc | rfl | rfl
  ·exact hF2.ch c hc
  ·exact Ra
  ·exact Rb
 have emore : f.more x r = ⟨false, cs.map Ch.en⟩ := by simp [hcs, Fm.more, Fm.hole, Ch.en]
 have hnB : nB (f.more x r).l = nB f.nd.l + (x.key.length + 7) := by simp [Fm.more, Fm.nd, enB]; omega
 have hxk := H.xk
 have hfb := hF.nd.2.2
 have eps : chPs cs = chPs f.L ++ ((f.hp, d, nB a.l) :: pa ++ ((r, d, nB b.l) :: pb ++ chPs f.R)) := by simp [hcs]
 have hperm : ((f.page, d + 1, nB (f.more x r).l) :: (chPs cs ++ ps')).Perm ((f.hp, d, nB a.l) :: (r, d, nB b.l) :: ((pa ++ pb) ++ (f.page, d + 1, nB (f.more x r).l) :: (chPs f.L ++ chPs f.R ++ ps'))) := by
  rw [eps, List.perm_iff_count]
  intro z
  simp only [List.count_cons, List.count_append, List.cons_append, List.append_assoc]
  omega
 refine ⟨(f.page, d + 1, nB (f.more x r).l) :: (chPs cs ++ ps'), ⟨⟨pre', post', chEs cs, chPs cs, ps', hC2, ⟨cs, emore, hfirst, hok, hrep, rfl, rfl⟩, fun _ => by rw [emore]; simp [hcs], .inl (by simp [hcs, H.nea]), ?_, by simp [hcs], rfl⟩, ?_, ?_, ⟨_, kpf.trans hF.nd.1⟩, ?_⟩, ?_, ?_⟩
 ·intro z hz
  obtain ⟨c, hc, hz⟩ := mem_chEs.1 hz
  rcases mem c hc with hc | rfl | rfl
  ·exact hF.inb c hc z hz
  ·exact (inb z (by simp [hz])).2
  ·exact (inb z (by simp [hz])).2
 ·refine ⟨fun y hy => ?_, ?_⟩
  ·have hr0 := hF.nd.2.1.1
   simp only [Fm.more, List.mem_append, List.mem_cons] at hy
   rcases hy with hy | rfl | rfl | hy
   ·exact hr0 y (by simp [Fm.nd, hy])
   ·exact hr0 _ (by simp [Fm.nd])
   ·show rightE false _
    unfold rightE
    simp only [List.length_nil, Bool.false_eq_true, if_false]
    exact ⟨hxk, by omega, by omega, by omega, .inr trivial⟩
   ·exact hr0 y (by simp [Fm.nd, hy])
  ·have ha0 := hF.nd.2.1.2
   unfold Fm.nd at ha0
   simp only at ha0
   show Asc (f.L.map Ch.en ++ f.hole :: ⟨x.key, [], r⟩ :: f.R.map Ch.en)
   rw [Asc.append, Asc.cons] at ha0 ⊢
   rw [Asc.cons]
   refine ⟨ha0.1, ⟨fun y hy => ?_, fun y hy => ?_, ha0.2.1.2⟩, fun u hu y hy => ?_⟩
   ·rcases List.mem_cons.1 hy with rfl | hy
    ·exact k1
    ·exact ha0.2.1.1 y hy
   ·obtain ⟨c, hc, rfl⟩ := List.mem_map.1 hy
    exact k2 c hc
   ·rcases List.mem_cons.1 hy with rfl | hy
    ·exact ha0.2.2 u hu _ (by simp)
    ·rcases List.mem_cons.1 hy with rfl | hy
     ·exact blt_trans (ha0.2.2 u hu f.hole (by simp)) k1
     ·exact ha0.2.2 u hu y (by simp [hy])
 ·rw [perm_nd hperm]
  rw [pgsOf_cons, pgsOf_append, List.nodup_cons] at hnd
  rw [pgsOf_cons, pgsOf_cons, pgsOf_append, List.nodup_cons, List.nodup_cons, List.mem_cons]
  simp only [pgsOf_cons, pgsOf_append] at hnd hrn ⊢
  exact ⟨fun h => h.elim (fun e => hqr e.symm) hnd.1, hrn, hnd.2⟩
 ·rw [if_neg (by omega)]; omega
 ·have T1 := Turn.add (P := pgsOf ((f.hp, d, nB n.l) :: (pa ++ pb ++ (f.page, d + 1, nB f.nd.l) :: (chPs f.L ++ chPs f.R ++ ps')))) (v := some (pgOf b)) hr
  have T2 : Turn (upd m r (some (pgOf b))) _ (upd (upd m r (some (pgOf b))) f.hp (some (pgOf a))) _ := Turn.set_ (P := r :: pgsOf ((f.hp, d, nB n.l) :: (pa ++ pb ++ (f.page, d + 1, nB f.nd.l) :: (chPs f.L ++ chPs f.R ++ ps')))) (q := f.hp) (by simp)
  rw [hm2]
  refine (T1.trans T2).perm (fun _ => Iff.rfl) (fun z => ?_)
  rw [perm_mem hperm]
  simp only [pgsOf_cons, pgsOf_append, List.mem_cons, List.mem_append]
  exact ⟨fun h => h.elim (fun e => .inr (.inl e)) (fun h => h.elim .inl (fun h => .inr (.inr h))), fun h => h.elim (fun e => .inr (.inl e)) (fun h => h.elim .inl (fun h => .inr (.inr h)))⟩
 ·intro p
  rw [p.perm hperm]
  simp only [Pot.sum_cons, Pot.sum_append]
  have hmore := p.more f.page d (b := nB f.nd.l) (e := x.key.length + 7) (by omega)
  rw [← hnB] at hmore
  have g1 := p.h1
  cases d with
  | zero =>
   rw [p.leaf, p.leaf, p.leaf, if_pos rfl]
   simp only [Nat.zero_add] at hmore ⊢
   omega
  | succ d =>
   have g3 := p.h3 (d + 1) (by omega)
   have e1 : p.one (f.hp, d + 1, nB a.l) = p.A := by rw [p.inner, show nB a.l - 152 = 0 by have := Hai (by omega); omega]; rfl
   have e2 : p.one (r, d + 1, nB b.l) = p.A := by rw [p.inner, show nB b.l - 152 = 0 by have := Hbi (by omega); omega]; rfl
   have e0 : p.one (f.hp, d + 1, nB n.l) = p.A + p.c (d + 1) * (nB n.l - 152) := p.inner _ _ _
   rw [e1, e2, e0, if_neg (by omega)]
   have e3 := Nat.mul_le_mul_left (p.c (d + 1)) (show 72 ≤ nB n.l - 152 by omega)
   have e4 : 39 * p.c (d + 1 + 1) = p.c (d + 1 + 1) * 39 := Nat.mul_comm _ _
   have e5 : 72 * p.c (d + 1) = p.c (d + 1) * 72 := Nat.mul_comm _ _
   omega
def rootOf (x : En) (l r : Nat) : Nd := ⟨false, [⟨[], [], l⟩, ⟨x.key, [], r⟩]⟩
theorem SSt.root {m : Mp} {d q : Nat} {n : Nd} {E : List En} {ps : List PN} (h : SSt m d q n [] E ps) (hf : 223 < nB n.l) {i : Nat} (hh : HalfAt n.l i) :
  q = 0 ∧ ∃ x t, n.l.drop i = x :: t ∧ mayN ⟨n.leaf, n.l.take i⟩ ∧ nB (n.l.take i) ≤ 223 ∧ mayN (strip ⟨n.leaf, n.l.drop i⟩) ∧ nB (strip ⟨n.leaf, n.l.drop i⟩).l ≤ 223 ∧ strip ⟨n.leaf, n.l.take i⟩ = ⟨n.leaf, n.l.take i⟩ ∧
   ∀ l r, m l = none → upd m l (some (pgOf ⟨n.leaf, n.l.take i⟩)) r = none → l < 512 → r < 512 → mayN (rootOf x l r) ∧ nB (rootOf x l r).l ≤ 223 ∧
    ∃ ps', SDn m d d ps (upd (upd (upd m l (some (pgOf ⟨n.leaf, n.l.take i⟩))) r (some (pgOf (strip ⟨n.leaf, n.l.drop i⟩)))) 0 (some (pgOf (rootOf x l r)))) (d + 1) E ps' := by
 obtain ⟨⟨pre, post, es, ps0, psc, h1, h2, h3, h4, h5, rfl, rfl⟩, hm, hnd, hal, hb⟩ := h
 obtain ⟨x, t, ea, eb, pa, pb, H⟩ := h2.halved hm hb hh
 obtain ⟨rfl, rfl, rfl, rfl⟩ := h1
 obtain ⟨eL, hps⟩ := (⟨H.ees, H.eps⟩ : es = ea ++ eb ∧ ps0 = pa ++ pb)
 subst eL hps
 refine ⟨rfl, x, t, H.dr, H.am, H.ab, H.bm, H.bb, H.a.strip_eq, fun l r hl hr hl5 hr5 => ?_⟩
 obtain ⟨a, ha⟩ : ∃ a : Nd, a = ⟨n.leaf, n.l.take i⟩ := ⟨_, rfl⟩
 obtain ⟨b, hbd⟩ : ∃ b : Nd, b = strip ⟨n.leaf, n.l.drop i⟩ := ⟨_, rfl⟩
 have Ha := H.a
 have Hb := H.b
 have Ham := H.am
 have Hbm := H.bm
 have Hab := H.ab
 have Hbb := H.bb
 have Han := H.an
 have Hbn := H.bn
 have eab : nB (n.l.take i) = nB a.l := by rw [ha]
 have ean : n.l.take i = a.l := by rw [ha]
 rw [← ha] at Ha Ham hr ⊢
 rw [← hbd] at Hb Hbm Hbb Hbn ⊢
 rw [eab] at Hab
 rw [ean] at Han
 have hai : d ≠ 0 → nB a.l ≤ 152 := by rw [← eab]; exact H.ai
 have hbi : d ≠ 0 → nB b.l ≤ 152 := by rw [hbd]; exact H.bi
 obtain ⟨b0, hb0⟩ := hal
 have hl0 : l ≠ 0 := fun e => by rw [e] at hl; rw [hl] at hb0; cases hb0
 have hlr : r ≠ l := fun e => by rw [e, upd_same] at hr; cases hr
 rw [upd_ne _ _ hlr] at hr
 have hr0 : r ≠ 0 := fun e => by rw [e] at hr; rw [hr] at hb0; cases hb0
 have al : ∀ y ∈ pgsOf (pa ++ pb), ∃ b, m y = some b := by
  intro y hy
  obtain ⟨z, hz, rfl⟩ := List.mem_map.1 hy
  rcases List.mem_append.1 hz with hz | hz
  ·cases d with
   | zero => obtain ⟨_, rfl⟩ := Ha; simp at hz
   | succ d =>
    obtain ⟨cs, _, _, _, h9, _, rfl⟩ := Ha
    obtain ⟨c, hc, hz⟩ := mem_chPs.1 hz
    exact (h9 c hc).alloc z hz
  ·cases d with
   | zero => obtain ⟨_, rfl⟩ := Hb; simp at hz
   | succ d =>
    obtain ⟨cs, _, _, _, h9, _, rfl⟩ := Hb
    obtain ⟨c, hc, hz⟩ := mem_chPs.1 hz
    exact (h9 c hc).alloc z hz
 rw [List.append_nil, pgsOf_cons, List.nodup_cons] at hnd
 have hln : l ∉ pgsOf (pa ++ pb) := fun hy => by
  obtain ⟨b, hb⟩ := al l hy
  rw [hl] at hb; cases hb
 have hrn : r ∉ pgsOf (pa ++ pb) := fun hy => by
  obtain ⟨b, hb⟩ := al r hy
  rw [hr] at hb; cases hb
 obtain ⟨m3, hm3⟩ : ∃ m3, m3 = upd (upd (upd m l (some (pgOf a))) r (some (pgOf b))) 0 (some (pgOf (rootOf x l r))) := ⟨_, rfl⟩
 have m0 : m3 0 = some (pgOf (rootOf x l r)) := by rw [hm3, upd_same]
 have ml : m3 l = some (pgOf a) := by rw [hm3, upd_ne _ _ hl0, upd_ne _ _ (Ne.symm hlr), upd_same]
 have mr : m3 r = some (pgOf b) := by rw [hm3, upd_ne _ _ hr0, upd_same]
 have keep : ∀ z ∈ pa ++ pb, m3 z.1 = m z.1 := fun z hz => by
  have hz1 := mem_pgsOf hz
  have y0 : z.1 ≠ 0 := fun e => hnd.1 (by rw [e] at hz1; exact hz1)
  have y1 : z.1 ≠ r := fun e => hrn (by rw [← e]; exact hz1)
  have y2 : z.1 ≠ l := fun e => hln (by rw [← e]; exact hz1)
  rw [hm3, upd_ne _ _ y0, upd_ne _ _ y1, upd_ne _ _ y2]
 have hxk := H.xk
 obtain ⟨ya, hya⟩ := List.exists_mem_of_ne_nil _ H.nea
 have hpos : ([] : Bs) < x.key := blt_nil (H.lt ya hya)
 have hmay : mayN (rootOf x l r) := by
  refine ⟨fun y hy => ?_, ?_⟩
  ·simp only [rootOf, List.mem_cons, List.not_mem_nil, or_false] at hy
   rcases hy with rfl | rfl
   ·unfold rightE rootOf
    simp only [List.length_nil, Bool.false_eq_true, if_false]
    exact ⟨by omega, by omega, by omega, by omega, .inr trivial⟩
   ·unfold rightE rootOf
    simp only [List.length_nil, Bool.false_eq_true, if_false]
    exact ⟨hxk, by omega, by omega, by omega, .inr trivial⟩
  ·show Asc [_, _]
   rw [Asc.cons, Asc.cons]
   exact ⟨fun y hy => by simp at hy; subst hy; exact hpos, fun y hy => by simp at hy, List.Pairwise.nil⟩
 have hnb : nB (rootOf x l r).l = x.key.length + 14 := by simp [rootOf, enB]; omega
 rw [← hm3]
 have Ra : Rep m3 d l ea ((l, d, nB a.l) :: pa) := rep_iff.2 ⟨a, pa, ⟨ml, Ham, Hab⟩, Ha.congr fun z hz => keep z (by simp [hz]), fun _ => Han, rfl⟩
 have Rb : Rep m3 d r eb ((r, d, nB b.l) :: pb) := rep_iff.2 ⟨b, pb, ⟨mr, Hbm, Hbb⟩, Hb.congr fun z hz => keep z (by simp [hz]), fun _ => Hbn, rfl⟩
 have hperm : ((0, d + 1, nB (rootOf x l r).l) :: (((l, d, nB a.l) :: pa) ++ ((r, d, nB b.l) :: pb))).Perm ((0, d + 1, nB (rootOf x l r).l) :: (l, d, nB a.l) :: (r, d, nB b.l) :: (pa ++ pb)) := by
  rw [List.perm_iff_count]
  intro z
  simp only [List.count_cons, List.count_append, List.cons_append]
  omega
 refine ⟨hmay, by omega, (0, d + 1, nB (rootOf x l r).l) :: (((l, d, nB a.l) :: pa) ++ ((r, d, nB b.l) :: pb)), ?_, ?_, ?_, ?_, ?_⟩
 ·refine ⟨[⟨[], l, ea, (l, d, nB a.l) :: pa⟩, ⟨x.key, r, eb, (r, d, nB b.l) :: pb⟩], by simp, fun c hc => by simp at hc; subst hc; rfl, ⟨m0, hmay, by show nB (rootOf x l r).l ≤ 223; omega⟩, ⟨fun c hc => ?_, ?_⟩, fun c hc => ?_, by simp, by simp [rootOf, Ch.en]⟩
  ·simp only [List.mem_cons, List.not_mem_nil, or_false] at hc
   rcases hc with rfl | rfl
   ·exact ⟨H.nea, fun z _ => nil_ble _⟩
   ·exact ⟨H.neb, H.le⟩
  ·rw [List.pairwise_cons]
   exact ⟨fun c hc z hz => by simp at hc; subst hc; exact H.lt z hz, by simp⟩
  ·simp only [List.mem_cons, List.not_mem_nil, or_false] at hc
   rcases hc with rfl | rfl
   ·exact Ra
   ·exact Rb
 ·rw [perm_nd hperm]
  simp only [pgsOf_cons, List.nodup_cons, List.mem_cons]
  exact ⟨fun h => h.elim (fun e => hl0 e.symm) (fun h => h.elim (fun e => hr0 e.symm) hnd.1), fun h => h.elim (fun e => hlr e.symm) hln, hrn, hnd.2⟩
 ·have T1 := Turn.add (P := pgsOf ((0, d, nB n.l) :: (pa ++ pb))) (v := some (pgOf a)) hl
  have T2 := Turn.add (m := upd m l (some (pgOf a))) (P := l :: pgsOf ((0, d, nB n.l) :: (pa ++ pb))) (v := some (pgOf b)) (q := r) (by rw [upd_ne _ _ hlr]; exact hr)
  have T3 := Turn.set_ (m := upd (upd m l (some (pgOf a))) r (some (pgOf b))) (P := r :: l :: pgsOf ((0, d, nB n.l) :: (pa ++ pb))) (q := 0) (v := some (pgOf (rootOf x l r))) (by simp)
  rw [hm3]
  refine ((T1.trans T2).trans T3).perm (fun z => by simp) (fun z => ?_)
  rw [perm_mem hperm]
  simp only [pgsOf_cons, pgsOf_append, List.mem_cons, List.mem_append]
  exact ⟨fun h => h.elim (fun e => .inr (.inr (.inl e))) (fun h => h.elim (fun e => .inr (.inl e)) (fun h => h.elim .inl (fun h => .inr (.inr (.inr h))))), fun h => h.elim (fun e => .inr (.inr (.inl e))) (fun h => h.elim (fun e => .inr (.inl e)) (fun h => h.elim .inl (fun h => .inr (.inr (.inr h)))))⟩
 ·intro p
  rw [p.perm hperm]
  simp only [Pot.sum_cons, Pot.sum_append, List.append_nil]
  have er : p.one (0, d + 1, nB (rootOf x l r).l) = p.A := by rw [p.inner, show nB (rootOf x l r).l - 152 = 0 by omega]; rfl
  rw [er]
  have g2 := p.h2
  cases d with
  | zero =>
   rw [p.leaf, p.leaf, p.leaf, if_pos rfl]
   omega
  | succ d =>
   have g4 := p.h4 (d + 1) (by omega)
   have e1 : p.one (l, d + 1, nB a.l) = p.A := by rw [p.inner, show nB a.l - 152 = 0 by have := hai (by omega); omega]; rfl
   have e2 : p.one (r, d + 1, nB b.l) = p.A := by rw [p.inner, show nB b.l - 152 = 0 by have := hbi (by omega); omega]; rfl
   have e0 : p.one (0, d + 1, nB n.l) = p.A + p.c (d + 1) * (nB n.l - 152) := p.inner _ _ _
   rw [e1, e2, e0, if_neg (by omega)]
   have e3 := Nat.mul_le_mul_left (p.c (d + 1)) (show 72 ≤ nB n.l - 152 by omega)
   have e5 : 72 * p.c (d + 1) = p.c (d + 1) * 72 := Nat.mul_comm _ _
   omega
 ·refine .inr ⟨rfl, ?_⟩
  cases d with
  | zero => exact .inl rfl
  | succ d =>
   refine .inr fun p => ?_
   simp only [Pot.sum_cons]
   rw [p.inner]
   have e3 := Nat.mul_le_mul_left (p.c (d + 1)) (show 72 ≤ nB n.l - 152 by omega)
   have e5 : 72 * p.c (d + 1) = p.c (d + 1) * 72 := Nat.mul_comm _ _
   omega
end
section
structure KSt (m : Mp) (d q : Nat) (n : Nd) (up : List Fm) (E : List En) (ps : List PN) : Prop where
 x : ∃ pre post es ps0 psc, Ctx m d q up pre post psc ∧ NodeOk m d (strip n) es ps0 ∧ (∀ x ∈ es, InB up x.key) ∧ E = pre ++ es ++ post ∧ ps = (q, d, nB n.l) :: (ps0 ++ psc)
 may : mayN n
 nd : (pgsOf ps).Nodup
 al : ∃ b, m q = some b
 big : nB n.l ≤ 223
structure KDn (m : Mp) (h : Nat) (ps : List PN) (m' : Mp) (D : Nat) (E : List En) (ps' : List PN) : Prop where
 rep : Rep m' D 0 E ps'
 nd : (pgsOf ps').Nodup
 turn : Turn m (pgsOf ps) m' (pgsOf ps')
 pot : ∀ p : Pot, p.sum ps' ≤ p.sum ps
 dep : D ≤ h
theorem KDn.after {m m1 m' : Mp} {h h1 D : Nat} {ps ps1 ps' : List PN} {E : List En} (k : KDn m1 h1 ps1 m' D E ps') (t : Turn m (pgsOf ps) m1 (pgsOf ps1)) (hp : ∀ p : Pot, p.sum ps1 ≤ p.sum ps) (hh : h1 ≤ h) : KDn m h ps m' D E ps' :=
 ⟨k.rep, k.nd, t.trans k.turn, fun p => Nat.le_trans (k.pot p) (hp p), Nat.le_trans k.dep hh⟩
theorem SDn.after {m m1 m' : Mp} {d h D : Nat} {ps ps1 ps' : List PN} {E : List En} (k : SDn m1 (d + 1) h ps1 m' D E ps') (t : Turn m (pgsOf ps) m1 (pgsOf ps1)) (hp : ∀ p : Pot, p.sum ps1 ≤ p.sum ps + if d = 0 then p.R else 0) : SDn m d h ps m' D E ps' := by
 refine ⟨k.rep, k.nd, t.trans k.turn, fun p => ?_, ?_⟩
 ·have h1 := k.pot p
  have h2 := hp p
  rw [if_neg (by omega)] at h1
  omega
 ·rcases k.dep with h1 | ⟨h1, h2⟩
  ·exact .inl h1
  ·refine .inr ⟨h1, h2.imp id fun h2 p => ?_⟩
   have h3 := h2 p
   have h4 := hp p
   rw [if_neg (by omega)] at h3
   omega
theorem strip_l_nil {n : Nd} : (strip n).l = [] ↔ n.l = [] := by
 obtain ⟨leaf, l⟩ := n
 cases leaf with
 | true => exact Iff.rfl
 | false => cases l with
  | nil => exact Iff.rfl
  | cons x t => rw [strip_inner]; simp
theorem NodeOk.nil {m : Mp} {d : Nat} {n : Nd} {es : List En} {ps0 : List PN} (h : NodeOk m d n es ps0) (hn : n.l = []) : es = [] ∧ ps0 = [] := by
 cases d with
 | zero =>
  obtain ⟨rfl, rfl⟩ := h
  exact ⟨hn, rfl⟩
 | succ d =>
  obtain ⟨cs, rfl, _, _, _, rfl, rfl⟩ := h
  have : cs = [] := by simpa using hn
  subst this
  exact ⟨rfl, rfl⟩
theorem NodeOk.ne_nil {m : Mp} {d : Nat} {n : Nd} {es : List En} {ps0 : List PN} (h : NodeOk m d n es ps0) (hn : n.l ≠ []) : es ≠ [] := by
 cases d with
 | zero =>
  obtain ⟨rfl, rfl⟩ := h
  exact hn
 | succ d =>
  obtain ⟨cs, rfl, _, h2, _, rfl, rfl⟩ := h
  cases cs with
  | nil => simp at hn
  | cons c t => simp [(h2.1 c (by simp)).1]
theorem KSt.write {m : Mp} {d q : Nat} {n : Nd} {up : List Fm} {E : List En} {ps : List PN} (h : KSt m d q n up E ps) (hn : n.l ≠ [] ∨ (up = [] ∧ d = 0)) :
  mayN (strip n) ∧ nB (strip n).l ≤ 223 ∧ ∃ ps', KDn m (d + up.length) ps (upd m q (some (pgOf (strip n)))) (d + up.length) E ps' := by
 obtain ⟨⟨pre, post, es, ps0, psc, h1, h2, h5, rfl, rfl⟩, hm, hnd, hal, hb⟩ := h
 have hsb := nB_strip n
 have hq : ∀ x ∈ ps0 ++ psc, x.1 ≠ q := fun x hx e => by
  rw [pgsOf_cons, List.nodup_cons] at hnd
  have hx2 := mem_pgsOf hx
  rw [e] at hx2
  exact hnd.1 hx2
 have hr : Rep (upd m q (some (pgOf (strip n)))) d q es ((q, d, nB (strip n).l) :: ps0) := rep_iff.2 ⟨strip n, ps0, ⟨upd_same _ _ _, mayN_strip hm, by omega⟩, h2.congr (fun x hx => upd_ne _ _ (hq x (by simp [hx]))), fun hd => by
  rw [Ne, strip_l_nil]
  exact hn.elim id (fun h => absurd h.2 hd), rfl⟩
 have hc : Ctx (upd m q (some (pgOf (strip n)))) d q up pre post psc := h1.congr (fun x hx => upd_ne _ _ (hq x (by simp [hx])))
 obtain ⟨ps1, h6, h7⟩ := hc.fill hr (hn.imp (fun hn => h2.ne_nil (by rw [Ne, strip_l_nil]; exact hn)) (fun h => h.1)) h5
 refine ⟨mayN_strip hm, by omega, ps1, h6, (perm_nd h7).2 hnd, ?_, fun p => ?_, Nat.le_refl _⟩
 ·exact (Turn.set_ (by simp)).perm (fun r => Iff.rfl) (fun r => perm_mem h7 r)
 ·rw [p.perm h7]
  have := p.mono q q d hsb
  simp only [Pot.sum_cons, Pot.sum_append, List.cons_append]
  omega
def Fm.less (f : Fm) : Nd := ⟨false, f.L.map Ch.en ++ f.R.map Ch.en⟩
theorem KSt.drop_ {m : Mp} {d q : Nat} {n : Nd} {f : Fm} {up : List Fm} {E : List En} {ps : List PN} (h : KSt m d q n (f :: up) E ps) (hn : n.l = []) :
  q = f.hp ∧ ∃ ps1, KSt (upd m q none) (d + 1) f.page f.less up E ps1 ∧ Turn m (pgsOf ps) (upd m q none) (pgsOf ps1) ∧ ∀ p : Pot, p.sum ps1 ≤ p.sum ps := by
 obtain ⟨⟨pre, post, es, ps0, psc, h1, h2, h5, rfl, rfl⟩, hm, hnd, hal, hb⟩ := h
 obtain ⟨rfl, rfl⟩ := h2.nil (strip_l_nil.2 hn)
 obtain ⟨rfl, hF, pre', post', ps', hC, rfl, rfl, rfl⟩ := h1
 have hq : ∀ x ∈ chPs f.L ++ chPs f.R ++ ps', x.1 ≠ f.hp := fun x hx e => by
  rw [pgsOf_cons, List.nodup_cons] at hnd
  exact hnd.1 (by
   have := mem_pgsOf hx
   rw [e] at this
   simp only [List.nil_append, pgsOf_cons, List.mem_cons]
   exact .inr this)
 have hqf : f.page ≠ f.hp := fun e => by
  rw [pgsOf_cons, List.nodup_cons] at hnd
  exact hnd.1 (by simp [e])
 have hF2 : FmOk (upd m f.hp none) d f up := hF.congr (upd_ne _ _ hqf) (fun c hc z hz => upd_ne _ _ (hq z (by
  have : z ∈ chPs (f.L ++ f.R) := mem_chPs.2 ⟨c, hc, hz⟩
  rw [chPs_append] at this
  exact List.mem_append_left _ this)))
 have hC2 : Ctx (upd m f.hp none) (d + 1) f.page up pre' post' ps' := hC.congr (fun z hz => upd_ne _ _ (hq z (by simp [hz])))
 have hsub : (f.L.map Ch.en ++ f.R.map Ch.en).Sublist f.nd.l := by
  unfold Fm.nd
  exact List.Sublist.append (List.Sublist.refl _) (List.sublist_cons_self _ _)
 have hless : f.less = ⟨false, (f.L ++ f.R).map Ch.en⟩ := by simp [Fm.less]
 have hnb : nB f.less.l ≤ nB f.nd.l := by simp [Fm.less, Fm.nd]
 refine ⟨rfl, (f.page, d + 1, nB f.less.l) :: (chPs (f.L ++ f.R) ++ ps'), ⟨⟨pre', post', chEs (f.L ++ f.R), chPs (f.L ++ f.R), ps', hC2, ⟨unkey (f.L ++ f.R), by rw [hless, strip_map], unkey_first _, unkey_ok hF2.ok, unkey_rep hF2.ch, (unkey_es _).symm, (unkey_ps _).symm⟩, ?_, by simp, rfl⟩, ?_, ?_, ⟨_, hF2.nd.1⟩, by have := hF.nd.2.2; omega⟩, ?_, fun p => ?_⟩
 ·intro x hx
  obtain ⟨c, hc, hx⟩ := mem_chEs.1 hx
  exact hF.inb c hc x hx
 ·exact mayN_sub hF.nd.2.1 hsub
 ·rw [pgsOf_cons, List.nodup_cons] at hnd
  simp only [List.nil_append, pgsOf_cons, pgsOf_append, chPs_append] at hnd ⊢
  exact hnd.2
 ·have T := Turn.del (m := m) (q := f.hp) (P := f.page :: (pgsOf (chPs f.L) ++ pgsOf (chPs f.R) ++ pgsOf ps'))
  refine T.perm (fun z => by simp) (fun z => by simp)
 ·have := p.mono f.page f.page (d + 1) hnb
  simp only [Pot.sum_cons, Pot.sum_append, List.nil_append, chPs_append]
  omega
theorem KSt.pull {m : Mp} {d q : Nat} {n : Nd} {x : En} {E : List En} {ps : List PN} (h : KSt m (d + 1) q n [] E ps) (hn : n.l = [x]) :
  ∃ (c : Nat) (n2 : Nd), x.far = c ∧ NdAt m c n2 ∧ ∃ ps1, KSt (upd m c none) d q n2 [] E ps1 ∧ Turn m (pgsOf ps) (upd m c none) (pgsOf ps1) ∧ ∀ p : Pot, p.sum ps1 ≤ p.sum ps := by
 obtain ⟨⟨pre, post, es, ps0, psc, h1, h2, h5, rfl, rfl⟩, hm, hnd, hal, hb⟩ := h
 obtain ⟨rfl, rfl, rfl, rfl⟩ := h1
 obtain ⟨cs, e, _, _, h3, rfl, rfl⟩ := h2
 have hlf : n.leaf = false := by
  have := congrArg Nd.leaf e
  rwa [strip_leaf_eq] at this
 obtain ⟨c, hc, hfar⟩ : ∃ c : Ch, cs = [c] ∧ x.far = c.page := by
  obtain ⟨leaf, l⟩ := n
  simp only at hlf hn
  subst hlf hn
  rw [strip_inner] at e
  have e2 := congrArg Nd.l e
  simp only at e2
  cases cs with
  | nil => simp at e2
  | cons c t =>
   simp only [List.map_cons, List.cons.injEq] at e2
   have : t = [] := by simpa using e2.2.symm
   subst this
   exact ⟨c, rfl, by have := congrArg En.far e2.1; exact this⟩
 subst hc
 have hr := h3 c (by simp)
 obtain ⟨n2, ps2, g1, g2, _, g4⟩ := rep_iff.1 hr
 have hst := g2.strip_eq
 simp only [chPs_cons, chPs_nil, List.append_nil] at hnd ⊢
 rw [g4, pgsOf_cons, pgsOf_cons, List.nodup_cons, List.nodup_cons] at hnd
 have hqc : (0 : Nat) ≠ c.page := fun e => hnd.1 (by simp [e])
 refine ⟨c.page, n2, hfar, g1, (0, d, nB n2.l) :: (ps2 ++ []), ⟨⟨[], [], c.es, ps2, [], ⟨rfl, rfl, rfl, rfl⟩, by rw [hst]; exact g2.congr (fun z hz => upd_ne _ _ (fun e => hnd.2.1 (by have hz1 := mem_pgsOf hz; rw [e] at hz1; exact hz1))), fun x _ f hf => by simp at hf, by simp, rfl⟩, g1.2.1, ?_, ?_, g1.2.2⟩, ?_, fun p => ?_⟩
 ·simp only [List.append_nil, pgsOf_cons, List.nodup_cons]
  exact ⟨fun hx => hnd.1 (by simp [hx]), hnd.2.2⟩
 ·obtain ⟨b, hb⟩ := hal
  exact ⟨b, by rw [upd_ne _ _ hqc]; exact hb⟩
 ·have T := Turn.del (m := m) (q := c.page) (P := 0 :: pgsOf ps2)
  refine T.perm (fun z => ?_) (fun z => by simp)
  rw [g4]
  simp only [pgsOf_cons, List.mem_cons]
  exact ⟨fun h => h.elim (fun e => .inr (.inl e)) (fun h => h.elim .inl (fun h => .inr (.inr h))), fun h => h.elim (fun e => .inr (.inl e)) (fun h => h.elim .inl (fun h => .inr (.inr h)))⟩
 ·rw [g4]
  simp only [Pot.sum_cons, Pot.sum_append, List.append_nil]
  have := p.mono 0 c.page d (Nat.le_refl (nB n2.l))
  omega
theorem KSt.bare {m : Mp} {d q : Nat} {n : Nd} {E : List En} {ps : List PN} (h : KSt m d q n [] E ps) (hn : n.l = []) :
  q = 0 ∧ ∃ ps', KDn m d ps (upd m q (some (pgOf ⟨true, []⟩))) 0 E ps' := by
 obtain ⟨⟨pre, post, es, ps0, psc, h1, h2, h5, rfl, rfl⟩, hm, hnd, hal, hb⟩ := h
 obtain ⟨rfl, rfl⟩ := h2.nil (strip_l_nil.2 hn)
 obtain ⟨rfl, rfl, rfl, rfl⟩ := h1
 refine ⟨rfl, [(0, 0, 0)], ⟨⟨upd_same _ _ _, ⟨by simp, List.Pairwise.nil⟩, by simp⟩, rfl⟩, by simp [pgsOf], ?_, fun p => ?_, Nat.zero_le _⟩
 ·exact (Turn.set_ (by simp)).perm (fun r => Iff.rfl) (fun r => by simp)
 ·rw [hn]
  simp only [Pot.sum_cons, Pot.sum_append, List.append_nil, Pot.sum_nil]
  rw [p.leaf]
  unfold Pot.one
  omega
theorem Ctx.sides {m : Mp} : ∀ {up : List Fm} {d q : Nat} {pre post : List En} {ps : List PN}, Ctx m d q up pre post ps → ∀ {k : Bs}, InB up k → (∀ x ∈ pre, x.key < k) ∧ ∀ x ∈ post, k < x.key
 | [], _, _, _, _, _, ⟨_, h1, h2, _⟩, _, _ => by subst h1 h2; simp
 | f :: up, d, q, pre, post, ps, ⟨h0, h1, pre', post', ps', h2, h3, h4, h5⟩, k, hk => by
  subst h3 h4
  obtain ⟨ha, hb⟩ := h2.sides (InB.cons.1 hk).2
  obtain ⟨hl, hr⟩ := (InB.cons.1 hk).1
  refine ⟨fun x hx => ?_, fun x hx => ?_⟩
  ·rcases List.mem_append.1 hx with hx | hx
   ·exact ha x hx
   ·obtain ⟨c, hc, hx⟩ := mem_chEs.1 hx
    exact blt_of_lt_of_le (h1.lk c hc x hx) hl
  ·rcases List.mem_append.1 hx with hx | hx
   ·obtain ⟨c, hc, hx⟩ := mem_chEs.1 hx
    exact blt_of_lt_of_le (hr c hc) ((h1.ok.1 c (by simp [hc])).2 x hx)
   ·exact hb x hx
end
section
open Go.RowKit Go.Lib
def enC (x : En) : List Value := [.string (S x.key), .string (S x.val), .int .i64 x.far]
theorem enC_len (x : En) : (enC x).length = 3 := rfl
theorem enC_one (x : En) : ∀ u ∈ enC x, u.oneCell' = true := by
 intro u hu
 simp [enC] at hu
 rcases hu with rfl | rfl | rfl <;> rfl
theorem infEn : (Tryz.prog.info? 299).map (fun i => (i.zero, i.size, i.bytes)) = some (some (.agg #[.string ⟨#[]⟩, .string ⟨#[]⟩, .int .i64 0]), 3, 40) := by kernel_rfl
def EnAt (w : World) (g o : Nat) (l : List En) : Prop := ∀ (j : Nat) x, l[j]? = some x → w.cell? ⟨g, o + j * 3, none⟩ = some (.string (S x.key)) ∧ w.cell? ⟨g, o + j * 3 + 1, none⟩ = some (.string (S x.val)) ∧ w.cell? ⟨g, o + j * 3 + 2, none⟩ = some (.int .i64 x.far)
structure EnI (w : World) (v : Value) (l : List En) : Prop where
 x : ∃ ao c, v = .slice ao l.length c ∧ l.length ≤ c ∧ (∀ g o, ao = some ⟨g, o, none⟩ → g < w.heap.size ∧ EnAt w g o l) ∧ (l ≠ [] → ∃ g o, ao = some ⟨g, o, none⟩)
theorem EnI.of_block {w w' : World} {v : Value} {l : List En} (h : EnI w v l) (e : ∀ g, g < w.heap.size → v.ownBlock = some g → w'.heap[g]? = w.heap[g]?) : EnI w' v l := by
 obtain ⟨ao, c, rfl, h1, h2, h3⟩ := h
 refine ⟨ao, c, rfl, h1, fun g o ha => ?_, h3⟩
 subst ha
 obtain ⟨h4, h5⟩ := h2 g o rfl
 have e1 := e g h4 rfl
 refine ⟨lt_of_block (e1.trans (Array.getElem?_eq_getElem h4)), fun j x hx => ?_⟩
 obtain ⟨a, b, c⟩ := h5 j x hx
 exact ⟨(World.cell?_of_block (a := ⟨g, _, none⟩) e1).trans a, (World.cell?_of_block (a := ⟨g, _, none⟩) e1).trans b, (World.cell?_of_block (a := ⟨g, _, none⟩) e1).trans c⟩
theorem EnI.below {w w' : World} {v : Value} {l : List En} (h : EnI w v l) (hb : Below w.heap.size w w') : EnI w' v l := h.of_block fun g hg _ => hb.block g hg
theorem EnI.kp {w w' : World} {O : List Nat} {v : Value} {l : List En} (h : EnI w v l) (hk : Kp O w w') (ho : ∀ g, v.ownBlock = some g → g ∉ O) : EnI w' v l := h.of_block fun g hg hv => hk.block g hg (ho g hv)
theorem EnI.form {w : World} {v : Value} {l : List En} (h : EnI w v l) (hl : l ≠ []) : ∃ g o c, v = .slice (some ⟨g, o, none⟩) l.length c ∧ l.length ≤ c ∧ g < w.heap.size ∧ EnAt w g o l := by
 obtain ⟨ao, c, rfl, h1, h2, h3⟩ := h
 obtain ⟨g, o, rfl⟩ := h3 hl
 exact ⟨g, o, c, rfl, h1, h2 g o rfl⟩
theorem EnI.slice {w : World} {v : Value} {l : List En} (h : EnI w v l) : ∃ ao c, v = .slice ao l.length c := by
 obtain ⟨ao, c, rfl, _⟩ := h
 exact ⟨ao, c, rfl⟩
theorem EnI.of_own {w : World} {B : Nat} {v : Value} {l : List En} (h : w.ownsRow B 299 3 v l.length (rowV enC l)) : EnI w v l := by
 rcases h.2 with ⟨rfl, h0⟩ | ⟨g, c, cur, rfl, h1, h2, h3, _⟩
 ·have : l = [] := List.eq_nil_of_length_eq_zero h0
  subst this
  exact ⟨none, 0, rfl, by simp, fun g o e => (by cases e), fun e => absurd rfl e⟩
 ·refine ⟨some ⟨g, 0, none⟩, c, rfl, h3, fun g' o' e => ?_, fun _ => ⟨g, 0, rfl⟩⟩
  injection e with e
  injection e with e1 e2 _
  subst e1 e2
  refine ⟨(Array.getElem?_eq_some_iff.1 h2).1, fun j x hx => ⟨?_, ?_, ?_⟩⟩
  ·rw [Nat.zero_add]
   exact own_at h rfl (j := j * 3) (by rw [show j * 3 = j * 3 + 0 from rfl, rowV_get enC_len _ j x hx 0 (by omega)]; rfl)
  ·rw [Nat.zero_add]
   exact own_at h rfl (j := j * 3 + 1) (by rw [rowV_get enC_len _ j x hx 1 (by omega)]; rfl)
  ·rw [Nat.zero_add]
   exact own_at h rfl (j := j * 3 + 2) (by rw [rowV_get enC_len _ j x hx 2 (by omega)]; rfl)
def ndV (leaf : Bool) (v : Value) : Value := .agg #[.bool leaf, v]
theorem right_any (w : World) (x : En) (leaf : Bool) (h : rightE leaf x) :
  Calls Tryz.prog 238 #[.agg #[.string (S x.key), .string (S x.val), .int .i64 x.far], .bool leaf] w fun e w' => e = .returned (.bool true) ∧ Below w.heap.size w w' := by
 obtain ⟨h1, h2, h3, h4, h5⟩ := h
 have i1 : (x.key.length : Int) ≤ 32 := by omega
 have i2 : (x.val.length : Int) ≤ 40 := by omega
 have HV := hid h5
 clear h5
 cases leaf with
 | true =>
  have i3 : (-1 : Int) ≤ x.far := by simpa using h3
  clear h3
  go_enter Tryz.func238, Tryz.ntmps238
  by_cases h0 : x.far < 0
  ·go_wp2
   go_ret
   exact ⟨rfl, (Below.refl _ w).alloc (Nat.le_refl _) _⟩
  ·have hv : x.val = [] := HV.out.resolve_left h0
   rw [hv]
   go_wp2
   go_ret
   exact ⟨rfl, (Below.refl _ w).alloc (Nat.le_refl _) _⟩
 | false =>
  have i3 : (0 : Int) ≤ x.far := by simpa using h3
  have h0 : ¬ x.far < 0 := by omega
  have hv : x.val = [] := HV.out.resolve_left h0
  rw [hv]
  clear h3
  go_enter Tryz.func238, Tryz.ntmps238
  go_wp2
  go_ret
  exact ⟨rfl, (Below.refl _ w).alloc (Nat.le_refl _) _⟩
end
end Go.Proofs.YtnnghcooidjlhaaGreat
