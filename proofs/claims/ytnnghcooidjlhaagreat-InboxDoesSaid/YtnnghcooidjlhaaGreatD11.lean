/- Parts of the proof: Nb Nc Nd. -/
import Derived.Test.YtnnghcooidjlhaaGreatD10
set_option linter.all false
set_option maxRecDepth 100000
namespace Go.Proofs.YtnnghcooidjlhaaGreat
section
abbrev Mp := Nat → Option Bs
def pgOf (n : Nd) : Bs := lay (recs n)
def NdAt (m : Mp) (q : Nat) (n : Nd) : Prop := m q = some (pgOf n) ∧ mayN n ∧ nB n.l ≤ 223
theorem NdAt.congr {m m' : Mp} {q : Nat} {n : Nd} (h : NdAt m q n) (e : m' q = m q) : NdAt m' q n := ⟨e.trans h.1, h.2⟩
abbrev PN := Nat × Nat × Nat
structure Ch where
 key : Bs
 page : Nat
 es : List En
 ps : List PN
def Ch.en (c : Ch) : En := ⟨c.key, [], c.page⟩
def chEs (cs : List Ch) : List En := cs.flatMap Ch.es
def chPs (cs : List Ch) : List PN := cs.flatMap Ch.ps
@[simp] theorem chEs_nil : chEs [] = [] := rfl
@[simp] theorem chEs_cons (c : Ch) (cs : List Ch) : chEs (c :: cs) = c.es ++ chEs cs := rfl
@[simp] theorem chEs_append (a b : List Ch) : chEs (a ++ b) = chEs a ++ chEs b := by simp [chEs]
@[simp] theorem chPs_nil : chPs [] = [] := rfl
@[simp] theorem chPs_cons (c : Ch) (cs : List Ch) : chPs (c :: cs) = c.ps ++ chPs cs := rfl
@[simp] theorem chPs_append (a b : List Ch) : chPs (a ++ b) = chPs a ++ chPs b := by simp [chPs]
theorem mem_chEs {cs : List Ch} {x : En} : x ∈ chEs cs ↔ ∃ c ∈ cs, x ∈ c.es := by simp [chEs]
theorem mem_chPs {cs : List Ch} {x : PN} : x ∈ chPs cs ↔ ∃ c ∈ cs, x ∈ c.ps := by simp [chPs]
def ChOk (cs : List Ch) : Prop := (∀ c ∈ cs, c.es ≠ [] ∧ ∀ x ∈ c.es, c.key ≤ x.key) ∧ cs.Pairwise fun a b => ∀ x ∈ a.es, x.key < b.key
def FirstE (cs : List Ch) : Prop := ∀ c, cs.head? = some c → c.key = []
def Rep (m : Mp) : Nat → Nat → List En → List PN → Prop
 | 0, q, es, ps => NdAt m q ⟨true, es⟩ ∧ ps = [(q, 0, nB es)]
 | d + 1, q, es, ps => ∃ cs : List Ch, cs ≠ [] ∧ FirstE cs ∧ NdAt m q ⟨false, cs.map Ch.en⟩ ∧ ChOk cs ∧ (∀ c ∈ cs, Rep m d c.page c.es c.ps) ∧ es = chEs cs ∧ ps = (q, d + 1, nB (cs.map Ch.en)) :: chPs cs
def NodeOk (m : Mp) : Nat → Nd → List En → List PN → Prop
 | 0, n, es, ps => n = ⟨true, es⟩ ∧ ps = []
 | d + 1, n, es, ps => ∃ cs : List Ch, n = ⟨false, cs.map Ch.en⟩ ∧ FirstE cs ∧ ChOk cs ∧ (∀ c ∈ cs, Rep m d c.page c.es c.ps) ∧ es = chEs cs ∧ ps = chPs cs
theorem rep_iff {m : Mp} {d q : Nat} {es : List En} {ps : List PN} : Rep m d q es ps ↔ ∃ n ps0, NdAt m q n ∧ NodeOk m d n es ps0 ∧ (d ≠ 0 → n.l ≠ []) ∧ ps = (q, d, nB n.l) :: ps0 := by
 cases d with
 | zero =>
  constructor
  ·rintro ⟨h1, rfl⟩
   exact ⟨_, [], h1, ⟨rfl, rfl⟩, by simp, rfl⟩
  ·rintro ⟨n, ps0, h1, ⟨rfl, rfl⟩, _, rfl⟩
   exact ⟨h1, rfl⟩
 | succ d =>
  constructor
  ·rintro ⟨cs, h0, h1, h2, h3, h4, rfl, rfl⟩
   exact ⟨_, chPs cs, h2, ⟨cs, rfl, h1, h3, h4, rfl, rfl⟩, fun _ => by simpa using h0, rfl⟩
  ·rintro ⟨n, ps0, h2, ⟨cs, rfl, h1, h3, h4, rfl, rfl⟩, hne, rfl⟩
   exact ⟨cs, by simpa using hne (by simp), h1, h2, h3, h4, rfl, rfl⟩
theorem Rep.congr {m m' : Mp} : ∀ {d q : Nat} {es : List En} {ps : List PN}, Rep m d q es ps → (∀ x ∈ ps, m' x.1 = m x.1) → Rep m' d q es ps
 | 0, q, es, ps, ⟨h1, h2⟩, e => ⟨h1.congr (e (q, 0, nB es) (by rw [h2]; simp)), h2⟩
 | d + 1, q, es, ps, ⟨cs, h0, h1, h2, h3, h4, h5, h6⟩, e => ⟨cs, h0, h1, h2.congr (e (q, d + 1, nB (cs.map Ch.en)) (by rw [h6]; simp)), h3, fun c hc => (h4 c hc).congr fun x hx => e x (by rw [h6]; simp [mem_chPs]; exact .inr ⟨c, hc, hx⟩), h5, h6⟩
theorem NodeOk.congr {m m' : Mp} {d : Nat} {n : Nd} {es : List En} {ps : List PN} (h : NodeOk m d n es ps) (e : ∀ x ∈ ps, m' x.1 = m x.1) : NodeOk m' d n es ps := by
 cases d with
 | zero => exact h
 | succ d =>
  obtain ⟨cs, h0, h1, h2, h3, h4, h5⟩ := h
  exact ⟨cs, h0, h1, h2, fun c hc => (h3 c hc).congr fun x hx => e x (by rw [h5, mem_chPs]; exact ⟨c, hc, hx⟩), h4, h5⟩
theorem Rep.head {m : Mp} {d q : Nat} {es : List En} {ps : List PN} (h : Rep m d q es ps) : ∃ b t, ps = (q, d, b) :: t := by
 obtain ⟨n, ps0, _, _, _, rfl⟩ := rep_iff.1 h
 exact ⟨_, _, rfl⟩
theorem Rep.alloc {m : Mp} : ∀ {d q : Nat} {es : List En} {ps : List PN}, Rep m d q es ps → ∀ x ∈ ps, ∃ b, m x.1 = some b
 | 0, q, es, ps, ⟨h1, h2⟩ => by
  subst h2
  intro x hx
  simp at hx
  subst hx
  exact ⟨_, h1.1⟩
 | d + 1, q, es, ps, ⟨cs, h0, h1, h2, h3, h4, h5, h6⟩ => by
  subst h6
  intro x hx
  rcases List.mem_cons.1 hx with rfl | hx
  ·exact ⟨_, h2.1⟩
  ·obtain ⟨c, hc, hx⟩ := mem_chPs.1 hx
   exact (h4 c hc).alloc x hx
theorem chEs_asc {cs : List Ch} (h1 : ∀ c ∈ cs, Asc c.es) (h2 : ChOk cs) : Asc (chEs cs) := by
 induction cs with
 | nil => exact List.Pairwise.nil
 | cons c cs ih =>
  obtain ⟨ha, hb⟩ := h2
  rw [List.pairwise_cons] at hb
  rw [chEs_cons, Asc.append]
  refine ⟨h1 c (by simp), ih (fun x hx => h1 x (by simp [hx])) ⟨fun x hx => ha x (by simp [hx]), hb.2⟩, fun x hx y hy => ?_⟩
  obtain ⟨c', hc', hy⟩ := mem_chEs.1 hy
  exact blt_of_lt_of_le (hb.1 c' hc' x hx) ((ha c' (by simp [hc'])).2 y hy)
theorem Rep.asc {m : Mp} : ∀ {d q : Nat} {es : List En} {ps : List PN}, Rep m d q es ps → Asc es
 | 0, _, _, _, ⟨h1, _⟩ => h1.2.1.2
 | _ + 1, _, _, _, ⟨_, _, _, _, h3, h4, h5, _⟩ => by
  subst h5
  exact chEs_asc (fun c hc => (h4 c hc).asc) h3
theorem Rep.right {m : Mp} : ∀ {d q : Nat} {es : List En} {ps : List PN}, Rep m d q es ps → ∀ x ∈ es, rightE true x
 | 0, _, _, _, ⟨h1, _⟩ => h1.2.1.1
 | _ + 1, _, _, _, ⟨_, _, _, _, _, h4, h5, _⟩ => by
  subst h5
  intro x hx
  obtain ⟨c, hc, hx⟩ := mem_chEs.1 hx
  exact (h4 c hc).right x hx
/-! a tree with a hole -/
structure Fm where
 page : Nat
 L : List Ch
 key : Bs
 hp : Nat
 R : List Ch
def Fm.hole (f : Fm) : En := ⟨f.key, [], f.hp⟩
def Fm.nd (f : Fm) : Nd := ⟨false, f.L.map Ch.en ++ f.hole :: f.R.map Ch.en⟩
def InB (up : List Fm) (k : Bs) : Prop := ∀ f ∈ up, f.key ≤ k ∧ ∀ c ∈ f.R, k < c.key
theorem InB.cons {f : Fm} {up : List Fm} {k : Bs} : InB (f :: up) k ↔ (f.key ≤ k ∧ ∀ c ∈ f.R, k < c.key) ∧ InB up k := by
 unfold InB; simp
structure FmOk (m : Mp) (d : Nat) (f : Fm) (up : List Fm) : Prop where
 nd : NdAt m f.page f.nd
 first : match f.L with
  | [] => f.key = []
  | c :: _ => c.key = []
 ok : ChOk (f.L ++ f.R)
 lk : ∀ c ∈ f.L, ∀ x ∈ c.es, x.key < f.key
 ch : ∀ c ∈ f.L ++ f.R, Rep m d c.page c.es c.ps
 inb : ∀ c ∈ f.L ++ f.R, ∀ x ∈ c.es, InB up x.key
def Ctx (m : Mp) : Nat → Nat → List Fm → List En → List En → List PN → Prop
 | _, q, [], pre, post, ps => q = 0 ∧ pre = [] ∧ post = [] ∧ ps = []
 | d, q, f :: up, pre, post, ps => q = f.hp ∧ FmOk m d f up ∧ ∃ pre' post' ps', Ctx m (d + 1) f.page up pre' post' ps' ∧ pre = pre' ++ chEs f.L ∧ post = chEs f.R ++ post' ∧ ps = (f.page, d + 1, nB f.nd.l) :: (chPs f.L ++ chPs f.R ++ ps')
theorem FmOk.congr {m m' : Mp} {d : Nat} {f : Fm} {up : List Fm} (h : FmOk m d f up) (e0 : m' f.page = m f.page) (e : ∀ c ∈ f.L ++ f.R, ∀ x ∈ c.ps, m' x.1 = m x.1) : FmOk m' d f up :=
 ⟨h.nd.congr e0, h.first, h.ok, h.lk, fun c hc => (h.ch c hc).congr (e c hc), h.inb⟩
theorem Ctx.congr {m m' : Mp} : ∀ {up : List Fm} {d q : Nat} {pre post : List En} {ps : List PN}, Ctx m d q up pre post ps → (∀ x ∈ ps, m' x.1 = m x.1) → Ctx m' d q up pre post ps
 | [], _, _, _, _, _, h, _ => h
 | f :: up, d, q, pre, post, ps, ⟨h0, h1, pre', post', ps', h2, h3, h4, h5⟩, e => by
  subst h5
  refine ⟨h0, h1.congr (e (f.page, d + 1, nB f.nd.l) (by simp)) (fun c hc x hx => e x ?_), pre', post', ps', h2.congr (fun x hx => e x (by simp [hx])), h3, h4, rfl⟩
  rcases List.mem_append.1 hc with hc | hc
  ·simp only [List.mem_cons, List.mem_append, mem_chPs]; exact .inr (.inl (.inl ⟨c, hc, hx⟩))
  ·simp only [List.mem_cons, List.mem_append, mem_chPs]; exact .inr (.inl (.inr ⟨c, hc, hx⟩))
theorem Ctx.alloc {m : Mp} : ∀ {up : List Fm} {d q : Nat} {pre post : List En} {ps : List PN}, Ctx m d q up pre post ps → ∀ x ∈ ps, ∃ b, m x.1 = some b
 | [], _, _, _, _, _, ⟨_, _, _, h⟩ => by subst h; simp
 | f :: up, d, q, pre, post, ps, ⟨h0, h1, pre', post', ps', h2, h3, h4, h5⟩ => by
  subst h5
  intro x hx
  simp only [List.mem_cons, List.mem_append, mem_chPs] at hx
  rcases hx with rfl | (⟨c, hc, hx⟩ | ⟨c, hc, hx⟩) | hx
  ·exact ⟨_, h1.nd.1⟩
  ·exact (h1.ch c (by simp [hc])).alloc x hx
  ·exact (h1.ch c (by simp [hc])).alloc x hx
  ·exact h2.alloc x hx
theorem Ctx.root {m : Mp} {d q : Nat} {pre post : List En} {ps : List PN} (h : Ctx m d q [] pre post ps) : q = 0 := h.1
theorem pw_mid {a b : List Ch} {c : Ch} {r : Ch → Ch → Prop} : (a ++ c :: b).Pairwise r ↔ (a ++ b).Pairwise r ∧ (∀ x ∈ a, r x c) ∧ ∀ y ∈ b, r c y := by
 rw [List.pairwise_append, List.pairwise_append, List.pairwise_cons]
 constructor
 ·rintro ⟨h1, ⟨h2, h3⟩, h4⟩
  exact ⟨⟨h1, h3, fun x hx y hy => h4 x hx y (by simp [hy])⟩, fun x hx => h4 x hx c (by simp), h2⟩
 ·rintro ⟨⟨h1, h3, h4⟩, h5, h6⟩
  refine ⟨h1, ⟨h6, h3⟩, fun x hx y hy => ?_⟩
  rcases List.mem_cons.1 hy with rfl | hy
  ·exact h5 x hx
  ·exact h4 x hx y hy
theorem Ctx.up {m : Mp} {d q : Nat} {f : Fm} {up : List Fm} {pre post es : List En} {ps ps0 : List PN} (h : Ctx m d q (f :: up) pre post ps) (hr : Rep m d q es ps0) (hne : es ≠ []) (hin : ∀ x ∈ es, InB (f :: up) x.key) :
  ∃ pre' post' ps' es1 ps1, Ctx m (d + 1) f.page up pre' post' ps' ∧ Rep m (d + 1) f.page es1 ps1 ∧ es1 ≠ [] ∧ (∀ x ∈ es1, InB up x.key) ∧ pre' ++ es1 ++ post' = pre ++ es ++ post ∧ (ps1 ++ ps').Perm (ps0 ++ ps) := by
 obtain ⟨rfl, h1, pre', post', ps', h2, rfl, rfl, rfl⟩ := h
 have hb := fun x hx => (InB.cons.1 (hin x hx)).1
 have hnd := h1.nd
 refine ⟨pre', post', ps', chEs (f.L ++ ⟨f.key, f.hp, es, ps0⟩ :: f.R), _, h2, ⟨f.L ++ ⟨f.key, f.hp, es, ps0⟩ :: f.R, by simp, ?_, ?_, ⟨?_, ?_⟩, ?_, rfl, rfl⟩, by simp [hne], ?_, by simp, ?_⟩
 ·intro c hc
  have := h1.first
  cases hL : f.L with
  | nil => rw [hL] at this hc; simp at hc; subst hc; exact this
  | cons a t => rw [hL] at this hc; simp at hc; subst hc; exact this
 ·have e : f.nd = ⟨false, (f.L ++ ⟨f.key, f.hp, es, ps0⟩ :: f.R).map Ch.en⟩ := by simp [Fm.nd, Fm.hole, Ch.en]
  rwa [e] at hnd
 ·intro c hc
  simp only [List.mem_append, List.mem_cons] at hc
  rcases hc with hc | rfl | hc
  ·exact h1.ok.1 c (by simp [hc])
  ·exact ⟨hne, fun x hx => (hb x hx).1⟩
  ·exact h1.ok.1 c (by simp [hc])
 ·rw [pw_mid]
  exact ⟨h1.ok.2, h1.lk, fun c hc x hx => (hb x hx).2 c hc⟩
 ·intro c hc
  simp only [List.mem_append, List.mem_cons] at hc
  rcases hc with hc | rfl | hc
  ·exact h1.ch c (by simp [hc])
  ·exact hr
  ·exact h1.ch c (by simp [hc])
 ·intro x hx
  obtain ⟨c, hc, hx⟩ := mem_chEs.1 hx
  simp only [List.mem_append, List.mem_cons] at hc
  rcases hc with hc | rfl | hc
  ·exact h1.inb c (by simp [hc]) x hx
  ·exact (InB.cons.1 (hin x hx)).2
  ·exact h1.inb c (by simp [hc]) x hx
 ·have e : nB ((f.L ++ (⟨f.key, f.hp, es, ps0⟩ : Ch) :: f.R).map Ch.en) = nB f.nd.l := by simp [Fm.nd, Fm.hole, Ch.en]
  rw [e]
  rw [List.perm_iff_count]
  intro z
  simp only [List.count_cons, List.count_append, List.cons_append, chPs_append, chPs_cons]
  omega
theorem Ctx.fill {m : Mp} : ∀ {up : List Fm} {d q : Nat} {pre post es : List En} {ps ps0 : List PN}, Ctx m d q up pre post ps → Rep m d q es ps0 → (es ≠ [] ∨ up = []) → (∀ x ∈ es, InB up x.key) →
  ∃ ps1, Rep m (d + up.length) 0 (pre ++ es ++ post) ps1 ∧ ps1.Perm (ps0 ++ ps)
 | [], d, q, pre, post, es, ps, ps0, ⟨h0, h1, h2, h3⟩, hr, _, _ => by
  subst h0 h1 h2 h3
  exact ⟨ps0, by simpa using hr, by simp⟩
 | f :: up, d, q, pre, post, es, ps, ps0, h, hr, hne, hin => by
  obtain ⟨pre', post', ps', es1, ps1, h1, h2, h3, h4, h5, h6⟩ := h.up hr (hne.resolve_right (by simp)) hin
  obtain ⟨ps2, h7, h8⟩ := h1.fill h2 (.inl h3) h4
  refine ⟨ps2, ?_, h8.trans h6⟩
  rw [h5] at h7
  rw [List.length_cons]
  have e : d + (up.length + 1) = d + 1 + up.length := by omega
  rw [e]
  exact h7
def below (cs : List Ch) (k : Bs) : Nat := (cs.countP fun c => decide (¬ k < c.key)) - 1
theorem Ctx.down {m : Mp} {d q : Nat} {up : List Fm} {pre post : List En} {ps : List PN} (h : Ctx m (d + 1) q up pre post ps) {cs L R : List Ch} {c : Ch} (hcs : cs = L ++ c :: R)
  (hf : FirstE cs) (hn : NdAt m q ⟨false, cs.map Ch.en⟩) (hk : ChOk cs) (hr : ∀ c ∈ cs, Rep m d c.page c.es c.ps) (hin : ∀ x ∈ chEs cs, InB up x.key) {k : Bs} (hkl : c.key ≤ k) (hkr : ∀ c' ∈ R, k < c'.key) (hkb : InB up k) :
  Ctx m d c.page (⟨q, L, c.key, c.page, R⟩ :: up) (pre ++ chEs L) (chEs R ++ post) ((q, d + 1, nB (cs.map Ch.en)) :: (chPs L ++ chPs R ++ ps)) ∧ Rep m d c.page c.es c.ps ∧ c.es ≠ [] ∧ InB (⟨q, L, c.key, c.page, R⟩ :: up) k ∧ (∀ x ∈ c.es, InB (⟨q, L, c.key, c.page, R⟩ :: up) x.key) := by
 subst hcs
 obtain ⟨hk1, hk2⟩ := hk
 rw [pw_mid] at hk2
 have e : (⟨q, L, c.key, c.page, R⟩ : Fm).nd = ⟨false, (L ++ c :: R).map Ch.en⟩ := by simp [Fm.nd, Fm.hole, Ch.en]
 refine ⟨⟨rfl, ⟨by rw [e]; exact hn, ?_, ⟨fun c' hc' => hk1 c' ?_, hk2.1⟩, hk2.2.1, fun c' hc' => hr c' ?_, fun c' hc' x hx => hin x (mem_chEs.2 ⟨c', ?_, hx⟩)⟩, pre, post, ps, h, rfl, rfl, by rw [e]⟩, hr c (by simp), (hk1 c (by simp)).1, InB.cons.2 ⟨⟨hkl, hkr⟩, hkb⟩, fun x hx => InB.cons.2 ⟨⟨(hk1 c (by simp)).2 x hx, fun c' hc' => hk2.2.2 c' hc' x hx⟩, hin x (mem_chEs.2 ⟨c, by simp, hx⟩)⟩⟩
 ·cases L with
  | nil => exact hf c (by simp)
  | cons a t => exact hf a (by simp)
 all_goals
  simp only [List.mem_append, List.mem_cons] at hc' ⊢
  rcases hc' with h | h
  ·exact .inl h
  ·exact .inr (.inr h)
end
section
def upd (m : Mp) (q : Nat) (v : Option Bs) : Mp := fun r => if r = q then v else m r
theorem upd_same (m : Mp) (q : Nat) (v : Option Bs) : upd m q v q = v := by simp [upd]
theorem upd_ne (m : Mp) {q r : Nat} (v : Option Bs) (h : r ≠ q) : upd m q v r = m r := by simp [upd, h]
def pgsOf (ps : List PN) : List Nat := ps.map Prod.fst
@[simp] theorem pgsOf_nil : pgsOf [] = [] := rfl
@[simp] theorem pgsOf_cons (x : PN) (ps : List PN) : pgsOf (x :: ps) = x.1 :: pgsOf ps := rfl
@[simp] theorem pgsOf_append (a b : List PN) : pgsOf (a ++ b) = pgsOf a ++ pgsOf b := by simp [pgsOf]
theorem mem_pgsOf {ps : List PN} {x : PN} (h : x ∈ ps) : x.1 ∈ pgsOf ps := List.mem_map_of_mem h
structure Turn (m : Mp) (P : List Nat) (m' : Mp) (P' : List Nat) : Prop where
 same : ∀ r, r ∉ P → r ∉ P' → m' r = m r
 new_ : ∀ r, r ∈ P' → r ∉ P → m r = none
 gone : ∀ r, r ∈ P → r ∉ P' → m' r = none
theorem Turn.refl (m : Mp) (P : List Nat) : Turn m P m P := ⟨fun _ _ _ => rfl, fun _ h h' => absurd h h', fun _ h h' => absurd h h'⟩
theorem Turn.trans {m m' m'' : Mp} {P P' P'' : List Nat} (h : Turn m P m' P') (k : Turn m' P' m'' P'') : Turn m P m'' P'' := by
 refine ⟨fun r h1 h2 => ?_, fun r h1 h2 => ?_, fun r h1 h2 => ?_⟩
 ·by_cases h3 : r ∈ P'
  ·rw [k.gone r h3 h2, h.new_ r h3 h1]
  ·rw [k.same r h3 h2, h.same r h1 h3]
 ·by_cases h3 : r ∈ P'
  ·exact h.new_ r h3 h2
  ·rw [← h.same r h2 h3]; exact k.new_ r h1 h3
 ·by_cases h3 : r ∈ P'
  ·exact k.gone r h3 h2
  ·rw [k.same r h3 h2]; exact h.gone r h1 h3
theorem Turn.perm {m m' : Mp} {P P' Q Q' : List Nat} (h : Turn m P m' P') (h1 : ∀ r, r ∈ Q ↔ r ∈ P) (h2 : ∀ r, r ∈ Q' ↔ r ∈ P') : Turn m Q m' Q' :=
 ⟨fun r a b => h.same r (by rwa [← h1]) (by rwa [← h2]), fun r a b => h.new_ r ((h2 r).1 a) (by rwa [← h1]), fun r a b => h.gone r ((h1 r).1 a) (by rwa [← h2])⟩
theorem Turn.set_ {m : Mp} {P : List Nat} {q : Nat} {v : Option Bs} (h : q ∈ P) : Turn m P (upd m q v) P :=
 ⟨fun r a _ => upd_ne m v (fun e => a (e ▸ h)), fun _ h h' => absurd h h', fun _ h h' => absurd h h'⟩
theorem Turn.add {m : Mp} {P : List Nat} {q : Nat} {v : Option Bs} (h : m q = none) : Turn m P (upd m q v) (q :: P) :=
 ⟨fun r _ b => upd_ne m v (fun e => b (by simp [e])), fun _ a b => by
  rcases List.mem_cons.1 a with rfl | a
  ·exact h
  ·exact absurd a b, fun _ a b => absurd (List.mem_cons_of_mem _ a) b⟩
theorem Turn.del {m : Mp} {P : List Nat} {q : Nat} : Turn m (q :: P) (upd m q none) P :=
 ⟨fun r a _ => upd_ne m none (fun e => a (by simp [e])), fun _ a b => absurd (List.mem_cons_of_mem _ a) b, fun r a b => by
  rcases List.mem_cons.1 a with rfl | a
  ·exact upd_same _ _ _
  ·exact absurd a b⟩
/-! potentials -/
structure Pot where
 A : Nat
 c : Nat → Nat
 R : Nat
 h1 : A + 39 * c 1 ≤ R
 h2 : 2 * A ≤ R
 h3 : ∀ h, 1 ≤ h → A + 39 * c (h + 1) ≤ 72 * c h
 h4 : ∀ h, 1 ≤ h → 2 * A ≤ 72 * c h
def Pot.one (p : Pot) (x : PN) : Nat := p.A + if x.2.1 = 0 then 0 else p.c x.2.1 * (x.2.2 - 152)
def Pot.sum (p : Pot) : List PN → Nat
 | [] => 0
 | x :: ps => p.one x + p.sum ps
@[simp] theorem Pot.sum_nil (p : Pot) : p.sum [] = 0 := rfl
@[simp] theorem Pot.sum_cons (p : Pot) (x : PN) (ps : List PN) : p.sum (x :: ps) = p.one x + p.sum ps := rfl
@[simp] theorem Pot.sum_append (p : Pot) (a b : List PN) : p.sum (a ++ b) = p.sum a + p.sum b := by
 induction a with
 | nil => simp
 | cons x a ih => simp [ih]; omega
theorem Pot.perm (p : Pot) {a b : List PN} (h : a.Perm b) : p.sum a = p.sum b := by
 induction h with
 | nil => rfl
 | cons x _ ih => simp [ih]
 | swap x y l => simp; omega
 | trans _ _ ih1 ih2 => exact ih1.trans ih2
theorem Pot.leaf (p : Pot) (q b : Nat) : p.one (q, 0, b) = p.A := by simp [Pot.one]
theorem Pot.inner (p : Pot) (q d b : Nat) : p.one (q, d + 1, b) = p.A + p.c (d + 1) * (b - 152) := by simp [Pot.one]
theorem Pot.mono (p : Pot) (q q' d : Nat) {b b' : Nat} (h : b ≤ b') : p.one (q, d, b) ≤ p.one (q', d, b') := by
 cases d with
 | zero => simp [Pot.one]
 | succ d =>
  rw [p.inner, p.inner]
  have := Nat.mul_le_mul_left (p.c (d + 1)) (show b - 152 ≤ b' - 152 by omega)
  omega
theorem Pot.more (p : Pot) (q d : Nat) {b e : Nat} (h : e ≤ 39) : p.one (q, d + 1, b + e) ≤ p.one (q, d + 1, b) + 39 * p.c (d + 1) := by
 rw [p.inner, p.inner]
 have h1 := Nat.mul_le_mul_left (p.c (d + 1)) (show b + e - 152 ≤ (b - 152) + 39 by omega)
 rw [Nat.mul_add, Nat.mul_comm _ 39] at h1
 omega
/-! halves -/
def apart (l : List En) (i : Nat) : Nat := (2 * nB (l.take i) - nB l) + (nB l - 2 * nB (l.take i))
def HalfAt (l : List En) (i : Nat) : Prop := 0 < i ∧ i < l.length ∧ ∀ j, 0 < j → j < l.length → apart l i ≤ apart l j
theorem nB_take_drop (l : List En) (i : Nat) : nB (l.take i) + nB (l.drop i) = nB l := by
 rw [← nB_append, List.take_append_drop]
theorem nB_take_succ (l : List En) (i : Nat) (h : i < l.length) : nB (l.take (i + 1)) = nB (l.take i) + enB l[i] := by
 rw [List.take_succ_eq_append_getElem h, nB_append]; simp
theorem half_ex (l : List En) (M : Nat) (hM : ∀ x ∈ l, enB x ≤ M) (h2 : 2 ≤ l.length) : ∃ i, 0 < i ∧ i < l.length ∧ apart l i ≤ M := by
 have key : ∀ k, k ≤ l.length → (∃ i, i < k ∧ 2 * nB (l.take i) ≤ nB l ∧ nB l ≤ 2 * nB (l.take (i + 1))) ∨ 2 * nB (l.take k) ≤ nB l := by
  intro k
  induction k with
  | zero => intro _; exact .inr (by simp)
  | succ k ih =>
   intro hk
   rcases ih (by omega) with ⟨i, h1, h2⟩ | h1
   ·exact .inl ⟨i, by omega, h2⟩
   ·by_cases h3 : 2 * nB (l.take (k + 1)) ≤ nB l
    ·exact .inr h3
    ·exact .inl ⟨k, by omega, h1, by omega⟩
 have hk : ∃ i, i < l.length ∧ 2 * nB (l.take i) ≤ nB l ∧ nB l ≤ 2 * nB (l.take (i + 1)) := by
  rcases key l.length (Nat.le_refl _) with h | h
  ·exact h
  ·rw [List.take_length] at h
   have h0 : nB l = 0 := by omega
   exact ⟨0, by omega, by simp, by omega⟩
 obtain ⟨i, hi, ha, hb⟩ := hk
 have hs := nB_take_succ l i hi
 have hm := hM l[i] (List.getElem_mem hi)
 unfold apart
 by_cases h0 : i = 0
 ·subst h0
  refine ⟨1, by omega, by omega, ?_⟩
  have e0 : nB (l.take 0) = 0 := rfl
  have h5 := nB_take_drop l 1
  have hs : nB (l.take 1) = nB (l.take 0) + enB l[0] := hs
  have hb : nB l ≤ 2 * nB (l.take 1) := hb
  omega
 ·by_cases h1 : i + 1 = l.length
  ·refine ⟨i, by omega, hi, ?_⟩
   rw [h1, List.take_length] at hs
   omega
  ·by_cases h3 : nB l - 2 * nB (l.take i) ≤ M
   ·exact ⟨i, by omega, hi, by omega⟩
   ·exact ⟨i + 1, by omega, by omega, by omega⟩
theorem half_le {l : List En} {i M : Nat} (h : HalfAt l i) (hM : ∀ x ∈ l, enB x ≤ M) : 2 * nB (l.take i) ≤ nB l + M ∧ 2 * nB (l.drop i) ≤ nB l + M := by
 obtain ⟨j, h1, h2, h3⟩ := half_ex l M hM (by have := h.1; have := h.2.1; omega)
 have h4 := Nat.le_trans (h.2.2 j h1 h2) h3
 have h5 := nB_take_drop l i
 unfold apart at h4
 omega
end
section
theorem mayN_sub {leaf : Bool} {l l' : List En} (h : mayN ⟨leaf, l⟩) (hs : l'.Sublist l) : mayN ⟨leaf, l'⟩ :=
 ⟨fun x hx => h.1 x (hs.subset hx), h.2.sublist hs⟩
theorem FirstE_take {cs : List Ch} (h : FirstE cs) {i : Nat} (hi : 0 < i) : FirstE (cs.take i) := by
 intro c hc
 cases cs with
 | nil => simp at hc
 | cons a t =>
  obtain ⟨j, rfl⟩ : ∃ j, i = j + 1 := ⟨i - 1, by omega⟩
  simp at hc
  exact h c (by simp [hc])
theorem ChOk_sub {cs cs' : List Ch} (h : ChOk cs) (hs : cs'.Sublist cs) : ChOk cs' := ⟨fun c hc => h.1 c (hs.subset hc), h.2.sublist hs⟩
def unkey (cs : List Ch) : List Ch := match cs with
 | [] => []
 | c :: t => { c with key := [] } :: t
theorem strip_map (cs : List Ch) : strip ⟨false, cs.map Ch.en⟩ = ⟨false, (unkey cs).map Ch.en⟩ := by
 cases cs with
 | nil => rfl
 | cons c t => rfl
theorem unkey_first (cs : List Ch) : FirstE (unkey cs) := by
 intro c hc
 cases cs with
 | nil => simp [unkey] at hc
 | cons a t => simp [unkey] at hc; subst hc; rfl
theorem unkey_es (cs : List Ch) : chEs (unkey cs) = chEs cs := by cases cs <;> rfl
theorem unkey_ps (cs : List Ch) : chPs (unkey cs) = chPs cs := by cases cs <;> rfl
theorem unkey_ok {cs : List Ch} (h : ChOk cs) : ChOk (unkey cs) := by
 cases cs with
 | nil => exact h
 | cons a t =>
  obtain ⟨h1, h2⟩ := h
  rw [List.pairwise_cons] at h2
  refine ⟨fun c hc => ?_, List.pairwise_cons.2 ⟨h2.1, h2.2⟩⟩
  rcases List.mem_cons.1 hc with rfl | hc
  ·exact ⟨(h1 a (by simp)).1, fun x _ => nil_ble _⟩
  ·exact h1 c (by simp [hc])
theorem unkey_rep {m : Mp} {d : Nat} {cs : List Ch} (h : ∀ c ∈ cs, Rep m d c.page c.es c.ps) : ∀ c ∈ unkey cs, Rep m d c.page c.es c.ps := by
 cases cs with
 | nil => exact h
 | cons a t =>
  intro c hc
  rcases List.mem_cons.1 hc with rfl | hc
  ·exact h a (by simp)
  ·exact h c (by simp [hc])
theorem NodeOk.split {m : Mp} {d : Nat} {n : Nd} {es : List En} {ps0 : List PN} (h : NodeOk m d n es ps0) (hm : mayN n) {i : Nat} (h0 : 0 < i) (hi : i < n.l.length) :
  ∃ ea eb pa pb x t, n.l.drop i = x :: t ∧ NodeOk m d ⟨n.leaf, n.l.take i⟩ ea pa ∧ NodeOk m d (strip ⟨n.leaf, n.l.drop i⟩) eb pb ∧ es = ea ++ eb ∧ ps0 = pa ++ pb ∧ ea ≠ [] ∧ eb ≠ [] ∧ (∀ y ∈ ea, y.key < x.key) ∧ (∀ y ∈ eb, x.key ≤ y.key) := by
 cases d with
 | zero =>
  obtain ⟨rfl, rfl⟩ := h
  simp only at hi ⊢
  have hd : es.drop i = es[i] :: es.drop (i + 1) := List.drop_eq_getElem_cons hi
  have ha : Asc (es.take i ++ es.drop i) := by rw [List.take_append_drop]; exact hm.2
  rw [Asc.append, hd, Asc.cons] at ha
  refine ⟨es.take i, es.drop i, [], [], es[i], es.drop (i + 1), hd, ⟨rfl, rfl⟩, ⟨strip_leaf _, rfl⟩, (List.take_append_drop _ _).symm, rfl, ?_, by rw [hd]; exact List.cons_ne_nil _ _, fun y hy => ha.2.2 y hy _ List.mem_cons_self, fun y hy => ?_⟩
  ·intro e
   have := congrArg List.length e
   rw [List.length_take, List.length_nil] at this
   omega
  ·rw [hd] at hy
   rcases List.mem_cons.1 hy with rfl | hy
   ·exact ble_refl _
   ·exact ble_of_lt (ha.2.1.1 y hy)
 | succ d =>
  obtain ⟨cs, rfl, h1, h2, h3, rfl, rfl⟩ := h
  simp only [List.length_map] at hi ⊢
  have hd : cs.drop i = cs[i] :: cs.drop (i + 1) := List.drop_eq_getElem_cons hi
  have hk : ChOk (cs.take i ++ cs.drop i) := by rw [List.take_append_drop]; exact h2
  have hk2 := hk.2
  rw [List.pairwise_append] at hk2
  have hp := hk2.2.1
  rw [hd, List.pairwise_cons] at hp
  have mem : ∀ c ∈ cs.drop i, c ∈ cs := fun c hc => List.mem_of_mem_drop hc
  have memt : ∀ c ∈ cs.take i, c ∈ cs := fun c hc => List.mem_of_mem_take hc
  refine ⟨chEs (cs.take i), chEs (cs.drop i), chPs (cs.take i), chPs (cs.drop i), cs[i].en, (cs.drop (i + 1)).map Ch.en, ?_, ⟨cs.take i, ?_, FirstE_take h1 h0, ChOk_sub h2 (List.take_sublist _ _), fun c hc => h3 c (memt c hc), rfl, rfl⟩,
   ⟨unkey (cs.drop i), ?_, unkey_first _, unkey_ok (ChOk_sub h2 (List.drop_sublist _ _)), unkey_rep fun c hc => h3 c (mem c hc), (unkey_es _).symm, (unkey_ps _).symm⟩, ?_, ?_, ?_, ?_, ?_, ?_⟩
  ·rw [← List.map_drop, hd]; rfl
  ·rw [List.map_take]
  ·rw [← List.map_drop, strip_map]
  ·rw [← chEs_append, List.take_append_drop]
  ·rw [← chPs_append, List.take_append_drop]
  ·intro e
   obtain ⟨c, hc⟩ : ∃ c, c ∈ cs.take i := by
    cases hq : cs.take i with
    | nil => have := congrArg List.length hq; rw [List.length_take, List.length_nil] at this; omega
    | cons a t => exact ⟨a, by simp⟩
   obtain ⟨x, hx⟩ := List.exists_mem_of_ne_nil _ (h2.1 c (memt c hc)).1
   have : x ∈ chEs (cs.take i) := mem_chEs.2 ⟨c, hc, hx⟩
   rw [e] at this
   simp at this
  ·intro e
   obtain ⟨x, hx⟩ := List.exists_mem_of_ne_nil _ (h2.1 cs[i] (List.getElem_mem hi)).1
   have : x ∈ chEs (cs.drop i) := mem_chEs.2 ⟨cs[i], by rw [hd]; exact List.mem_cons_self, hx⟩
   rw [e] at this
   simp at this
  ·intro y hy
   obtain ⟨c, hc, hy⟩ := mem_chEs.1 hy
   exact hk2.2.2 c hc cs[i] (by rw [hd]; exact List.mem_cons_self) y hy
  ·intro y hy
   obtain ⟨c, hc, hy⟩ := mem_chEs.1 hy
   rw [hd] at hc
   rcases List.mem_cons.1 hc with rfl | hc
   ·exact (h2.1 _ (List.getElem_mem hi)).2 y hy
   ·obtain ⟨z, hz⟩ := List.exists_mem_of_ne_nil _ (h2.1 cs[i] (List.getElem_mem hi)).1
    have hz2 := hp.1 c hc z hz
    exact ble_trans ((h2.1 _ (List.getElem_mem hi)).2 z hz) (ble_trans (ble_of_lt hz2) ((h2.1 c (mem c (by rw [hd]; exact List.mem_cons_of_mem _ hc))).2 y hy))
theorem strip_first {cs : List Ch} (h : FirstE cs) : strip ⟨false, cs.map Ch.en⟩ = ⟨false, cs.map Ch.en⟩ := by
 rw [strip_map]
 cases cs with
 | nil => rfl
 | cons a t =>
  have h1 : a.key = [] := h a (by simp)
  obtain ⟨k, q, es, ps⟩ := a
  simp only at h1
  subst h1
  rfl
theorem NodeOk.strip_eq {m : Mp} {d : Nat} {n : Nd} {es : List En} {ps0 : List PN} (h : NodeOk m d n es ps0) : strip n = n := by
 cases d with
 | zero => obtain ⟨rfl, _⟩ := h; rfl
 | succ d => obtain ⟨cs, rfl, h1, _⟩ := h; exact strip_first h1
structure SSt (m : Mp) (d q : Nat) (n : Nd) (up : List Fm) (E : List En) (ps : List PN) : Prop where
 x : ∃ pre post es ps0 psc, Ctx m d q up pre post psc ∧ NodeOk m d n es ps0 ∧ (d ≠ 0 → n.l ≠ []) ∧ (es ≠ [] ∨ up = []) ∧ (∀ x ∈ es, InB up x.key) ∧ E = pre ++ es ++ post ∧ ps = (q, d, nB n.l) :: (ps0 ++ psc)
 may : mayN n
 nd : (pgsOf ps).Nodup
 al : ∃ b, m q = some b
 big : nB n.l ≤ if d = 0 then 302 else 262
structure SDn (m : Mp) (d h : Nat) (ps : List PN) (m' : Mp) (D : Nat) (E : List En) (ps' : List PN) : Prop where
 rep : Rep m' D 0 E ps'
 nd : (pgsOf ps').Nodup
 turn : Turn m (pgsOf ps) m' (pgsOf ps')
 pot : ∀ p : Pot, p.sum ps' ≤ p.sum ps + if d = 0 then p.R else 0
 dep : D = h ∨ (D = h + 1 ∧ (h = 0 ∨ ∀ p : Pot, 72 * p.c h ≤ p.sum ps + if d = 0 then p.R else 0))
theorem perm_pgs {a b : List PN} (h : a.Perm b) : (pgsOf a).Perm (pgsOf b) := h.map _
theorem perm_mem {a b : List PN} (h : a.Perm b) (r : Nat) : r ∈ pgsOf a ↔ r ∈ pgsOf b := (perm_pgs h).mem_iff
theorem perm_nd {a b : List PN} (h : a.Perm b) : (pgsOf a).Nodup ↔ (pgsOf b).Nodup := (perm_pgs h).nodup_iff
theorem SSt.fits {m : Mp} {d q : Nat} {n : Nd} {up : List Fm} {E : List En} {ps : List PN} (h : SSt m d q n up E ps) (hf : nB n.l ≤ 223) :
  ∃ ps', SDn m d (d + up.length) ps (upd m q (some (pgOf n))) (d + up.length) E ps' := by
 obtain ⟨⟨pre, post, es, ps0, psc, h1, h2, h3, h4, h5, rfl, rfl⟩, hm, hnd, _, _⟩ := h
 have hq : ∀ x ∈ ps0 ++ psc, x.1 ≠ q := fun x hx e => by
  rw [pgsOf_cons, List.nodup_cons] at hnd
  have hx2 := mem_pgsOf hx
  rw [e] at hx2
  exact hnd.1 hx2
 have hr : Rep (upd m q (some (pgOf n))) d q es ((q, d, nB n.l) :: ps0) := rep_iff.2 ⟨n, ps0, ⟨upd_same _ _ _, hm, hf⟩, h2.congr (fun x hx => upd_ne _ _ (hq x (by simp [hx]))), h3, rfl⟩
 have hc : Ctx (upd m q (some (pgOf n))) d q up pre post psc := h1.congr (fun x hx => upd_ne _ _ (hq x (by simp [hx])))
 obtain ⟨ps1, h6, h7⟩ := hc.fill hr h4 h5
 refine ⟨ps1, h6, (perm_nd h7).2 hnd, ?_, fun p => by rw [p.perm h7]; simp, .inl rfl⟩
 exact (Turn.set_ (by simp)).perm (fun r => Iff.rfl) (fun r => perm_mem h7 r)
structure Halved (m : Mp) (d : Nat) (n : Nd) (i : Nat) (x : En) (t : List En) (es ea eb : List En) (ps0 pa pb : List PN) : Prop where
 dr : n.l.drop i = x :: t
 a : NodeOk m d ⟨n.leaf, n.l.take i⟩ ea pa
 b : NodeOk m d (strip ⟨n.leaf, n.l.drop i⟩) eb pb
 ees : es = ea ++ eb
 eps : ps0 = pa ++ pb
 nea : ea ≠ []
 neb : eb ≠ []
 lt : ∀ y ∈ ea, y.key < x.key
 le : ∀ y ∈ eb, x.key ≤ y.key
 am : mayN ⟨n.leaf, n.l.take i⟩
 bm : mayN (strip ⟨n.leaf, n.l.drop i⟩)
 ab : nB (n.l.take i) ≤ 223
 bb : nB (strip ⟨n.leaf, n.l.drop i⟩).l ≤ 223
 ai : d ≠ 0 → nB (n.l.take i) ≤ 152
 bi : d ≠ 0 → nB (strip ⟨n.leaf, n.l.drop i⟩).l ≤ 152
 an : n.l.take i ≠ []
 bn : (strip ⟨n.leaf, n.l.drop i⟩).l ≠ []
 xk : x.key.length ≤ 32
theorem NodeOk.leaf_iff {m : Mp} {d : Nat} {n : Nd} {es : List En} {ps0 : List PN} (h : NodeOk m d n es ps0) : n.leaf = decide (d = 0) := by
 cases d with
 | zero => obtain ⟨rfl, _⟩ := h; rfl
 | succ d => obtain ⟨cs, rfl, _⟩ := h; rfl
theorem NodeOk.halved {m : Mp} {d : Nat} {n : Nd} {es : List En} {ps0 : List PN} (h : NodeOk m d n es ps0) (hm : mayN n) (hb : nB n.l ≤ if d = 0 then 302 else 262) {i : Nat} (hh : HalfAt n.l i) :
  ∃ x t ea eb pa pb, Halved m d n i x t es ea eb ps0 pa pb := by
 obtain ⟨ea, eb, pa, pb, x, t, h1, h2, h3, h4, h5, h6, h7, h8, h9⟩ := h.split hm hh.1 hh.2.1
 have hsb := nB_strip ⟨n.leaf, n.l.drop i⟩
 have hle := h.leaf_iff
 have hx : x ∈ n.l := List.mem_of_mem_drop (i := i) (by rw [h1]; simp)
 have h223 : (nB (n.l.take i) ≤ 223 ∧ nB (n.l.drop i) ≤ 223) ∧ (d ≠ 0 → nB (n.l.take i) ≤ 152 ∧ nB (n.l.drop i) ≤ 152) := by
  by_cases hd : d = 0
  ·rw [if_pos hd] at hb
   have := half_le hh (M := 79) (fun y hy => rightE_enB (hm.1 y hy))
   exact ⟨by omega, fun k => absurd hd k⟩
  ·rw [if_neg hd] at hb
   have := half_le hh (M := 39) (fun y hy => by
    have := hm.1 y hy
    rw [hle] at this
    simp [hd] at this
    exact (rightE_inner this).2.1)
   omega
 refine ⟨x, t, ea, eb, pa, pb, h1, h2, h3, h4, h5, h6, h7, h8, h9, mayN_sub hm (List.take_sublist _ _), mayN_strip (mayN_sub hm (List.drop_sublist _ _)), h223.1.1, by simp only at hsb; omega, fun k => (h223.2 k).1, fun k => by have := (h223.2 k).2; simp only at hsb; omega, ?_, ?_, (hm.1 x hx).1⟩
 ·intro e
  have := congrArg List.length e
  have h10 := hh.1
  have h11 := hh.2.1
  rw [List.length_take, List.length_nil] at this
  omega
 ·rw [h1]
  unfold strip
  split <;> simp
end
end Go.Proofs.YtnnghcooidjlhaaGreat
