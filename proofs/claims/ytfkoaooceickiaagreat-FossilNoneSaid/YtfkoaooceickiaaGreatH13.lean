/- Parts of the proof: Kwj Kwk Kwl Kwm Kwn. -/
import Derived.Scope
import Derived.Test.YtfkoaooceickiaaGreatH12
set_option linter.all false
set_option maxRecDepth 100000
namespace Go.Proofs.YtfkoaooceickiaaGreat
section
noncomputable section
namespace Kv
open Go.RowKit
variable {P : Program}
section
variable {ρ : Ren} {w : World} {h : HP} {r : RG} {a : Act} {S : Sm} {I : List Deferred → Prop}
theorem appS_un {ty : Ty} {n : Nat} {sn : Src} {k : K} : appS ty .un n sn h k = none := by
  unfold appS
  rw [brec_beq]
  split <;> rfl
theorem appS_bad {ty : Ty} {s : AV} {n : Nat} {k : K} {res : AV × HP} (hn : n ≠ 0) (hf : appS ty s n .bad h k = some res) : False := by
  unfold appS at hf
  rw [brec_beq, if_neg hn] at hf
  have hb : ∀ b o c, putS b o n c .bad = .dead := fun b o c => putS_bad b o n c
  have hg : ∀ so l h, fresh ty so l n .bad h k ≠ some res := fun so l h e => by
    obtain ⟨_, h1, _⟩ := fresh_some e
    exact h1 (hb _ _ _)
  cases s <;> first | (cases hf; done) | skip
  case nils => exact hg _ _ _ hf
  case sl i o l c =>
    unfold appendV at hf
    simp only [brec_ble, hb] at hf
    split at hf
    · cases hf
    · exact hg _ _ _ hf
  case sf i o l u =>
    unfold appendV at hf
    simp only [brec_ble, brec_beq, hb] at hf
    split at hf
    · split at hf
      · cases hf
      · split at hf
        · exact hg _ _ _ hf
        · cases hf
    · cases hf
theorem app_exec {t : TypeId} {ts : List TypeId} (ev : Operand → Value) (s x : Operand) (dst : Option Tmp) (ty : TypeId) (pos : String) (after : Array Edge) (gd : Option (Nat × Bool)) {w' : World} {v' : Value} (hr : (Builtin.append_ ⟨t :: ts⟩ ty ⟨[ev s, ev x]⟩).run P w = .ok v' w') :
    (execOp ev ⟨dst, .call ⟨.builtin .append, ⟨[s, x]⟩, ⟨t :: ts⟩⟩, ty, pos, after, gd⟩).run P w = .ok (.value v') w' := by
  rw [bi_run]
  show ((do pure (Next.value (← Builtin.append_ ⟨t :: ts⟩ ty ⟨[ev s, ev x]⟩)) : Sem Next)).run P w = _
  rw [rb hr]; rfl
theorem append_ok {t t' : TypeId} (s x : Operand) (ts : List TypeId) (dst : Option Tmp) (ty : TypeId) (pos : String) (after : Array Edge) (gd : Option (Nat × Bool)) {k : K} {res : AV × HP}
    (hf : (appendC P t t').f ((argC s).f r) ((argC x).f r) h k = some res) :
    ∃ v h', k v h' = some res ∧ ER P I ⟨dst, .call ⟨.builtin .append, ⟨[s, x]⟩, ⟨t :: t' :: ts⟩⟩, ty, pos, after, gd⟩ r h v h' := by
  unfold appendC at hf
  rw [brec_beq] at hf
  by_cases hc : (uOf P t).cells = 0
  · rw [if_pos hc] at hf; cases hf
  · rw [if_neg hc] at hf
    cases he : elemOf P t with
    | none => unfold uOf at hc; rw [he] at hc; exact absurd rfl hc
    | some e =>
      have hu : uOf P t = tyOf P e := by unfold uOf; rw [he]
      rw [hu] at hf hc
      have hn : tyOf P e ≠ .no := fun e => by rw [e] at hc; exact hc rfl
      obtain ⟨it, d, F⟩ := tyOf_ok hn
      obtain ⟨z, hz, _⟩ := F.zero
      have hsl := elemOf_eq he
      cases hd' : P.underlying t' with
      | none => rw [hd'] at hf; cases hf
      | some d' =>
        rw [hd'] at hf
        have fin : ∀ n sn, appS (tyOf P e) ((argC s).f r) n sn h k = some res → (∀ ρ (a : Act) w, RR ρ r a → HR ρ h w → AX P ρ w t t' ts e z.cells (tyOf P e) n sn (a.eval x)) → ∃ v h', k v h' = some res ∧ ER P I ⟨dst, .call ⟨.builtin .append, ⟨[s, x]⟩, ⟨t :: t' :: ts⟩⟩, ty, pos, after, gd⟩ r h v h' := fun n sn hf hx => by
          have hs : (argC s).f r ≠ .un := fun e => by rw [e, appS_un] at hf; cases hf
          obtain ⟨v, h', h1, h2⟩ := appS_ok (t := t) (t' := t') (ts := ts) F hz hf
          refine ⟨v, h', h1, ER.of_value fun ρ a w rr hr => ?_⟩
          obtain ⟨ρ', v', w', k1, k2, k3⟩ := h2 ρ w (a.eval s) (a.eval x) ty hr (arg_ok rr s hs) (hx ρ a w rr hr)
          exact ⟨ρ', v', w', app_exec a.eval s x dst ty pos after gd k1, k2, k3⟩
        by_cases hi : ∃ k, d' = .int k
        · obtain ⟨ik, rfl⟩ := hi
          simp only at hf
          obtain ⟨c, y, hx, hf, hsg⟩ := onIdxR_some hf
          rw [brec_ble] at hf
          by_cases hy : y ≤ 100000
          · rw [if_pos hy] at hf
            refine fin y _ hf fun ρ a w rr hr => ?_
            have hv := arg_ok rr x (by rw [hx]; intro e; cases e)
            rw [hx] at hv
            obtain ⟨ev, h1, h2⟩ := VR_int.1 hv
            rw [ev, toI_nat h1 hsg]
            exact ax_zero hsl hd' F hy hz
          · rw [if_neg hy] at hf; cases hf
        · have hd0 : ∀ k, d' ≠ .int k := fun k e => hi ⟨k, e⟩
          have hf : @Bool.rec (fun _ => R) none (onLenR ((argC x).f r) (fun n => appS (tyOf P e) ((argC s).f r) n (srcOf h ((argC x).f r) n (tyOf P e).cells (isTU8 (tyOf P e))) h k)) (okStr ((argC x).f r) (tyOf P e).cells) = some res := by
            cases d' <;> first | exact hf | exact absurd rfl (hd0 _)
          rw [brec] at hf
          by_cases hok : okStr ((argC x).f r) (tyOf P e).cells = true
          · rw [if_pos hok] at hf
            obtain ⟨n, hl, hf⟩ := onLenR_some hf
            have hstr : ∀ l y, (argC x).f r = .str l y → (tyOf P e).cells = 1 := fun l y ey => by rw [ey] at hok; exact (beq_iff _ _).1 hok
            have hux : (argC x).f r ≠ .un := fun e => by rw [e] at hl; cases hl
            by_cases hn0 : n = 0
            · subst hn0
              have hf' : appS (tyOf P e) ((argC s).f r) 0 (.c []) h k = some res := hf
              refine fin 0 (.c []) hf' fun ρ a w rr hr => ?_
              have hv := arg_ok rr x hux
              have hS : SrcR ρ 0 (tyOf P e).cells (.c []) [] := ⟨rfl, rfl, rfl, .inr rfl⟩
              exact ⟨⟨[], hS, fun base l c w' ty0 hroom hst => app_in hsl hd' F hd0 (VR_len hv hl w) (first0 hv hl) hroom hst ty0⟩, ⟨[], hS, fun base l c old ty0 hroom hb hfo => app_new hsl hd' F hd0 (VR_len hv hl w) hroom hb hfo (first0 hv hl) hz ty0⟩⟩
            · exact fin n _ hf fun ρ a w rr hr => ax_src hr hsl hd' hd0 F hz (arg_ok rr x hux) hl hstr (fun e => by rw [e] at hf; exact appS_bad hn0 hf)
          · rw [if_neg hok] at hf; cases hf
theorem okOps_split {l m : List Operand} (h : @Bool.rec (fun _ => Bool) false (okOps m) (okOps l) = true) : okOps l = true ∧ okOps m = true := by
  rw [brec] at h
  split at h
  · next q => exact ⟨q, h⟩
  · cases h
theorem ER.of_defer {c : Go.Call} {dst : Option Tmp} {ty : TypeId} {pos : String} {after : Array Edge} {gd : Option (Nat × Bool)} (e : ∀ ρ (a : Act) w, RR ρ r a → HR ρ h w → ∃ d, (execOp a.eval ⟨dst, .defer c, ty, pos, after, gd⟩).run P w = .ok (.defer d) w ∧ (Idles P a.defers → Idles P (d :: a.defers))) :
    ER P (Idles P) ⟨dst, .defer c, ty, pos, after, gd⟩ r h (.tup []) h := fun ρ a w next Q rr hr hI hn => by
  obtain ⟨d, h1, h2⟩ := e ρ a w rr hr
  unfold Oper.wp
  rw [h1]
  exact hn ρ undef w (d :: a.defers) (Ext.refl hr) ⟨#[], rfl, rfl⟩ (h2 hI)
theorem e_ok {call : Go.Proofs.YtfkoaooceickiaaGreat.Kv.Call} (hS : SmOk P S) (hc : CallOK P call) (o : Oper) {k : K} {res : AV × HP} (hf : (compE P S o.op).f call r h k = some res) :
    ∃ v h', k v h' = some res ∧ ER P (Idles P) o r h v h' := by
  obtain ⟨dst, op, ty, pos, after, gd⟩ := o
  simp only at hf
  cases op <;> first | (cases hf; done) | skip
  case store t x y =>
    simp only [compE, brec_beq] at hf
    by_cases h0 : (tyOf P t).cells = 0
    · rw [if_pos h0] at hf; cases hf
    · rw [if_neg h0] at hf
      simp only [bxrec, brec_beq] at hf
      exact store_ok t x y dst ty pos after gd hf h0
  case next it b =>
    cases b
    · cases hf
    · simp only [compE, bxrec, brec_beq] at hf
      exact nextC_ok (i := 0) .dead it dst ty pos after gd hf
  case defer c =>
    obtain ⟨callee, ⟨args⟩, ats⟩ := c
    cases callee <;> first | (cases hf; done) | skip
    case value f =>
      cases args <;> first | (cases hf; done) | skip
      case nil =>
        simp only [compE, bxrec] at hf
        obtain ⟨fn, a0, b0, hx, hf⟩ := onFnR_some hf
        cases fn <;> first | (cases hf; done) | skip
        case func g =>
          cases a0 <;> first | (cases hf; done) | skip
          case nil =>
            obtain ⟨i, o, rfl⟩ : ∃ i o, b0 = [.ptr i o] := by
              rcases b0 with _ | ⟨b1, _ | ⟨b2, b3⟩⟩
              · cases hf
              · cases b1 <;> first | exact ⟨_, _, rfl⟩ | (cases hf; done)
              · cases b1 <;> (cases hf)
            simp only [brec] at hf
            by_cases hi : S.I g = true
            · rw [if_pos hi] at hf
              refine ⟨_, _, hf, ER.of_defer fun ρ a w rr hr => ?_⟩
              have hv := arg_ok rr f (by rw [hx]; intro e; cases e)
              rw [hx] at hv
              obtain ⟨c', d', ev, h1, h2⟩ := hv
              obtain ⟨v1, l1, e1, ⟨b, κ, hi2, rfl⟩, e2⟩ := h2
              have e2 : l1 = [] := e2
              subst e2
              have ec : c' = #[] := Array.toList_eq_nil_iff.1 h1
              have ed : d' = #[.pointer (some ⟨b, o, none⟩)] := by
                rw [← Array.toArray_toList (xs := d'), e1]
              subst ec; subst ed
              refine ⟨{ target := .fn (.func g) #[.pointer (some ⟨b, o, none⟩)], args := #[] }, ?_, fun hI d hd => ?_⟩
              · unfold execOp
                show ((resolve a.eval ⟨.value f, ⟨[]⟩, ats⟩ ty) >>= fun d => pure (Next.defer d)).run P w = _
                have h1 : (resolve a.eval ⟨.value f, ⟨[]⟩, ats⟩ ty).run P w = .ok { target := .fn (.func g) #[.pointer (some ⟨b, o, none⟩)], args := #[] } w := by
                  have e0 : (⟨[]⟩ : Array Operand).map a.eval = #[] := by simp
                  unfold resolve
                  simp only [ev, e0]
                  rfl
                rw [rb h1]; rfl
              · rcases List.mem_cons.1 hd with rfl | hd
                · exact ⟨g, _, hS.i g hi, rfl⟩
                · exact hI d hd
            · rw [if_neg hi] at hf; cases hf
  case call c =>
    obtain ⟨callee, ⟨args⟩, ⟨ats⟩⟩ := c
    cases callee <;> first | (cases hf; done) | skip
    case value f =>
      have hok : okOps args = true := by
        cases q : okOps args with
        | true => rfl
        | false =>
          simp only [compE, brec, q] at hf
          cases hf
      have known : ∀ (g : FuncId) (first captured : List AV) v h', (∀ ρ (a : Act), RR ρ r a → ∃ c d : Array Value, a.eval f = .func (.func g) c d ∧ VRs ρ first c.toList ∧ VRs ρ captured d.toList) → CallR P g (first ++ (argsC args).f r ++ captured) h v h' →
          ER P (Idles P) ⟨dst, .call ⟨.value f, ⟨args⟩, ⟨ats⟩⟩, ty, pos, after, gd⟩ r h v h' := fun g first captured v h' hv hR => by
        refine ER.of_call hR fun ρ a rr => ?_
        obtain ⟨c, d, ev, h1, h2⟩ := hv ρ a rr
        refine ⟨c.toList ++ args.map a.eval ++ d.toList, (h1.append (args_ok rr args hok)).append h2, fun w => ?_⟩
        rw [call_exec a.eval f args ⟨ats⟩ dst ty pos after gd ev w]
        congr 2
        apply Array.ext'
        simp
      have plain : ∀ x : Operand, (∀ g, x ≠ .func g) → f = x → onFnR ((argC x).f r) (fun f a b => match f with | .func f => call f (cat (cat a ((argsC args).f r)) b) h k | _ => none) = some res → ∃ v h', k v h' = some res ∧ ER P (Idles P) ⟨dst, .call ⟨.value f, ⟨args⟩, ⟨ats⟩⟩, ty, pos, after, gd⟩ r h v h' := fun x _ ex hf => by
        subst ex
        obtain ⟨fn, a0, b0, hx, hf⟩ := onFnR_some hf
        cases fn <;> first | (cases hf; done) | skip
        case func g =>
          simp only [cat_eq] at hf
          obtain ⟨v, h', k1, k2⟩ := hc _ _ _ _ _ hf
          refine ⟨v, h', k1, known g a0 b0 v h' (fun ρ a rr => ?_) k2⟩
          have hv := arg_ok rr f (by rw [hx]; intro e; cases e)
          rw [hx] at hv
          exact hv
      cases f
      case func g =>
        have hv : ∀ ρ (a : Act), RR ρ r a → ∃ c d : Array Value, a.eval (.func g) = .func (.func g) c d ∧ VRs ρ [] c.toList ∧ VRs ρ [] d.toList := fun ρ a rr => ⟨#[], #[], rfl, rfl, rfl⟩
        have hcall : call g ((argsC args).f r) h k = some res → ∃ v h', k v h' = some res ∧ ER P (Idles P) ⟨dst, .call ⟨.value (.func g), ⟨args⟩, ⟨ats⟩⟩, ty, pos, after, gd⟩ r h v h' := fun hf => by
          obtain ⟨v, h', k1, k2⟩ := hc _ _ _ _ _ hf
          exact ⟨v, h', k1, known g [] [] v h' hv (by simpa using k2)⟩
        cases hs : S.S g with
        | none =>
          simp only [compE, bxrec, brec, hok, hs] at hf
          exact hcall hf
        | some gg =>
          simp only [compE, bxrec, brec, hok, hs] at hf
          have hf : (match gg ((argsC args).f r) h with | some (v, h) => k v h | none => call g ((argsC args).f r) h k) = some res := hf
          cases hg : gg ((argsC args).f r) h with
          | none => rw [hg] at hf; exact hcall hf
          | some vh =>
            rw [hg] at hf
            exact ⟨vh.1, vh.2, hf, known g [] [] vh.1 vh.2 hv (by simpa using hS.s g gg hs _ _ _ _ hg)⟩
      all_goals
        simp only [compE, bxrec, brec, hok] at hf
        exact plain _ (fun g e => by cases e) rfl hf
    case builtin b =>
      cases b <;> first | (cases hf; done) | skip
      case append =>
        rcases args with _ | ⟨s, _ | ⟨x, _ | ⟨z, l⟩⟩⟩ <;> first | (cases hf; done) | skip
        rcases ats with _ | ⟨t, _ | ⟨t', ts⟩⟩ <;> first | (cases hf; done) | skip
        simp only [compE, bxrec] at hf
        exact append_ok s x ts dst ty pos after gd hf
      case copy =>
        rcases args with _ | ⟨s, _ | ⟨x, _ | ⟨z, l⟩⟩⟩ <;> first | (cases hf; done) | skip
        rcases ats with _ | ⟨t, ts⟩ <;> first | (cases hf; done) | skip
        simp only [compE, bxrec] at hf
        cases he : elemOf P t with
        | none => unfold uOf at hf; rw [he] at hf; cases hf
        | some e =>
          unfold uOf at hf; rw [he] at hf
          exact copy_ok he s x ts dst ty pos after gd hf
      case clear =>
        rcases args with _ | ⟨s, _ | ⟨z, l⟩⟩ <;> first | (cases hf; done) | skip
        rcases ats with _ | ⟨t, ts⟩ <;> first | (cases hf; done) | skip
        simp only [compE, bxrec] at hf
        cases he : elemOf P t with
        | none => unfold uOf at hf; rw [he] at hf; cases hf
        | some e =>
          unfold uOf at hf; rw [he] at hf
          exact clear_ok he s ts dst ty pos after gd hf
end
end Kv
end
end
section
noncomputable section
namespace Kv
open Go.RowKit
variable {P : Program}
section
variable {ρ : Ren} {w : World} {h : HP} {r : RG} {a : Act} {S : Sm} {I : List Deferred → Prop}
theorem frc_eq {v : AV} (φ : AV → R) (hv : v ≠ .un) : frc v φ = φ v := by
  cases v <;> first | rfl | exact absurd rfl hv | skip
  case int k x => cases x <;> rfl
theorem frc_some {v : AV} {φ : AV → R} {res : AV × HP} (e : frc v φ = some res) : v ≠ .un ∧ φ v = some res := by
  have hv : v ≠ .un := fun h => by subst h; cases e
  exact ⟨hv, by rw [← frc_eq φ hv]; exact e⟩
theorem way_eq (o : Op) : way P o = if isE o = true then 2 else if isA P o = true then 1 else 0 := by
  unfold way; rw [brec, brec]
theorem compO_eq (o : Oper) : compO P S o = if isE o.op = true then compE P S o.op else if isA P o.op = true then ⟨fun _ r h k => (compA P o.op).f r h k⟩ else ⟨fun _ r h k => frc ((compQ P o.op).f r h) (fun v => k v h)⟩ := by
  unfold compO
  rw [way_eq]
  by_cases h1 : isE o.op = true
  · rw [if_pos h1, if_pos h1]; rfl
  · rw [if_neg h1, if_neg h1]
    by_cases h2 : isA P o.op = true
    · rw [if_pos h2, if_pos h2]; simp only [bxrec]
    · rw [if_neg h2, if_neg h2]; simp only [bxrec]
theorem ER.of_q {o : Oper} (hu : (compQ P o.op).f r h ≠ .un) : ER P I o r h ((compQ P o.op).f r h) h := ER.of_value fun ρ a w rr hr => by
  obtain ⟨v, h1, h2⟩ := q_ok rr hr o hu
  exact ⟨ρ, v, w, h1, Ext.refl hr, h2⟩
theorem ER.of_a {o : Oper} {b : Blk} {v : AV} (A : AR P o r h.n b v) : ER P I o r h v (h.push b) := ER.of_value fun ρ a w rr hr => by
  obtain ⟨ob, κ, v', w', h1, h2, h3, h4, h5, h6, h7⟩ := A ρ a w rr
  have hx := Ext.push hr h2 h3 h4 h5 h6
  exact ⟨_, v', w', h1, hx, h7 _ hx.le (Ren.put_self _ _ _ _)⟩
theorem o_ok {call : Go.Proofs.YtfkoaooceickiaaGreat.Kv.Call} (hS : SmOk P S) (hc : CallOK P call) (o : Oper) {k : K} {res : AV × HP} (hf : (compO P S o).f call r h k = some res) :
    ∃ v h', k v h' = some res ∧ ER P (Idles P) o r h v h' := by
  rw [compO_eq] at hf
  by_cases h1 : isE o.op = true
  · rw [if_pos h1] at hf
    exact e_ok hS hc o hf
  · rw [if_neg h1] at hf
    by_cases h2 : isA P o.op = true
    · rw [if_pos h2] at hf
      obtain ⟨b, v, _, k1, k2⟩ := a_ok o hf
      exact ⟨_, _, k1, .of_a k2⟩
    · rw [if_neg h2] at hf
      have hf : frc ((compQ P o.op).f r h) (fun v => k v h) = some res := hf
      obtain ⟨hu, k1⟩ := frc_some hf
      exact ⟨_, _, k1, .of_q hu⟩
def putR (o : Option Tmp) (r : RG) (v : AV) : RG := match o with | none => r | some k => setR r k v
theorem putC_eq (o : Option Tmp) (r : RG) (v : AV) : (putC o).f r v = putR o r v := by cases o <;> rfl
theorem RR.put {dst : Option Tmp} {v : AV} {v' : Value} (rr : RR ρ r a) (hv : VR ρ v v') (hd : ∀ d, dst = some d → d < a.tmps.size ∧ d < 512) : RR ρ (putR dst r v) (a.put dst v') := by
  cases dst with
  | none => exact rr
  | some d =>
    obtain ⟨h1, h2⟩ := hd d rfl
    intro k hk
    show VR ρ (getR (setR r d v) k) ((a.tmps.setIfInBounds d v').getD k undef)
    rw [getR_setR hk h2]
    by_cases e : k = d
    · subst e
      rw [if_pos rfl]
      simp [Array.getD_eq_getD_getElem?, h1, hv]
    · rw [if_neg e]
      have := rr k hk
      simp only [Array.getD_eq_getD_getElem?, Array.getElem?_setIfInBounds_ne (Ne.symm e)] at this ⊢
      exact this
theorem put_size (a : Act) (dst : Option Tmp) (v : Value) : (a.put dst v).tmps.size = a.tmps.size := by cases dst <;> simp [Act.put]
theorem put_defers (a : Act) (dst : Option Tmp) (v : Value) : (a.put dst v).defers = a.defers := by cases dst <;> rfl
theorem VR_bool {v : AV} {v' : Value} (hv : VR ρ v v') : (∀ b, v = .bl b → v' = .bool b) ∧ ((∀ b, v ≠ .bl b) → ∀ b, v' ≠ .bool b) := by
  refine ⟨fun b e => by subst e; exact hv, fun hn b e => ?_⟩
  subst e
  cases v
  case bl c => exact hn _ rfl
  all_goals first
    | exact hv.elim
    | (have hv : _ = _ := hv; cases hv; done)
    | (obtain ⟨_, e, _⟩ := hv; cases e; done)
    | (obtain ⟨_, _, e, _⟩ := hv; cases e; done)
    | (obtain ⟨_, _, _, e, _⟩ := hv; cases e; done)
    | (obtain ⟨_, _, _, _, e, _⟩ := hv; cases e; done)
    | (obtain ⟨_, _, e⟩ := hv; cases e; done)
    | (obtain ⟨_, _, _, e⟩ := hv; cases e; done)
    | (have hv := hv.1; cases hv; done)
theorem onBlB_eq (v : AV) (φ : Bool → Bool) : onBlB v φ = match v with | .bl b => φ b | _ => false := by cases v <;> rfl
theorem nthO_eq : ∀ (l : List Oper) (k : Nat), nthO l k = l[k]?
  | [], k => rfl
  | o :: l, 0 => rfl
  | o :: l, k + 1 => nthO_eq l k
def wantsG (ops : List Oper) (g : Option (Nat × Bool)) (r : RG) : Bool := (wantC ops g).f r
theorem wants_ok {ops : List Oper} (rr : RR ρ r a) (hd : ∀ o ∈ ops, ∀ d, o.dst = some d → d < a.tmps.size ∧ d < 512) (o : Oper) : (wantC ops o.guard).f r = Region.wanted o (yielded ops.toArray a.tmps) := by
  unfold Region.wanted
  cases hg : o.guard with
  | none => rfl
  | some jb =>
    obtain ⟨j, b⟩ := jb
    simp only
    unfold wantC yielded
    simp only [nthO_eq, List.getElem?_toArray]
    cases hj : ops[j]? with
    | none => simp
    | some p =>
      simp only [Option.bind_some]
      cases hpd : p.dst with
      | none => simp
      | some t =>
        simp only [Option.bind_some, bxrec]
        obtain ⟨h1, h2⟩ := hd p (List.mem_of_getElem? hj) t hpd
        have hv := rr t h2
        have e : a.tmps[t]? = some (a.tmps.getD t undef) := by simp [Array.getD_eq_getD_getElem?, h1]
        rw [e]
        generalize a.tmps.getD t undef = v' at *
        change VR ρ ((getC t).f r) v' at hv
        generalize (getC t).f r = v at *
        rw [onBlB_eq]
        obtain ⟨k1, k2⟩ := VR_bool hv
        cases v
        case bl c =>
          rw [k1 c rfl]
          simp only [brec]
          cases c <;> cases b <;> rfl
        all_goals
          have k3 := k2 (fun b e => by cases e)
          cases v' <;> first | exact absurd rfl (k3 _) | (cases b <;> rfl)
structure St (P : Program) (ρ : Ren) (N : Nat) (r : RG) (h : HP) (a : Act) (w : World) : Prop where
  rr : RR ρ r a
  sz : a.tmps.size = N
  hr : HR ρ h w
  df : Idles P a.defers
def LR (P : Program) (N : Nat) (wp : (Exit → Act → World → Prop) → Act → World → Prop) (r : RG) (h : HP) (ex : Exit) (r' : RG) (h' : HP) : Prop := ∀ ρ a w Q, St P ρ N r h a w →
  (∀ ρ' a' w', Ext ρ h w ρ' h' w' → St P ρ' N r' h' a' w' → Q ex a' w') → wp Q a w
theorem St.op {N : Nat} (s : St P ρ N r h a w) {o : Oper} {v : AV} {h' : HP} (e : ER P (Idles P) o r h v h') (hd : ∀ d, o.dst = some d → d < N ∧ d < 512) {next : Act → World → Prop} {Q : Exit → Act → World → Prop}
    (hn : ∀ ρ' a' w', Ext ρ h w ρ' h' w' → St P ρ' N (putR o.dst r v) h' a' w' → next a' w') : o.wp P a w next Q :=
  e ρ a w next Q s.rr s.hr s.df fun ρ' v' w' ds x hv hI => hn ρ' _ w' x ⟨RR.put (a := ({ a with defers := ds } : Act)) (fun k hk => (s.rr k hk).mono x.le) hv (fun d e => ⟨by show d < a.tmps.size; rw [s.sz]; exact (hd d e).1, (hd d e).2⟩), by rw [put_size]; exact s.sz, x.hr, by rw [put_defers]; exact hI⟩
theorem St.skip {N : Nat} (s : St P ρ N r h a w) {o : Oper} (hd : ∀ d, o.dst = some d → d < N ∧ d < 512) : St P ρ N (putR o.dst r (.tup [])) h (a.put o.dst undef) w :=
  ⟨RR.put s.rr (v := .tup []) (v' := undef) ⟨#[], rfl, rfl⟩ (fun d e => ⟨by rw [s.sz]; exact (hd d e).1, (hd d e).2⟩), by rw [put_size]; exact s.sz, s.hr, by rw [put_defers]; exact s.df⟩
theorem compL_cons (ops l : List Oper) (o : Oper) (call : Go.Proofs.YtfkoaooceickiaaGreat.Kv.Call) (r : RG) (h : HP) (k : RG → HP → R) : (compL P S ops (o :: l)).f call r h k = if wantsG ops o.guard r = true then (compO P S o).f call r h (fun v h => (compL P S ops l).f call (putR o.dst r v) h k) else (compL P S ops l).f call (putR o.dst r (.tup [])) h k := by
  have e : compL P S ops (o :: l) = @Bx.rec _ (fun _ => Bx RC) (fun f => @Bx.rec _ (fun _ => Bx RC) (fun g => @Bx.rec _ (fun _ => Bx RC) (fun s => (match o.guard with
    | none => ⟨fun call r h k => f call r h (fun v h => g call (s r v) h k)⟩
    | some _ => @Bx.rec _ (fun _ => Bx RC) (fun w => ⟨fun call r h k => @Bool.rec (fun _ => _) (g call (s r (.tup [])) h k) (f call r h (fun v h => g call (s r v) h k)) (w r)⟩) (wantC ops o.guard))) (putC o.dst)) (compL P S ops l)) (compO P S o) := rfl
  rw [e]
  simp only [bxrec]
  unfold wantsG
  cases hg : o.guard with
  | none =>
    rw [show (wantC ops none).f r = true from rfl, if_pos rfl]
    simp only [putC_eq]
  | some g => simp only [bxrec, putC_eq, brec]
theorem l_ok {call : Go.Proofs.YtfkoaooceickiaaGreat.Kv.Call} (hS : SmOk P S) (hc : CallOK P call) {N : Nat} {ops : List Oper} (hd : ∀ o ∈ ops, ∀ d, o.dst = some d → d < N ∧ d < 512) : ∀ (l pre : List Oper) (r : RG) (h : HP) {k : RG → HP → R} {res : AV × HP}, pre ++ l = ops → (compL P S ops l).f call r h k = some res →
    ∃ r' h', k r' h' = some res ∧ LR P N (fun Q => wpOps P ops.toArray Q (List.range' pre.length l.length)) r h .normal r' h'
  | [], pre, r, h, k, res, _, hf => ⟨r, h, hf, fun ρ a w Q s hq => hq ρ a w (Ext.refl s.hr) s⟩
  | o :: l, pre, r, h, k, res, he, hf => by
    have hpre : (pre ++ [o]) ++ l = ops := by rw [← he]; simp
    have hmem : o ∈ ops := by rw [← he]; simp
    have hget : (ops.toArray)[pre.length]? = some o := by rw [← he]; simp
    rw [compL_cons] at hf
    have hstep : ∀ Q a w, wpOps P ops.toArray Q (List.range' pre.length (o :: l).length) a w ↔ (if Region.wanted o (yielded ops.toArray a.tmps) then o.wp P a w (wpOps P ops.toArray Q (List.range' (pre.length + 1) l.length)) Q ∨ (o.asks P a w ∧ LetsOut Q) else wpOps P ops.toArray Q (List.range' (pre.length + 1) l.length) (a.put o.dst undef) w) := fun Q a w => by
      rw [List.length_cons, List.range'_succ]
      show (match (ops.toArray)[pre.length]? with | none => _ | some o => _) ↔ _
      rw [hget]
    have hlen : (pre ++ [o]).length = pre.length + 1 := by simp
    by_cases hw : wantsG ops o.guard r = true
    · rw [if_pos hw] at hf
      obtain ⟨v, h1, k1, k2⟩ := o_ok hS hc o hf
      obtain ⟨r', h', k3, k4⟩ := l_ok hS hc hd l (pre ++ [o]) _ _ hpre k1
      rw [hlen] at k4
      refine ⟨r', h', k3, fun ρ a w Q s hq => (hstep Q a w).2 ?_⟩
      rw [if_pos (by rw [← wants_ok s.rr (fun o ho d e => ⟨by rw [s.sz]; exact (hd o ho d e).1, (hd o ho d e).2⟩) o]; exact hw)]
      exact .inl (s.op k2 (hd o hmem) fun ρ1 a1 w1 x1 s1 => k4 ρ1 a1 w1 Q s1 fun ρ2 a2 w2 x2 s2 => hq ρ2 a2 w2 (x1.trans x2) s2)
    · rw [if_neg hw] at hf
      obtain ⟨r', h', k3, k4⟩ := l_ok hS hc hd l (pre ++ [o]) _ _ hpre hf
      rw [hlen] at k4
      refine ⟨r', h', k3, fun ρ a w Q s hq => (hstep Q a w).2 ?_⟩
      rw [if_neg (by rw [← wants_ok s.rr (fun o ho d e => ⟨by rw [s.sz]; exact (hd o ho d e).1, (hd o ho d e).2⟩) o]; exact hw)]
      exact k4 ρ _ w Q (s.skip (hd o hmem)) hq
end
end Kv
end
end
section
noncomputable section
namespace Kv
open Go.RowKit
variable {P : Program}
section
variable {ρ : Ren} {w : World} {h : HP} {r : RG} {a : Act} {S : Sm}
def toExit : Ex → Exit | .normal => .normal | .exit id => .exit id | .ret => .ret
def CodeR (P : Program) (N : Nat) (c : Code) (r : RG) (h : HP) (ex : Ex) (r' : RG) (h' : HP) : Prop := LR P N (c.wp P) r h (toExit ex) r' h'
def RegOK (P : Program) (S : Sm) (call : Go.Proofs.YtfkoaooceickiaaGreat.Kv.Call) (N : Nat) : Prop := ∀ (id : Nat) (ops : Array Oper) (draw : Bool), dstsL N ops.toList = true → ∀ (r : RG) (h : HP) (k : RG → HP → R) (res : AV × HP), (compR P S ops.toList draw).f call r h k = some res →
  ∃ r' h', k r' h' = some res ∧ CodeR P N (.region id ops draw) r h .normal r' h'
def LoopR (P : Program) (N : Nat) (c : Code) : Nat → RG → HP → Ex → RG → HP → Prop
  | 0, _, _, _, _, _ => False
  | n + 1, r, h, ex, r', h' => (∃ r1 h1, CodeR P N c r h .normal r1 h1 ∧ LoopR P N c n r1 h1 ex r' h') ∨ (ex ≠ .normal ∧ CodeR P N c r h ex r' h')
theorem loop_key {N : Nat} {c : Code} {Q : Exit → Act → World → Prop} {ex : Ex} {r' : RG} {h' : HP} : ∀ (n : Nat) (ρ : Ren) (r : RG) (h : HP) (a : Act) (w : World), LoopR P N c n r h ex r' h' → St P ρ N r h a w →
    (∀ ρ' a' w', Ext ρ h w ρ' h' w' → St P ρ' N r' h' a' w' → Q (toExit ex) a' w') → ∀ (b : Frame) (k : List Item) (cs : List Frame),
    ∃ e a' w', Q e a' w' ∧ Arrives P (lone (b.at a (.code c :: .inLoop c :: k)) cs w) b k cs e a' w'
  | 0, _, _, _, _, _, hl, _, _ => hl.elim
  | n + 1, ρ, r, h, a, w, hl, s, hq => fun b k cs => by
    rcases hl with ⟨r1, h1, hc, hl⟩ | ⟨hne, hc⟩
    · obtain ⟨e, a₁, w₁, ⟨he, ρ1, x1, s1⟩, harr⟩ := hc ρ a w (fun e a' w' => e = .normal ∧ ∃ ρ', Ext ρ h w ρ' h1 w' ∧ St P ρ' N r1 h1 a' w') s (fun ρ' a' w' x s' => ⟨rfl, ρ', x, s'⟩) b (.inLoop c :: k) cs
      subst he
      obtain ⟨e₂, a₂, w₂, hq₂, harr₂⟩ := loop_key n ρ1 r1 h1 a₁ w₁ hl s1 (fun ρ2 a2 w2 x2 s2 => hq ρ2 a2 w2 (x1.trans x2) s2) b k cs
      exact ⟨e₂, a₂, w₂, hq₂, .of_steps (Steps.trans harr (.one step_inLoop)) harr₂⟩
    · obtain ⟨e, a₁, w₁, ⟨he, hq1⟩, harr⟩ := hc ρ a w (fun e a' w' => e = toExit ex ∧ Q (toExit ex) a' w') s (fun ρ' a' w' x s' => ⟨rfl, hq ρ' a' w' x s'⟩) b (.inLoop c :: k) cs
      subst he
      refine ⟨_, a₁, w₁, hq1, .pass (x := .inLoop c) rfl (fun _ _ => .inl ?_) harr⟩
      cases ex <;> first | exact absurd rfl hne | simp [toExit]
theorem loop_ok {N n : Nat} {c : Code} {ex : Ex} {r' : RG} {h' : HP} (hl : LoopR P N c n r h ex r' h') : CodeR P N (.loop c) r h ex r' h' := fun ρ a w Q s hq b k cs => by
  obtain ⟨e, a', w', hq, harr⟩ := loop_key (Q := Q) n ρ r h a w hl s hq b k cs
  exact ⟨e, a', w', hq, .of_steps (.one step_loop) harr⟩
def thenK (b : CC) (call : Go.Proofs.YtfkoaooceickiaaGreat.Kv.Call) (k : KC) : KC := fun ex r h => Ex.rec (b call r h k) (fun id => k (.exit id) r h) (k .ret r h) ex
def blockK (id : Nat) (k : KC) : KC := fun ex r h => Ex.rec (k .normal r h) (fun j => @Bool.rec (fun _ => _) (k (.exit j) r h) (k .normal r h) (Nat.beq j id)) (k .ret r h) ex
theorem loopK_succ (b : CC) (call : Go.Proofs.YtfkoaooceickiaaGreat.Kv.Call) (k : KC) (n : Nat) (r : RG) (h : HP) : loopK b call k (n + 1) r h = b call r h (fun ex r h => Ex.rec (loopK b call k n r h) (fun id => k (.exit id) r h) (k .ret r h) ex) := rfl
theorem comp_seq (x y : Code) (call : Go.Proofs.YtfkoaooceickiaaGreat.Kv.Call) (k : KC) : (compC P S (.seq x y)).f call r h k = (compC P S x).f call r h (thenK (compC P S y).f call k) := by
  have e : compC P S (.seq x y) = ⟨fun call r h k => @Bx.rec _ (fun _ => _) (fun f => f) (compC P S x) call r h (fun ex r h => Ex.rec (@Bx.rec _ (fun _ => _) (fun f => f) (compC P S y) call r h k) (fun id => k (.exit id) r h) (k .ret r h) ex)⟩ := rfl
  rw [e]; simp only [bxrec]; rfl
theorem comp_cond (c : Operand) (x y : Code) (call : Go.Proofs.YtfkoaooceickiaaGreat.Kv.Call) (k : KC) : (compC P S (.cond c x y)).f call r h k = onBlR ((argC c).f r) (fun t => if t = true then (compC P S x).f call r h k else (compC P S y).f call r h k) := by
  have e : compC P S (.cond c x y) = @Bx.rec _ (fun _ => Bx CC) (fun f => ⟨fun call r h k => onBlR (f r) (fun t => @Bool.rec (fun _ => _) (@Bx.rec _ (fun _ => _) (fun f => f) (compC P S y) call r h k) (@Bx.rec _ (fun _ => _) (fun f => f) (compC P S x) call r h k) t)⟩) (argC c) := rfl
  rw [e]; simp only [bxrec, brec]
theorem comp_block (id : Nat) (x : Code) (call : Go.Proofs.YtfkoaooceickiaaGreat.Kv.Call) (k : KC) : (compC P S (.block id x)).f call r h k = (compC P S x).f call r h (blockK id k) := by
  have e : compC P S (.block id x) = ⟨fun call r h k => @Bx.rec _ (fun _ => _) (fun f => f) (compC P S x) call r h (blockK id k)⟩ := rfl
  rw [e, bxrec]
theorem comp_loop (x : Code) (call : Go.Proofs.YtfkoaooceickiaaGreat.Kv.Call) (k : KC) : (compC P S (.loop x)).f call r h k = loopK (compC P S x).f call k big r h := by
  have e : compC P S (.loop x) = ⟨fun call r h k => loopK (@Bx.rec _ (fun _ => _) (fun f => f) (compC P S x)) call k big r h⟩ := rfl
  rw [e, bxrec]
theorem comp_region (id : Nat) (ops : Array Oper) (draw : Bool) (call : Go.Proofs.YtfkoaooceickiaaGreat.Kv.Call) (k : KC) : (compC P S (.region id ops draw)).f call r h k = (compR P S ops.toList draw).f call r h (fun r h => k .normal r h) := by
  have e : compC P S (.region id ops draw) = ⟨fun call r h k => @Bx.rec _ (fun _ => _) (fun f => f) (compR P S ops.toList draw) call r h (fun r h => k .normal r h)⟩ := rfl
  rw [e, bxrec]
theorem onBlR_some {v : AV} {φ : Bool → R} {res : AV × HP} (e : onBlR v φ = some res) : ∃ b, v = .bl b ∧ φ b = some res := by cases v <;> first | exact ⟨_, rfl, e⟩ | (cases e; done)
theorem and_split {x y : Bool} (h : @Bool.rec (fun _ => Bool) false y x = true) : x = true ∧ y = true := by
  rw [brec] at h
  split at h
  · next q => exact ⟨q, h⟩
  · cases h
theorem c_ok {call : Go.Proofs.YtfkoaooceickiaaGreat.Kv.Call} {N : Nat} (hreg : RegOK P S call N) : ∀ (c : Code), dstsC N c = true → ∀ (r : RG) (h : HP) (k : KC) (res : AV × HP), (compC P S c).f call r h k = some res →
    ∃ ex r' h', k ex r' h' = some res ∧ CodeR P N c r h ex r' h'
  | .skip, _, r, h, k, res, hf => ⟨.normal, r, h, hf, fun ρ a w Q s hq => wp_skip (hq ρ a w (Ext.refl s.hr) s)⟩
  | .label l, _, r, h, k, res, hf => ⟨.normal, r, h, hf, fun ρ a w Q s hq => wp_label (hq ρ a w (Ext.refl s.hr) s)⟩
  | .exit id, _, r, h, k, res, hf => ⟨.exit id, r, h, hf, fun ρ a w Q s hq => wp_exit (hq ρ a w (Ext.refl s.hr) s)⟩
  | .ret, _, r, h, k, res, hf => ⟨.ret, r, h, hf, fun ρ a w Q s hq => wp_ret (hq ρ a w (Ext.refl s.hr) s)⟩
  | .goto _, _, r, h, k, res, hf => by cases hf
  | .refuse _, _, r, h, k, res, hf => by cases hf
  | .rangeFunc _ _ _ _, _, r, h, k, res, hf => by cases hf
  | .region id ops draw, hd, r, h, k, res, hf => by
    rw [comp_region] at hf
    obtain ⟨r', h', k1, k2⟩ := hreg id ops draw hd r h _ res hf
    exact ⟨.normal, r', h', k1, k2⟩
  | .scope b, hd, r, h, k, res, hf => by
    obtain ⟨ex, r', h', k1, k2⟩ := c_ok hreg b hd r h k res hf
    refine ⟨ex, r', h', k1, fun ρ a w Q s hq => wp_scope_straight (k2 ρ a w _ s fun ρ' a' w' x s' => ?_)⟩
    have := hq ρ' a' w' x s'
    cases ex <;> exact this
  | .cond c x y, hd, r, h, k, res, hf => by
    obtain ⟨hx, hy⟩ := and_split hd
    rw [comp_cond] at hf
    obtain ⟨t, e, hf⟩ := onBlR_some hf
    have hev : ∀ ρ (a : Act), RR ρ r a → a.eval c = .bool t := fun ρ a rr => by
      have hv := arg_ok rr c (by rw [e]; intro h; cases h)
      rw [e] at hv
      exact hv
    cases t with
    | true =>
      obtain ⟨ex, r', h', k1, k2⟩ := c_ok hreg x hx r h k res hf
      exact ⟨ex, r', h', k1, fun ρ a w Q s hq => wp_cond_true (hev ρ a s.rr) (k2 ρ a w Q s hq)⟩
    | false =>
      obtain ⟨ex, r', h', k1, k2⟩ := c_ok hreg y hy r h k res hf
      exact ⟨ex, r', h', k1, fun ρ a w Q s hq => wp_cond_false (hev ρ a s.rr) (k2 ρ a w Q s hq)⟩
  | .seq x y, hd, r, h, k, res, hf => by
    obtain ⟨hx, hy⟩ := and_split hd
    rw [comp_seq] at hf
    obtain ⟨ex, r1, h1, k1, k2⟩ := c_ok hreg x hx r h _ res hf
    have stop : ex ≠ .normal → k ex r1 h1 = some res → ∃ ex r' h', k ex r' h' = some res ∧ CodeR P N (.seq x y) r h ex r' h' := fun hne hk => by
      refine ⟨ex, r1, h1, hk, fun ρ a w Q s hq => wp_seq (k2 ρ a w _ s fun ρ' a' w' x' s' => ?_)⟩
      have := hq ρ' a' w' x' s'
      cases ex <;> first | exact absurd rfl hne | exact this
    cases ex with
    | normal =>
      obtain ⟨ex, r', h', k3, k4⟩ := c_ok hreg y hy r1 h1 k res k1
      exact ⟨ex, r', h', k3, fun ρ a w Q s hq => wp_seq (k2 ρ a w _ s fun ρ1 a1 w1 x1 s1 => k4 ρ1 a1 w1 Q s1 fun ρ2 a2 w2 x2 s2 => hq ρ2 a2 w2 (x1.trans x2) s2)⟩
    | exit id => exact stop (fun e => by cases e) k1
    | ret => exact stop (fun e => by cases e) k1
  | .block id x, hd, r, h, k, res, hf => by
    rw [comp_block] at hf
    obtain ⟨ex, r1, h1, k1, k2⟩ := c_ok hreg x hd r h _ res hf
    cases ex with
    | normal => exact ⟨.normal, r1, h1, k1, fun ρ a w Q s hq => wp_block (k2 ρ a w _ s hq)⟩
    | ret => exact ⟨.ret, r1, h1, k1, fun ρ a w Q s hq => wp_block (k2 ρ a w _ s hq)⟩
    | exit j =>
      have k1 : @Bool.rec (fun _ => R) (k (.exit j) r1 h1) (k .normal r1 h1) (Nat.beq j id) = some res := k1
      rw [brec_beq] at k1
      by_cases e : j = id
      · rw [if_pos e] at k1
        refine ⟨.normal, r1, h1, k1, fun ρ a w Q s hq => wp_block (k2 ρ a w _ s fun ρ' a' w' x' s' => ?_)⟩
        show (if j = id then Q .normal a' w' else Q (.exit j) a' w')
        rw [if_pos e]; exact hq ρ' a' w' x' s'
      · rw [if_neg e] at k1
        refine ⟨.exit j, r1, h1, k1, fun ρ a w Q s hq => wp_block (k2 ρ a w _ s fun ρ' a' w' x' s' => ?_)⟩
        show (if j = id then Q .normal a' w' else Q (.exit j) a' w')
        rw [if_neg e]; exact hq ρ' a' w' x' s'
  | .loop x, hd, r, h, k, res, hf => by
    rw [comp_loop] at hf
    have key : ∀ n r h, loopK (compC P S x).f call k n r h = some res → ∃ ex r' h', k ex r' h' = some res ∧ LoopR P N x n r h ex r' h' := by
      intro n
      induction n with
      | zero => intro r h hf; cases hf
      | succ n ih =>
        intro r h hf
        rw [loopK_succ] at hf
        obtain ⟨ex, r1, h1, k1, k2⟩ := c_ok hreg x hd r h _ res hf
        cases ex with
        | normal =>
          obtain ⟨ex, r', h', k3, k4⟩ := ih r1 h1 k1
          exact ⟨ex, r', h', k3, .inl ⟨r1, h1, k2, k4⟩⟩
        | exit id => exact ⟨.exit id, r1, h1, k1, .inr ⟨(fun e => by cases e), k2⟩⟩
        | ret => exact ⟨.ret, r1, h1, k1, .inr ⟨(fun e => by cases e), k2⟩⟩
    obtain ⟨ex, r', h', k1, k2⟩ := key _ r h hf
    exact ⟨ex, r', h', k1, loop_ok k2⟩
end
end Kv
end
end
section
noncomputable section
namespace Kv
open Go.RowKit
variable {P : Program}
section
variable {ρ : Ren} {w : World} {h : HP} {r : RG} {a : Act} {S : Sm}
theorem setA_get : ∀ (l : List AV) (i : Nat) (r : RG), i + l.length ≤ 512 → ∀ k, k < 512 → getR (setA l i r) k = if i ≤ k ∧ k < i + l.length then l.getD (k - i) .un else getR r k
  | [], i, r, _, k, hk => by
    rw [if_neg (by simp only [List.length_nil]; omega)]
    rfl
  | x :: l, i, r, h, k, hk => by
    rw [List.length_cons] at h ⊢
    have e : setA (x :: l) i r = setA l (i + 1) (setR r i x) := by
      show setA l (Nat.succ i) (@Bx.rec _ (fun _ => _) (fun f => f) (setC i) r x) = _
      rw [bxrec]; rfl
    rw [e, setA_get l (i + 1) _ (by omega) k hk, getR_setR hk (by omega)]
    by_cases h1 : k = i
    · subst h1
      rw [if_neg (by omega), if_pos rfl, if_pos (by omega), Nat.sub_self]; rfl
    · by_cases h2 : i + 1 ≤ k ∧ k < i + 1 + l.length
      · rw [if_pos h2, if_pos (by omega)]
        obtain ⟨d, hd⟩ : ∃ d, k - i = d + 1 := ⟨k - i - 1, by omega⟩
        rw [hd, show k - (i + 1) = d by omega]; rfl
      · rw [if_neg h2, if_neg h1, if_neg (by omega)]
theorem enter_rr {args : List AV} {args' : List Value} (hv : VRs ρ args args') {n : Nat} (h1 : args.length ≤ n) (h2 : n ≤ 512) : RR ρ (setA args 0 rg0) { tmps := args'.toArray ++ Array.replicate (n - args'.toArray.size) undef, defers := [] } := by
  intro k hk
  have hl := hv.length
  rw [setA_get args 0 rg0 (by omega) k hk]
  simp only [Nat.zero_le, true_and, Nat.zero_add, Nat.sub_zero]
  by_cases e : k < args.length
  · rw [if_pos e]
    obtain ⟨x, y, e1, e2, e3⟩ := hv.get k e
    have e4 : args.getD k .un = x := by simp [List.getD_eq_getElem?_getD, e1]
    have e5 : (args'.toArray ++ Array.replicate (n - args'.toArray.size) undef).getD k undef = y := by
      have hk' : k < args'.length := by omega
      have e6 : args'[k] = y := by
        have := List.getElem?_eq_getElem hk'
        rw [e2] at this
        injection this with this
        exact this.symm
      simp [Array.getD_eq_getD_getElem?, Array.getElem?_append, hk', e6]
    rw [e4]
    show VR ρ x ((args'.toArray ++ Array.replicate (n - args'.toArray.size) undef).getD k undef)
    rw [e5]; exact e3
  · rw [if_neg e, getR_rg0 hk]
    refine ⟨#[], ?_, rfl⟩
    show (args'.toArray ++ Array.replicate (n - args'.toArray.size) undef).getD k undef = undef
    simp only [Array.getD_eq_getD_getElem?, Array.getElem?_append]
    split
    · next q => exact absurd q (by simp; omega)
    · rw [Array.getElem?_replicate]
      split <;> rfl
def resM (tmps : Array Value) : ResultVar → Sem Value
  | .tmp t => pure (tmps.getD t undef)
  | .cell a t => do loadVar t (← asAddr (tmps.getD a undef))
theorem bind_value {s : Sem Value} {v : Value} {w' : World} (h : (do pure (Next.value (← s)) : Sem Next).run P w = .ok (.value v) w') : s.run P w = .ok v w' := by
  rw [Sem.run_bind] at h
  cases e : s.run P w with
  | ok x w1 =>
    rw [e] at h
    injection h with h1 h2
    injection h1 with h1
    rw [h1, h2]
  | halt x w1 => rw [e] at h; cases h
theorem res_ok {x : ResultVar} (rr : RR ρ r a) (hr : HR ρ h w) (hu : (resC P x).f r h ≠ .un) : ∃ v, (resM a.tmps x).run P w = .ok v w ∧ VR ρ ((resC P x).f r h) v := by
  cases x with
  | tmp t =>
    have e : (resC P (.tmp t)).f r h = (argC (.tmp t)).f r := by simp only [resC, bxrec]; rfl
    rw [e] at hu ⊢
    exact ⟨_, rfl, arg_ok rr (.tmp t) hu⟩
  | cell b t =>
    have e : (resC P (.cell b t)).f r h = (compQ P (Op.load t (.tmp b))).f r h := by simp only [resC, compQ, bxrec]; rfl
    rw [e] at hu ⊢
    obtain ⟨v, h1, h2⟩ := q_ok rr hr ⟨none, .load t (.tmp b), 0, "", #[], none⟩ hu
    refine ⟨v, ?_, h2⟩
    have h1 : (Instr.loadAt t (a.eval (.tmp b))).run P w = .ok v w := bind_value h1
    have hp : ∃ i o, (argC (.tmp b)).f r = .ptr i o := by
      simp only [compQ, bxrec] at hu
      generalize (argC (.tmp b)).f r = x at hu ⊢
      cases x <;> first | exact ⟨_, _, rfl⟩ | exact absurd rfl hu
    obtain ⟨i, o, hp⟩ := hp
    have hv := arg_ok rr (.tmp b) (by rw [hp]; intro e; cases e)
    rw [hp] at hv
    obtain ⟨g, κ, _, ev⟩ := hv
    rw [ev] at h1
    show (do loadVar t (← asAddr (a.eval (.tmp b))) : Sem Value).run P w = _
    rw [ev]
    exact h1
theorem resCs_ok : ∀ (l : List ResultVar) {k : List AV → R} {res : AV × HP}, (resCs P l).f r h k = some res → ∃ vs, k vs = some res ∧ vs.length = l.length ∧ ∀ ρ (a : Act) w, RR ρ r a → HR ρ h w → ∃ vs', (l.mapM (resM a.tmps)).run P w = .ok vs' w ∧ VRs ρ vs vs'
  | [], k, res, hf => ⟨[], hf, rfl, fun ρ a w _ _ => ⟨[], rfl, rfl⟩⟩
  | x :: l, k, res, hf => by
    unfold resCs at hf
    simp only [bxrec] at hf
    obtain ⟨hu, hf⟩ := frc_some hf
    obtain ⟨vs, k1, k0, k2⟩ := resCs_ok l hf
    refine ⟨_ :: vs, k1, by simp [k0], fun ρ a w rr hr => ?_⟩
    obtain ⟨v, e1, e2⟩ := res_ok rr hr hu
    obtain ⟨vs', e3, e4⟩ := k2 ρ a w rr hr
    refine ⟨v :: vs', ?_, v, vs', rfl, e2, e4⟩
    rw [List.mapM_cons, rb e1, rb e3]; rfl
theorem results_run {fn : Func} {vs : List Value} (h : (fn.results.toList.mapM (resM a.tmps)).run P w = .ok vs w) : (results fn a.tmps).run P w = .ok (if h : vs.toArray.size = 1 then vs.toArray[0] else .tuple vs.toArray) w := by
  have e : (fn.results.mapM (resM a.tmps)).run P w = .ok vs.toArray w := by
    rw [Array.mapM_eq_mapM_toList]
    show ((fn.results.toList.mapM (resM a.tmps)) >>= fun l => pure l.toArray).run P w = _
    rw [rb h]; rfl
  have e2 : results fn a.tmps = (do let vs ← fn.results.mapM (resM a.tmps); pure (if h : vs.size = 1 then vs[0] else .tuple vs)) := by
    unfold results
    congr 1
  rw [e2, rb e]; rfl
theorem resF_ok {fn : Func} {k : K} {res : AV × HP} (hf : (resF P fn.results.toList).f r h k = some res) : ∃ v, k v h = some res ∧ ∀ ρ (a : Act) w, RR ρ r a → HR ρ h w → ∃ v', (results fn a.tmps).run P w = .ok v' w ∧ VR ρ v v' := by
  have many : fn.results.toList.length ≠ 1 → (resCs P fn.results.toList).f r h (fun vs => k (.tup vs) h) = some res → ∃ v, k v h = some res ∧ ∀ ρ (a : Act) w, RR ρ r a → HR ρ h w → ∃ v', (results fn a.tmps).run P w = .ok v' w ∧ VR ρ v v' := fun hne hf => by
    obtain ⟨vs, k1, k0, k2⟩ := resCs_ok _ hf
    refine ⟨_, k1, fun ρ a w rr hr => ?_⟩
    obtain ⟨vs', e1, e2⟩ := k2 ρ a w rr hr
    refine ⟨_, results_run e1, ?_⟩
    rw [dif_neg (by have := e2.length; simp; omega)]
    exact ⟨_, rfl, by simpa using e2⟩
  generalize hl : fn.results.toList = l at hf many
  rcases l with _ | ⟨x, _ | ⟨y, l⟩⟩
  · refine many (by simp) ?_
    unfold resF at hf
    simp only [bxrec] at hf
    exact hf
  · unfold resF at hf
    simp only [bxrec] at hf
    obtain ⟨hu, hf⟩ := frc_some hf
    refine ⟨_, hf, fun ρ a w rr hr => ?_⟩
    obtain ⟨v, e1, e2⟩ := res_ok rr hr hu
    refine ⟨v, ?_, e2⟩
    have e3 : ([x].mapM (resM a.tmps)).run P w = .ok [v] w := by rw [List.mapM_cons, rb e1]; rfl
    rw [← hl] at e3
    have := results_run e3
    exact this
  · refine many (by simp) ?_
    unfold resF at hf
    simp only [bxrec] at hf
    exact hf
theorem r_callFunc {f : FuncId} {fn : Func} {c : Code} (e1 : P.funcs[f]? = some fn) (e2 : fn.body = some c) (e3 : fn.name ≠ "runtime.NumGoroutine") (args : Array Value) (w : World) : (callFunc f args).run P w = .ok (.enter f args) w := by
  simp [callFunc, e1, e2, e3, Sem.run]
theorem idles_leave {fn : Func} {tmps : Array Value} {Rr : Ending → World → Prop} {v : Value} (h1 : (results fn tmps).run P w = .ok v w) (h2 : Rr (.returned v) w) : ∀ ds, Idles P ds → Leaves P fn tmps Rr ds .returning w
  | [], _ => ⟨v, h1, h2⟩
  | d :: ds, hI => by
    obtain ⟨f, p, hid, rfl⟩ := hI d List.mem_cons_self
    obtain ⟨⟨fn', c, e1, e2, e3⟩, hrun⟩ := hid
    refine leaves_cons (f := f) (args := #[.pointer (some p)]) (fun h => by cases h) ?_ ((hrun p w).mono fun e u' w' he => ?_)
    · exact r_callFunc e1 e2 e3 _ w
    · obtain ⟨h5, h6, h7⟩ := he
      rw [h5, h6, h7]
      exact idles_leave h1 h2 ds fun d hd => hI d (List.mem_cons_of_mem _ hd)
def NoNum (P : Program) : Prop := ∀ (f : FuncId) (fn : Func), P.funcs[f]? = some fn → fn.body.isSome = true → fn.name ≠ "runtime.NumGoroutine"
theorem nthF_eq : ∀ (l : List Func) (k : Nat), nthF l k = l[k]?
  | [], k => rfl
  | o :: l, 0 => rfl
  | o :: l, k + 1 => nthF_eq l k
theorem compF_some {f : FuncId} {call : Go.Proofs.YtfkoaooceickiaaGreat.Kv.Call} {args : List AV} {k : K} {res : AV × HP} (hf : (compF P S f).f call args h k = some res) :
    ∃ fn c, P.funcs[f]? = some fn ∧ fn.body = some c ∧ fn.ntmps ≤ 512 ∧ dstsC fn.ntmps c = true ∧ args.length ≤ fn.ntmps ∧
      (compC P S c).f call (setA args 0 rg0) h (fun ex r h => Ex.rec ((resF P fn.results.toList).f r h k) (fun _ => none) ((resF P fn.results.toList).f r h k) ex) = some res := by
  unfold compF at hf
  rw [nthF_eq, Array.getElem?_toList] at hf
  cases e1 : P.funcs[f]? with
  | none => rw [e1] at hf; cases hf
  | some fn =>
    rw [e1] at hf
    simp only at hf
    cases e2 : fn.body with
    | none => rw [e2] at hf; cases hf
    | some c =>
      rw [e2] at hf
      simp only [brec] at hf
      by_cases h1 : (if Nat.ble fn.ntmps 512 = true then dstsC fn.ntmps c else false) = true
      · rw [if_pos h1] at hf
        simp only [bxrec] at hf
        by_cases h2 : fewA args fn.ntmps = true
        · rw [if_pos h2] at hf
          by_cases h3 : Nat.ble fn.ntmps 512 = true
          · rw [if_pos h3] at h1
            refine ⟨fn, c, rfl, e2, (ble_iff _ _).1 h3, h1, ?_, hf⟩
            have := (ble_iff _ _).1 h2
            rwa [len_eq] at this
          · rw [if_neg h3] at h1; cases h1
        · rw [if_neg h2] at hf; cases hf
      · rw [if_neg h1] at hf; cases hf
theorem f_ok (hN : NoNum P) {call : Go.Proofs.YtfkoaooceickiaaGreat.Kv.Call} (hreg : ∀ N, N ≤ 512 → RegOK P S call N) {f : FuncId} {args : List AV} {k : K} {res : AV × HP} (hf : (compF P S f).f call args h k = some res) :
    ∃ v h', k v h' = some res ∧ CallR P f args h v h' := by
  obtain ⟨fn, c, e1, e2, h1, h2, h3, hf⟩ := compF_some hf
  obtain ⟨ex, r', h', k1, k2⟩ := c_ok (hreg fn.ntmps h1) c h2 _ _ _ _ hf
  have fin : (ex = .normal ∨ ex = .ret) → (resF P fn.results.toList).f r' h' k = some res → ∃ v h', k v h' = some res ∧ CallR P f args h v h' := fun hex hk => by
    obtain ⟨v, k3, k4⟩ := resF_ok hk
    refine ⟨v, h', k3, fun ρ args' w K hv hr hK => ?_⟩
    unfold Upon
    rw [r_callFunc e1 e2 (hN f fn e1 (by rw [e2]; rfl))]
    refine calls_of_wp_defers e1 e2 (k2 ρ _ w _ ⟨enter_rr hv h3 h1, ?_, hr, fun d hd => by cases hd⟩ fun ρ' a' w' x s' => ?_)
    · have := hv.length
      simp; omega
    · obtain ⟨v', r1, r2⟩ := k4 ρ' a' w' s'.rr s'.hr
      have := idles_leave (P := P) (Rr := fun e w'' => match e with | .returned v => K v w'' | _ => False) r1 (hK ρ' v' w' x r2) a'.defers s'.df
      rcases hex with rfl | rfl <;> exact this
  cases ex with
  | normal => exact fin (.inl rfl) k1
  | ret => exact fin (.inr rfl) k1
  | exit id => cases k1
theorem call_ok (hN : NoNum P) (hreg : ∀ call, CallOK P call → ∀ N, N ≤ 512 → RegOK P S call N) : ∀ n, CallOK P (callN P S n)
  | 0 => fun f args h k res hf => by cases hf
  | n + 1 => fun f args h k res hf => by
    have ih := call_ok hN hreg n
    have hf : @Bx.rec _ (fun _ => _) (fun f => f) (compF P S f) (callN P S n) args h k = some res := hf
    rw [bxrec] at hf
    exact f_ok hN (hreg _ ih) hf
end
end Kv
end
end
section
noncomputable section
namespace Kv
open Go.RowKit
variable {P : Program}
section
variable {ρ ρ1 : Ren} {w : World} {h : HP} {r : RG} {a : Act} {S : Sm} {n : Nat}
def Ren.cut (ρ : Ren) (n : Nat) : Ren := fun i => if i < n then ρ i else none
theorem Ren.cut_some {ρ : Ren} {n i : Nat} {p : Nat × Nat} : ρ.cut n i = some p ↔ i < n ∧ ρ i = some p := by
  unfold Ren.cut
  by_cases h : i < n
  · rw [if_pos h]; exact ⟨fun k => ⟨h, k⟩, fun k => k.2⟩
  · rw [if_neg h]; exact ⟨(fun k => by cases k), fun k => absurd k.1 h⟩
theorem Ren.cut_le (ρ : Ren) (n : Nat) : RLe (ρ.cut n) ρ := fun i p hi => (Ren.cut_some.1 hi).2
mutual
theorem VR.cut (hd : Dom ρ1 n) : ∀ (a : AV) (v1 v : Value), VR ρ1 a v1 → VR ρ a v → VR (ρ.cut n) a v
  | .fl _, _, _, _, k => k
  | .nilp, _, _, _, k => k
  | .nils, _, _, _, k => k
  | .se, _, _, _, k => k
  | .nilf, _, _, _, k => k
  | .nili, _, _, _, k => k
  | .ifc _ x, _, _, ⟨y1, _, k1⟩, ⟨y, e, k⟩ => ⟨y, e, VR.cut hd x y1 y k1 k⟩
  | .fn _ a b, _, _, ⟨a1, b1, _, k1, m1⟩, ⟨a', b', e, k, m⟩ => ⟨a', b', e, VRs.cut hd a _ _ k1 k, VRs.cut hd b _ _ m1 m⟩
  | .tup l, _, _, ⟨l1, _, k1⟩, ⟨l', e, k⟩ => ⟨l', e, VRs.cut hd l _ _ k1 k⟩
  | .un, _, _, k, _ => k.elim
  | .sf i _ _ _, _, _, ⟨b1, κ1, c1, e1, _⟩, ⟨b, κ, c, e, r⟩ => ⟨b, κ, c, Ren.cut_some.2 ⟨hd _ _ e1, e⟩, r⟩
  | .sl i _ _ _, _, _, ⟨b1, κ1, e1, _⟩, ⟨b, κ, e, r⟩ => ⟨b, κ, Ren.cut_some.2 ⟨hd _ _ e1, e⟩, r⟩
  | .ba _ _, _, _, _, k => k
  | .agg l, _, _, ⟨cs1, _, k1, _⟩, ⟨cs, e, k, m⟩ => ⟨cs, e, VRs.cut hd l _ _ k1 k, m⟩
  | .str _ _, _, _, _, k => k
  | .bl _, _, _, _, k => k
  | .ptr i _, _, _, ⟨b1, κ1, e1, _⟩, ⟨b, κ, e, r⟩ => ⟨b, κ, Ren.cut_some.2 ⟨hd _ _ e1, e⟩, r⟩
  | .int _ _, _, _, _, k => k
theorem VRs.cut (hd : Dom ρ1 n) : ∀ (a : List AV) (v1 v : List Value), VRs ρ1 a v1 → VRs ρ a v → VRs (ρ.cut n) a v
  | [], _, _, _, k => k
  | a :: m, _, _, ⟨x1, y1, _, k1, r1⟩, ⟨x, y, e, k, r⟩ => ⟨x, y, e, VR.cut hd a _ x k1 k, VRs.cut hd m _ y r1 r⟩
end
def LowV (n : Nat) (v : AV) : Prop := ∃ ρ1 v1, Dom ρ1 n ∧ VR ρ1 v v1
theorem LowV.cut {v : AV} {v' : Value} (hl : LowV n v) (hv : VR ρ v v') : VR (ρ.cut n) v v' := by
  obtain ⟨ρ1, v1, hd, k⟩ := hl
  exact VR.cut hd v v1 v' k hv
theorem UR.cut {u : Nat} {a : AV} {c1 cs : List Value} (hd : Dom ρ1 n) (k1 : UR ρ1 u a c1) (k : UR ρ u a cs) : UR (ρ.cut n) u a cs := ⟨VRs.cut hd _ _ _ k1.vs k.vs, k.len, k.sc, k.by_⟩
theorem LowB.cut {b : Blk} {κ : Nat} {o : Obj} (hl : LowB n b) (hb : BR ρ κ b o) : BR (ρ.cut n) κ b o := by
  rcases hl with rfl | ⟨ρ1, κ1, o1, hd, k1⟩
  · trivial
  · cases b with
    | dead => trivial
    | «by» l x => exact hb
    | si l x p => exact hb
    | row u m t =>
      obtain ⟨c, ty, fr, e, h1, h2, h3, h4, h5, h6⟩ := hb
      obtain ⟨c1, ty1, fr1, e1, _, _, _, _, _, g6⟩ := k1
      exact ⟨c, ty, fr, e, h1, h2, h3, h4, h5, fun i hi => UR.cut hd (g6 i hi) (h6 i hi)⟩
theorem HR.cut {g : HP} (hr : HR ρ g w) (hw : h.wf) (hl : ∀ i, LowB h.n (h.get i)) (he : ∀ i, i < h.n → g.get i = h.get i) : HR (ρ.cut h.n) h w where
  wf := hw
  at_ := fun i b κ hi => by
    obtain ⟨h1, h2⟩ := Ren.cut_some.1 hi
    obtain ⟨_, o, h3, h4⟩ := hr.at_ i b κ h2
    rw [he i h1] at h4
    exact ⟨h1, o, h3, (hl i).cut h4⟩
  inj := fun i j b κ κ' hi hj d1 d2 => by
    obtain ⟨h1, h2⟩ := Ren.cut_some.1 hi
    obtain ⟨h3, h4⟩ := Ren.cut_some.1 hj
    exact hr.inj i j b κ κ' h2 h4 (by rw [he i h1]; exact d1) (by rw [he j h3]; exact d2)
  low := hl
def maskR : List Nat → RG → RG
  | [], _ => rg0
  | k :: l, r => setR (maskR l r) k (getR r k)
theorem maskR_get : ∀ (l : List Nat) (r : RG) (k : Nat), (∀ x ∈ l, x < 512) → k < 512 → getR (maskR l r) k = if k ∈ l then getR r k else .tup []
  | [], r, k, _, hk => by rw [if_neg (by simp)]; exact getR_rg0 hk
  | x :: l, r, k, hl, hk => by
    have hx := hl x List.mem_cons_self
    show getR (setR (maskR l r) x (getR r x)) k = _
    rw [getR_setR hk hx, maskR_get l r k (fun y hy => hl y (List.mem_cons_of_mem _ hy)) hk]
    by_cases e : k = x
    · subst e; rw [if_pos rfl, if_pos List.mem_cons_self]
    · rw [if_neg e]
      by_cases h : k ∈ l
      · rw [if_pos h, if_pos (List.mem_cons_of_mem _ h)]
      · rw [if_neg h, if_neg (by simp [e, h])]
def maskT (l : List Nat) (t : Array Value) : Array Value := t.mapIdx fun i v => if i ∈ l then v else undef
theorem maskT_get (l : List Nat) (t : Array Value) (k : Nat) : (maskT l t).getD k undef = if k ∈ l then t.getD k undef else undef := by
  unfold maskT
  simp only [Array.getD_eq_getD_getElem?, Array.getElem?_mapIdx]
  cases t[k]? with
  | none => simp
  | some v => simp
def maskA (l : List Nat) (a : Act) : Act := { a with tmps := maskT l a.tmps }
theorem mask_rr {l : List Nat} (hl : ∀ x ∈ l, x < 512) (h : ∀ k ∈ l, VR ρ (getR r k) (a.tmps.getD k undef)) : RR ρ (maskR l r) (maskA l a) := fun k hk => by
  rw [maskR_get l r k hl hk]
  show VR ρ _ ((maskT l a.tmps).getD k undef)
  rw [maskT_get]
  by_cases e : k ∈ l
  · rw [if_pos e, if_pos e]; exact h k e
  · rw [if_neg e, if_neg e]; exact ⟨#[], rfl, rfl⟩
def opTmps (o : Op) : List Nat := tmpsOf o.operands.toList
theorem mem_opTmps {o : Op} {t : Tmp} (h : Operand.tmp t ∈ o.operands) : t ∈ opTmps o := List.mem_filterMap.2 ⟨.tmp t, by simpa using h, rfl⟩
def SameA (l : List Operand) (r r' : RG) : Prop := ∀ x ∈ l, (argC x).f r = (argC x).f r'
theorem sameA_of {o : Op} {r r' : RG} (h : ∀ k ∈ opTmps o, k < 512 → getR r k = getR r' k) : SameA o.operands.toList r r' := fun x hx => by
  cases x with
  | tmp t =>
    rcases Nat.lt_or_ge t 512 with h1 | h1
    · exact h t (mem_opTmps (by simpa using hx)) h1
    · show getR r t = getR r' t
      rw [getR_out _ h1, getR_out _ h1]
  | const v => rfl
  | global g => rfl
  | func f => rfl
theorem args_same {r r' : RG} : ∀ (l : List Operand), SameA l r r' → (argsC l).f r = (argsC l).f r'
  | [], _ => rfl
  | x :: l, h => by
    unfold argsC
    simp only [bxrec]
    rw [h x List.mem_cons_self, args_same l fun y hy => h y (List.mem_cons_of_mem _ hy)]
theorem oarg_same {r r' : RG} : ∀ (x : Option Operand), SameA x.toList r r' → (oargC x).f r = (oargC x).f r'
  | none, _ => rfl
  | some x, h => by
    unfold oargC
    simp only [bxrec]
    rw [h x (by simp)]
theorem fill_same {r r' : RG} (place : Nat → Option (Nat × Nat)) : ∀ (l : List (Nat × Operand)) (c : List AV), SameA (l.map (·.2)) r r' → (fillP P place l).f r c = (fillP P place l).f r' c
  | [], c, _ => rfl
  | (i, x) :: l, c, h => by
    have h1 := h x (by simp)
    have h2 : ∀ c, (fillP P place l).f r c = (fillP P place l).f r' c := fun c => fill_same place l c fun y hy => h y (by simp only [List.map_cons]; exact List.mem_cons_of_mem _ hy)
    unfold fillP
    cases place i with
    | none => rfl
    | some p =>
      obtain ⟨o, m⟩ := p
      simp only [bxrec]
      rw [h1]
      simp only [h2]
theorem units_same {r r' : RG} (c : Nat) : ∀ (l : List (Nat × Operand)) (b : Blk), SameA (l.map (·.2)) r r' → (unitsC c l).f r b = (unitsC c l).f r' b
  | [], b, _ => rfl
  | (i, x) :: l, b, h => by
    have h1 := h x (by simp)
    have h2 : ∀ c', (unitsC c l).f r c' = (unitsC c l).f r' c' := fun c' => units_same c l c' fun y hy => h y (by simp only [List.map_cons]; exact List.mem_cons_of_mem _ hy)
    unfold unitsC
    simp only [bxrec]
    rw [h1]
    simp only [h2]
theorem build_same {r r' : RG} (t : TypeId) (l : List (Nat × Operand)) (h : SameA (l.map (·.2)) r r') : (buildC P t l).f r = (buildC P t l).f r' := by
  unfold buildC
  cases tyOf P t <;> first | rfl | skip
  case ba n => cases l <;> rfl
  case ag m z =>
    simp only
    cases arrOf P t with
    | none =>
      simp only [brec]
      split
      · simp only [bxrec]; rw [fill_same _ l z h]
      · rfl
    | some ne =>
      obtain ⟨k, e⟩ := ne
      simp only [brec]
      split
      · rfl
      · simp only [bxrec]; rw [fill_same _ l z h]
end
end Kv
end
end
end Go.Proofs.YtfkoaooceickiaaGreat
