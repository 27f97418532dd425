/- The library's sort with a comparison, laid at this program: what it gives of a row of floats. -/
import Derived.Test.YtjoclapnjnmlkaaWc
import Derived.Shelf.SlSortCmp.NoneTotal
set_option linter.unusedSimpArgs false
namespace Go.Proofs.Ytjoclapnjnmlkaa
open Go.RowKit Go.Sort Go.Shelf

def sortL_ren : Go.Shelf.Ren := ⟨fun | 6 => 34 | 15 => 41 | 14 => 40 | 28 => 53 | 29 => 54 | 20 => 45 | 21 => 46 | 22 => 47 | 23 => 48 | 24 => 49 | 25 => 50 | 26 => 51 | 27 => 52 | 46 => 55 | 47 => 56 | 48 => 57 | 49 => 58 | 50 => 59 | 57 => 60 | n => n, fun | 22 => 54 | 24 => 23 | 25 => 66 | 3 => 3 | 39 => 71 | 0 => 0 | 53 => 82 | 55 => 59 | 4 => 4 | 46 => 75 | 45 => 74 | 50 => 79 | 5 => 5 | 9 => 9 | 66 => 84 | 70 => 88 | 76 => 90 | 77 => 91 | n => n, fun n => n⟩
theorem sortL : SlLaysF.n6 Try.prog sortL_ren := {
  mixed := by kernel_rfl,
  f6 := ⟨Try.f34.name, by decide, Try.func34.trans (congrArg some (by kernel_rfl))⟩,
  f14 := ⟨Try.f40.name, by decide, Try.func40.trans (congrArg some (by kernel_rfl))⟩,
  f15 := Try.func41.trans (congrArg some (by kernel_rfl)),
  f20 := ⟨Try.f45.name, by decide, Try.func45.trans (congrArg some (by kernel_rfl))⟩,
  f21 := ⟨Try.f46.name, by decide, Try.func46.trans (congrArg some (by kernel_rfl))⟩,
  f22 := ⟨Try.f47.name, by decide, Try.func47.trans (congrArg some (by kernel_rfl))⟩,
  f23 := ⟨Try.f48.name, by decide, Try.func48.trans (congrArg some (by kernel_rfl))⟩,
  f24 := ⟨Try.f49.name, by decide, Try.func49.trans (congrArg some (by kernel_rfl))⟩,
  f25 := ⟨Try.f50.name, by decide, Try.func50.trans (congrArg some (by kernel_rfl))⟩,
  f26 := ⟨Try.f51.name, by decide, Try.func51.trans (congrArg some (by kernel_rfl))⟩,
  f27 := ⟨Try.f52.name, by decide, Try.func52.trans (congrArg some (by kernel_rfl))⟩,
  f28 := Try.func53.trans (congrArg some (by kernel_rfl)),
  f29 := Try.func54.trans (congrArg some (by kernel_rfl)),
  f46 := ⟨Try.f55.name, by decide, Try.func55.trans (congrArg some (by kernel_rfl))⟩,
  f47 := Try.func56.trans (congrArg some (by kernel_rfl)),
  f48 := Try.func57.trans (congrArg some (by kernel_rfl)),
  f49 := ⟨Try.f58.name, by decide, Try.func58.trans (congrArg some (by kernel_rfl))⟩,
  f50 := ⟨Try.f59.name, by decide, Try.func59.trans (congrArg some (by kernel_rfl))⟩,
  f57 := ⟨Try.f60.name, by decide, Try.func60.trans (congrArg some (by kernel_rfl))⟩,
  t0 := Try.underlying0,
  a0 := Try.isAgg0,
  z0 := Try.sizeOf0,
  v0 := Try.zeroValue0,
  t3 := Try.underlying3,
  a3 := Try.isAgg3,
  z3 := Try.sizeOf3,
  v3 := Try.zeroValue3,
  t4 := Try.underlying4,
  a4 := Try.isAgg4,
  z4 := Try.sizeOf4,
  v4 := Try.zeroValue4,
  t5 := Try.underlying5,
  a5 := Try.isAgg5,
  z5 := Try.sizeOf5,
  v5 := Try.zeroValue5,
  t9 := Try.underlying9,
  a9 := Try.isAgg9,
  z9 := Try.sizeOf9,
  v9 := Try.zeroValue9,
  t22 := Try.underlying54,
  a22 := Try.isAgg54,
  z22 := Try.sizeOf54,
  v22 := Try.zeroValue54,
  a24 := Try.isAgg23,
  z24 := Try.sizeOf23,
  t25 := Try.underlying66,
  a25 := Try.isAgg66,
  z25 := Try.sizeOf66,
  v25 := Try.zeroValue66,
  t39 := Try.underlying71,
  a39 := Try.isAgg71,
  z39 := Try.sizeOf71,
  v39 := Try.zeroValue71,
  t45 := Try.underlying74,
  a45 := Try.isAgg74,
  z45 := Try.sizeOf74,
  v45 := Try.zeroValue74,
  t46 := Try.underlying75,
  a46 := Try.isAgg75,
  z46 := Try.sizeOf75,
  v46 := Try.zeroValue75,
  t50 := Try.underlying79,
  a50 := Try.isAgg79,
  z50 := Try.sizeOf79,
  v50 := Try.zeroValue79,
  t53 := Try.underlying82,
  a53 := Try.isAgg82,
  z53 := Try.sizeOf82,
  v53 := Try.zeroValue82,
  t55 := Try.underlying59,
  a55 := Try.isAgg59,
  z55 := Try.sizeOf59,
  v55 := Try.zeroValue59,
  t66 := Try.underlying84,
  a66 := Try.isAgg84,
  z66 := Try.sizeOf84,
  v66 := Try.zeroValue84,
  t70 := Try.underlying88,
  a70 := Try.isAgg88,
  z70 := Try.sizeOf88,
  v70 := Try.zeroValue88,
  t76 := Try.underlying90,
  a76 := Try.isAgg90,
  z76 := Try.sizeOf90,
  v76 := Try.zeroValue90,
  t77 := Try.underlying91,
  a77 := Try.isAgg91,
  z77 := Try.sizeOf91,
  v77 := Try.zeroValue91 }

/-- what stands for a time in the order: what is no number comes last -/
def fK (x : Nat) : Int := if fnan x then 9223372036854775808 else fkey x
theorem fkey_lt (x : Nat) : fkey x < 9223372036854775808 := by unfold fkey; split <;> omega
theorem cmpT_lt (x y : Nat) : (cmpT x y < 0) ↔ fK x < fK y := by
  unfold cmpT fK
  have h1 := fkey_lt x
  have h2 := fkey_lt y
  cases hx : fnan x <;> cases hy : fnan y
  · simp only [Bool.false_eq_true, if_false]
    rw [flt_key hx hy, fgt_key hx hy]
    by_cases h : fkey x < fkey y
    · simp [h]
    · simp only [h, decide_false, Bool.false_eq_true, if_false]
      split <;> simp
  · simp [h1]
  · simp; omega
  · simp
theorem ltOf_T (x y : Nat) : ltOf cmpT x y = decide (fK x < fK y) := by
  unfold ltOf
  rw [Bool.eq_iff_iff]
  simp [cmpT_lt]
theorem swoT : SWO (ltOf cmpT) where
  irrefl x := by rw [ltOf_T]; simp
  trans x y z h1 h2 := by rw [ltOf_T] at *; simp at *; omega
  ntrans x y z h1 h2 := by rw [ltOf_T] at *; simp at *; omega

theorem heap_sortWorld {w : World} {blk off n : Nat} {d : Array Nat} {os : Array Obj} {k : Nat} (hk : k < w.heap.size) (hb : k ≠ blk) :
    (sortWorld (Value.float .f64) w blk off n d os).heap[k]? = w.heap[k]? := by
  unfold sortWorld
  rw [heap_grow_old _ _ (by simpa [Sort.ahead] using hk)]
  unfold putRow mapBlock
  simp only
  rw [Array.getElem?_modify, if_neg (by omega)]
  rfl
theorem size_sortWorld {w : World} {blk off n : Nat} {d : Array Nat} {os : Array Obj} : w.heap.size ≤ (sortWorld (Value.float .f64) w blk off n d os).heap.size := by
  unfold sortWorld
  simp [Sort.ahead]

theorem sort_ok : SortOk Try.prog 34 35 := by
  intro b off cap xs w hlen hbl hne hc
  have hH : Holds (Value.float .f64) w b off xs.toArray := by
    intro j hj
    have hj' : j < xs.length := by simpa using hj
    have := hc j hj'
    refine ⟨?_, this.2⟩
    rw [this.1]
    simp [List.getD, hj']
  have eg : ∀ args w, (callFunc 35 args).run Try.prog w = .ok (.enter 35 args) w := enters_of Try.func35 (by kernel_rfl) rfl
  have hcmp : CmpReads Try.prog 35 #[] (Value.float .f64) cmpT b off xs.toArray.size w := fun m os dk _ x y =>
    (times_any x y _).mono fun e w' ⟨he, hw⟩ => ⟨he, 0, hw.symm⟩
  have hS := Any.slices_SortFunc sortL (Value.float .f64) (fun _ => rfl) cmpT swoT 35 #[] b off cap xs.toArray w eg hcmp.lays hH hbl (by simpa using hlen)
  have hs : xs.toArray.size = xs.length := by simp
  rw [hs] at hS
  refine Calls.mono (P := Try.prog) hS fun e w' ⟨he, d', n, os, hp, hst, hw⟩ => ⟨he, d'.toList, ?_, ?_, ?_, ?_⟩
  · have h3 := hp.2.2
    have hsz := hp.1
    rw [hs] at hsz
    have e1 : d'.extract 0 xs.length = d' := by rw [← hsz]; simp
    have e2 : xs.toArray.extract 0 xs.length = xs.toArray := by simp
    rw [e1, e2] at h3
    simpa using h3
  · have hsz := hp.1
    rw [hs] at hsz
    rw [List.pairwise_iff_getElem]
    intro i j hi hj hij
    have := hst i j (Nat.zero_le _) hij (by simp at hj; omega)
    rw [ltOf_T] at this
    have h1 : d'[j]! = d'.toList[j] := by simp at hj; simp [hj]
    have h2 : d'[i]! = d'.toList[i] := by simp at hi; simp [hi]
    rw [h1, h2] at this
    have h3 := (cmpT_lt d'.toList[j] d'.toList[i])
    simp at this
    simp only [Array.getElem_toList] at h3 ⊢
    omega
  · intro i hi
    have hsz := hp.1
    rw [hs] at hsz
    rw [hw]
    unfold sortWorld
    rw [cell?_grow _ _ _ (by simpa [Sort.ahead] using hbl)]
    have := cell?_putRow (Value.float .f64) (Sort.ahead w n) b off xs.toArray d' hH (by rw [hsz, hs]) i (by omega)
    rw [this]
    have hi' : i < d'.size := by omega
    simp [List.getD, hi']
  · intro B hB1 hB2
    rw [hw]
    refine ⟨rfl, rfl, rfl, size_sortWorld, fun k hk => heap_sortWorld (by omega) (by omega)⟩

theorem sort_none : SortNone Try.prog 34 35 := by
  intro p cap w
  have hS := AnyF.slices_SortFunc_none (P := Try.prog) (ρ := sortL_ren) { sortL with } p cap (.func (.func 35) #[] #[]) w
  exact Calls.mono (P := Try.prog) hS fun e w' ⟨he, hw⟩ => ⟨he, hw.symm⟩
end Go.Proofs.Ytjoclapnjnmlkaa
