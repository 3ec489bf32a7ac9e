/-
  CONTRACTS BY HAND (the stable sort, 11): slices.SortStableFunc at askers: by color, by key, by number.
-/
import Derived.Test.YtkifmhfgplhabaaDoorSrJ
import Derived.Test.YtkifmhfgplhabaaDoorHK
namespace Go.Proofs.YtkifmhfgplhabaaDoor.HS
open Go.Proofs Go.Shelf Go.RowKit Go.Lib Go.Sort Go.Proofs.YtkifmhfgplhabaaDoor.HU Go.Proofs.YtkifmhfgplhabaaDoor.HK Go.Proofs.YtkifmhfgplhabaaDoorW.PrintWords Go.Proofs.YtkifmhfgplhabaaDoorW.PrintLast Go.Proofs.YtkifmhfgplhabaaDoorW.PrintMore
set_option linter.unusedVariables false
set_option linter.unusedSimpArgs false
set_option linter.unusedSectionVars false
abbrev Asd := S67
def LtE (x y : El) : Prop := x.c < y.c ∨ x.c = y.c ∧ (x.k < y.k ∨ x.k = y.k ∧ (x.i < y.i ∨ x.i = y.i ∧ x.r < y.r))
instance (x y : El) : Decidable (LtE x y) := by unfold LtE; exact inferInstance
def ltI (x y : El) : Bool := decide (LtE x y)
theorem ltI_true {x y : El} : ltI x y = true ↔ LtE x y := decide_eq_true_iff
theorem ltI_false {x y : El} : ltI x y = false ↔ ¬ LtE x y := decide_eq_false_iff_not
theorem ltI_swo : SWO ltI := by
  refine ⟨fun x => ltI_false.2 (by unfold LtE; omega), fun x y z h1 h2 => ?_, fun x y z h1 h2 => ?_⟩
  · rw [ltI_true] at *; unfold LtE at *; omega
  · rw [ltI_false] at *; unfold LtE at *; omega
theorem ltI_anti (x y : El) (h1 : ltI x y = false) (h2 : ltI y x = false) : x = y := by
  rw [ltI_false] at *
  unfold LtE at *
  cases x; cases y
  simp only [El.mk.injEq] at *
  omega
theorem cmp_neg {x y : Int} : compareInt x y < 0 ↔ x < y := by
  unfold compareInt
  split
  · omega
  · split <;> omega
theorem cmp_zero {x y : Int} : compareInt x y = 0 ↔ x = y := by
  unfold compareInt
  split
  · omega
  · split <;> omega
theorem cfE_neg {x y : El} : cfE x y < 0 ↔ x.c < y.c ∨ x.c = y.c ∧ x.k < y.k := by
  unfold cfE orI
  by_cases h : compareInt x.c y.c = 0
  · rw [if_pos h, cmp_neg]
    rw [cmp_zero] at h
    omega
  · rw [if_neg h, cmp_neg]
    rw [cmp_zero] at h
    omega
theorem agrE : Agr (ltOf cfE) ltI El.i := by
  intro x y h
  have e : ltOf cfE y x = decide (y.c < x.c ∨ y.c = x.c ∧ y.k < x.k) := by
    unfold ltOf
    exact decide_eq_decide.2 cfE_neg
  rw [e]
  unfold ltI
  refine decide_eq_decide.2 ?_
  unfold LtE
  omega
/-! ## the plain sort -/
def ins1 (x : El) : List El → List El
  | [] => [x]
  | y :: t => if ltI x y then x :: y :: t else y :: ins1 x t
def isort : List El → List El
  | [] => []
  | x :: t => ins1 x (isort t)
theorem ins1_perm (x : El) : ∀ l, (ins1 x l).Perm (x :: l)
  | [] => List.Perm.refl _
  | y :: t => by
    unfold ins1
    split
    · exact List.Perm.refl _
    · exact (List.Perm.cons y (ins1_perm x t)).trans (List.Perm.swap x y t)
theorem isort_perm : ∀ l, (isort l).Perm l
  | [] => List.Perm.refl _
  | x :: t => (ins1_perm x _).trans (List.Perm.cons x (isort_perm t))
theorem ins1_sorted (x : El) : ∀ l : List El, l.Pairwise (fun a b => ltI b a = false) → (ins1 x l).Pairwise (fun a b => ltI b a = false)
  | [], _ => by simp [ins1]
  | y :: t, h => by
    unfold ins1
    have hy := (List.pairwise_cons.1 h)
    split
    · rename_i hx
      refine List.pairwise_cons.2 ⟨fun z hz => ?_, h⟩
      rcases List.mem_cons.1 hz with rfl | hz
      · exact asym ltI_swo hx
      · exact le_trans_ ltI_swo (asym ltI_swo hx) (hy.1 z hz)
    · rename_i hx
      have hx' : ltI x y = false := by simpa using hx
      refine List.pairwise_cons.2 ⟨fun z hz => ?_, ins1_sorted x t hy.2⟩
      rcases List.mem_cons.1 ((ins1_perm x t).mem_iff.1 hz) with rfl | hz
      · exact hx'
      · exact hy.1 z hz
theorem isort_sorted : ∀ l, (isort l).Pairwise (fun a b => ltI b a = false)
  | [] => List.Pairwise.nil
  | x :: t => ins1_sorted x _ (isort_sorted t)
theorem sorted_of_pairwise {l : List El} (h : l.Pairwise (fun a b => ltI b a = false)) : SortedIn ltI 0 l.length l.toArray := by
  intro i j _ hij hj
  have hi : i < l.length := by omega
  rw [List.pairwise_iff_getElem] at h
  have := h i j hi hj hij
  simpa [hi, hj] using this
theorem sorted_is {l : List El} {d' : Array El} (hp : PermIn 0 l.length l.toArray d') (hs : SortedIn ltI 0 l.length d') : d'.toList = isort l := by
  have e := (isort_perm l).length_eq
  have h1 := sorted_unique_holds ltI_swo ltI_anti l.toArray d' (by simpa using hp) (by simpa using hs)
  have h2 := sorted_unique_holds ltI_swo ltI_anti l.toArray (isort l).toArray ⟨by simp [e], fun i hi => by
      have : (l.toArray).size ≤ i := by rcases hi with hi | hi; omega; exact hi
      have h1 : ¬ i < l.length := by simpa using this
      have h2 : ¬ i < (isort l).length := by rw [e]; exact h1
      simp [h1, h2], by
      have : (isort l).length ≤ l.length := by omega
      simpa [List.take_of_length_le, this] using isort_perm l⟩ (by have := sorted_of_pairwise (isort_sorted l); rw [e] at this; simpa using this)
  rw [h1]
  simpa using h2.symm
def toEl (x : Asd) (i : Nat) : El := ⟨x.f0.f0, x.f0.f1, x.f1, i⟩
def ofEl (e : El) : Asd := ⟨⟨e.c, e.k⟩, e.r⟩
def els (xs : List Asd) : List El := xs.zipIdx.map (fun p => toEl p.1 p.2)
theorem els_len (xs : List Asd) : (els xs).length = xs.length := by simp [els]
theorem els_get {xs : List Asd} {i : Nat} (hi : i < xs.length) : (els xs)[i]'(by rw [els_len]; exact hi) = toEl xs[i] i := by simp [els]
def sortA (xs : List Asd) : List Asd := (isort (els xs)).map ofEl
theorem sortA_len (xs : List Asd) : (sortA xs).length = xs.length := by unfold sortA; rw [List.length_map, (isort_perm _).length_eq, els_len]
end Go.Proofs.YtkifmhfgplhabaaDoor.HS
