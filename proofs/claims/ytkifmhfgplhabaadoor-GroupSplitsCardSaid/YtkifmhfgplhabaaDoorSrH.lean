/-
  PLAIN (the stable sort, 8): blocks that are sorted, merged two by two; elements know where they stood. No program is walked here.
-/
import Derived.Test.YtkifmhfgplhabaaDoorSrA
import Derived.Sort.WalkA
namespace Go.Proofs.YtkifmhfgplhabaaDoor.HS
open Go.Sort
set_option linter.unusedVariables false
set_option linter.unusedSimpArgs false
set_option linter.unusedSectionVars false
variable {α : Type} [Inhabited α] {lt lt' : α → α → Bool} {idx : α → Nat}
/-- whether a later one is ahead of an earlier one: both orders say the same -/
def Agr (lt lt' : α → α → Bool) (idx : α → Nat) : Prop := ∀ x y, idx x < idx y → lt y x = lt' y x
theorem insInner_eq (hA : Agr lt lt' idx) (a : Nat) : ∀ (j : Nat) (d : Array α), j < d.size → (∀ p, a ≤ p → p < j → idx d[p]! < idx d[j]!) → insInner lt a j d = insInner lt' a j d
  | 0, d, _, _ => by rw [insInner, insInner]
  | j + 1, d, hj, h => by
    rw [insInner, insInner]
    by_cases ha : a < j + 1
    · rw [hA _ _ (h j (by omega) (by omega))]
      split
      · refine insInner_eq hA a j _ (by rw [swp_size]; omega) (fun p h1 h2 => ?_)
        rw [swp_get d hj (by omega), swp_get d hj (by omega), if_neg (by omega), if_neg (by omega), if_pos rfl]
        exact h p h1 (by omega)
      · rfl
    · rw [show decide (j + 1 > a) = false by simpa using ha]
      rfl
theorem insInner_perm (a i : Nat) : ∀ (j : Nat) (d : Array α), a ≤ j → j ≤ i → i < d.size → PermIn a (i + 1) d (insInner lt a j d)
  | 0, d, _, _, _ => by rw [insInner]; exact permIn_refl _ _ _
  | j + 1, d, h1, h2, h3 => by
    rw [insInner]
    split
    · rename_i hc
      have ha : a < j + 1 := by simp at hc; omega
      exact permIn_trans _ _ _ _ _ (swp_permIn d a (i + 1) (j + 1) j h1 (by omega) (by omega) (by omega) (by omega)) (insInner_perm a i j _ (by omega) (by omega) (by rw [swp_size]; exact h3))
    · exact permIn_refl _ _ _
theorem insOuter_eq (hA : Agr lt lt' idx) (a b : Nat) : ∀ (n i : Nat) (d : Array α), n = b - i → a ≤ i → b ≤ d.size → (∀ p q, a ≤ p → p < q → i ≤ q → q < b → idx d[p]! < idx d[q]!) → insOuter lt a b i d = insOuter lt' a b i d := by
  intro n
  induction n with
  | zero => intro i d hn _ _ _; rw [insOuter_stop lt a b i d (by omega), insOuter_stop lt' a b i d (by omega)]
  | succ n ih =>
    intro i d hn hai hb h
    rw [insOuter_go lt a b i d (by omega), insOuter_go lt' a b i d (by omega), insInner_eq hA a i d (by omega) (fun p h1 h2 => h p i h1 h2 (Nat.le_refl _) (by omega))]
    have hp := insInner_perm (lt := lt') a i i d hai (Nat.le_refl _) (by omega)
    refine ih (i + 1) _ (by omega) (by omega) (by rw [hp.1]; exact hb) (fun p q h1 h2 h3 h4 => ?_)
    rw [hp.2.1 q (.inr h3)]
    by_cases hpi : p < i + 1
    · exact permIn_all d _ a (i + 1) (fun x => idx x < idx d[q]!) (by omega) hp (fun p h1 h2 => h p q h1 (by omega) (by omega) h4) p h1 hpi
    · rw [hp.2.1 p (.inr (by omega))]
      exact h p q h1 h2 (by omega) h4
theorem ins_ok (hO : SWO lt') (hA : Agr lt lt' idx) {a b : Nat} {d : Array α} (hab : a ≤ b) (hb : b ≤ d.size) (h : ∀ p q, a ≤ p → p < q → q < b → idx d[p]! < idx d[q]!) : PermIn a b d (insertionSort lt d a b) ∧ SortedIn lt' a b (insertionSort lt d a b) := by
  have e : insertionSort lt d a b = insertionSort lt' d a b := by
    unfold insertionSort
    exact insOuter_eq hA a b _ (a + 1) d rfl (by omega) hb (fun p q h1 h2 h3 h4 => h p q h1 h2 h4)
  rw [e]
  exact insertionSort_holds hO d a b hab hb
/-- a place that no permutation of [a, b) crosses -/
theorem cross_perm {a b c n : Nat} {d d' : Array α} (hc : c ≤ a ∨ b ≤ c) (hbn : b ≤ n) (hb : b ≤ d.size) (hp : PermIn a b d d') (h : ∀ i j, i < c → c ≤ j → j < n → idx d[i]! < idx d[j]!) : ∀ i j, i < c → c ≤ j → j < n → idx d'[i]! < idx d'[j]! := by
  have h1 : ∀ i j, i < c → c ≤ j → j < n → idx d'[i]! < idx d[j]! := fun i j hi hj hn => by
    by_cases hab : a ≤ i ∧ i < b
    · exact permIn_all d d' a b (fun x => idx x < idx d[j]!) hb hp (fun i' h1 h2 => h i' j (by omega) hj hn) i hab.1 hab.2
    · rw [hp.2.1 i (by omega)]; exact h i j hi hj hn
  intro i j hi hj hn
  by_cases hab : a ≤ j ∧ j < b
  · exact permIn_all d d' a b (fun x => idx d'[i]! < idx x) hb hp (fun j' h2 h3 => h1 i j' hi (by omega) (by omega)) j hab.1 hab.2
  · rw [hp.2.1 j (by omega)]; exact h1 i j hi hj hn
/-- each block of bs sorted; what stands in one is of one block -/
structure Bks (lt' : α → α → Bool) (idx : α → Nat) (bs n : Nat) (d : Array α) : Prop where
  x : ∀ k i j, i < k * bs → k * bs ≤ j → j < n → idx d[i]! < idx d[j]!
  s : ∀ k i j, k * bs ≤ i → i < j → j < (k + 1) * bs → j < n → lt' d[j]! d[i]! = false
/-- the first k blocks are sorted -/
structure Ins (lt' : α → α → Bool) (idx : α → Nat) (bs n k : Nat) (d : Array α) : Prop where
  x : ∀ k i j, i < k * bs → k * bs ≤ j → j < n → idx d[i]! < idx d[j]!
  s : ∀ k' i j, k' < k → k' * bs ≤ i → i < j → j < (k' + 1) * bs → j < n → lt' d[j]! d[i]! = false
  u : ∀ p q, k * bs ≤ p → p < q → q < n → idx d[p]! < idx d[q]!
theorem Ins.zero {bs n : Nat} {d : Array α} (h : ∀ p q, p < q → q < n → idx d[p]! < idx d[q]!) : Ins lt' idx bs n 0 d :=
  ⟨fun k i j h1 h2 h3 => h i j (by omega) h3, fun k' i j h1 => by omega, fun p q _ h1 h2 => h p q h1 h2⟩
theorem Ins.step {bs n k b : Nat} {d d' : Array α} (h : Ins lt' idx bs n k d) (hk : k * bs ≤ b) (hb : b ≤ (k + 1) * bs) (hbn : b ≤ n) (hn : n = d.size) (hb2 : b = (k + 1) * bs ∨ b = n) (hp : PermIn (k * bs) b d d') (hs : SortedIn lt' (k * bs) b d') : Ins lt' idx bs n (k + 1) d' := by
  refine ⟨fun k' => cross_perm ?_ hbn (by omega) hp (h.x k'), fun k' i j h1 h2 h3 h4 h5 => ?_, fun p q h1 h2 h3 => ?_⟩
  · by_cases hkk : k' ≤ k
    · exact .inl (Nat.mul_le_mul_right _ hkk)
    · exact .inr (Nat.le_trans hb (Nat.mul_le_mul_right _ (by omega)))
  · by_cases hkk : k' < k
    · have := Nat.mul_le_mul_right bs (show k' + 1 ≤ k from hkk)
      rw [hp.2.1 i (.inl (by omega)), hp.2.1 j (.inl (by omega))]
      exact h.s k' i j hkk h2 h3 h4 h5
    · obtain rfl : k' = k := by omega
      exact hs i j h2 h3 (by omega)
  · rw [hp.2.1 p (.inr (by omega)), hp.2.1 q (.inr (by omega))]
    exact h.u p q (by rw [Nat.succ_mul] at h1; omega) h2 h3
theorem Ins.done {bs n k : Nat} {d : Array α} (h : Ins lt' idx bs n k d) (hk : n ≤ k * bs) : Bks lt' idx bs n d :=
  ⟨h.x, fun k' i j h1 h2 h3 h4 => by
    by_cases hkk : k' < k
    · exact h.s k' i j hkk h1 h2 h3 h4
    · have := Nat.mul_le_mul_right bs (show k ≤ k' by omega)
      omega⟩
/-- the first k pairs of blocks are merged -/
structure Prs (lt' : α → α → Bool) (idx : α → Nat) (bs n k : Nat) (d : Array α) : Prop where
  x : ∀ k i j, i < k * (2 * bs) → k * (2 * bs) ≤ j → j < n → idx d[i]! < idx d[j]!
  s : ∀ k' i j, k' < k → k' * (2 * bs) ≤ i → i < j → j < (k' + 1) * (2 * bs) → j < n → lt' d[j]! d[i]! = false
  u : ∀ k' i j, k * (2 * bs) ≤ i → i < k' * bs → k' * bs ≤ j → j < n → idx d[i]! < idx d[j]!
  v : ∀ k' i j, k * (2 * bs) ≤ i → k' * bs ≤ i → i < j → j < (k' + 1) * bs → j < n → lt' d[j]! d[i]! = false
theorem two (k bs : Nat) : k * (2 * bs) = (2 * k) * bs := by rw [← Nat.mul_assoc, Nat.mul_comm k 2]
theorem Prs.zero {bs n : Nat} {d : Array α} (h : Bks lt' idx bs n d) : Prs lt' idx bs n 0 d :=
  ⟨fun k i j h1 h2 h3 => h.x (2 * k) i j (by rw [← two]; exact h1) (by rw [← two]; exact h2) h3, fun k' i j h1 => by omega, fun k' i j _ h1 h2 h3 => h.x k' i j h1 h2 h3, fun k' i j _ h1 h2 h3 h4 => h.s k' i j h1 h2 h3 h4⟩
theorem Prs.mg {bs n k b : Nat} {d : Array α} (h : Prs lt' idx bs n k d) (hA : Agr lt lt' idx) (hb : b ≤ (k + 1) * (2 * bs)) (hbn : b ≤ n) (hm : k * (2 * bs) + bs ≤ n) : Mg lt lt' (k * (2 * bs)) (k * (2 * bs) + bs) b d := by
  have e1 : (2 * k + 1) * bs = k * (2 * bs) + bs := by rw [Nat.succ_mul, two]
  have e2 : (2 * k + 1 + 1) * bs = (k + 1) * (2 * bs) := by rw [two]; rfl
  refine ⟨fun i j h1 h2 h3 => h.v (2 * k) i j h1 (by rw [← two]; exact h1) h2 (by rw [e1]; exact h3) (by omega), fun i j h1 h2 h3 => h.v (2 * k + 1) i j (by omega) (by rw [e1]; exact h1) h2 (by rw [e2]; omega) (by omega), fun i j h1 h2 h3 h4 => hA _ _ (h.u (2 * k + 1) i j h1 (by rw [e1]; exact h2) (by rw [e1]; exact h3) (by omega))⟩
theorem Prs.step {bs n k b : Nat} {d d' : Array α} (h : Prs lt' idx bs n k d) (hk : k * (2 * bs) ≤ b) (hb : b ≤ (k + 1) * (2 * bs)) (hbn : b ≤ n) (hn : n = d.size) (hb2 : b = (k + 1) * (2 * bs) ∨ b = n) (hp : PermIn (k * (2 * bs)) b d d') (hs : SortedIn lt' (k * (2 * bs)) b d') : Prs lt' idx bs n (k + 1) d' := by
  have e2 : (k + 1) * (2 * bs) = k * (2 * bs) + 2 * bs := Nat.succ_mul _ _
  refine ⟨fun k' => cross_perm ?_ hbn (by omega) hp (h.x k'), fun k' i j h1 h2 h3 h4 h5 => ?_, fun k' i j h1 h2 h3 h4 => ?_, fun k' i j h1 h2 h3 h4 h5 => ?_⟩
  · by_cases hkk : k' ≤ k
    · exact .inl (Nat.mul_le_mul_right _ hkk)
    · exact .inr (Nat.le_trans hb (Nat.mul_le_mul_right _ (by omega)))
  · by_cases hkk : k' < k
    · have := Nat.mul_le_mul_right (2 * bs) (show k' + 1 ≤ k from hkk)
      rw [hp.2.1 i (.inl (by omega)), hp.2.1 j (.inl (by omega))]
      exact h.s k' i j hkk h2 h3 h4 h5
    · obtain rfl : k' = k := by omega
      exact hs i j h2 h3 (by omega)
  · rw [hp.2.1 i (.inr (by omega)), hp.2.1 j (.inr (by omega))]
    exact h.u k' i j (by omega) h2 h3 h4
  · rw [hp.2.1 i (.inr (by omega)), hp.2.1 j (.inr (by omega))]
    exact h.v k' i j (by omega) h2 h3 h4 h5
/-- what is left over is one block: all is merged -/
theorem Prs.done {bs n k : Nat} {d : Array α} (h : Prs lt' idx bs n k d) (hk : n ≤ k * (2 * bs) + bs) : Bks lt' idx (2 * bs) n d :=
  ⟨h.x, fun k' i j h1 h2 h3 h4 => by
    by_cases hkk : k' < k
    · exact h.s k' i j hkk h1 h2 h3 h4
    · have := Nat.mul_le_mul_right (2 * bs) (show k ≤ k' by omega)
      have e1 : (2 * k + 1) * bs = k * (2 * bs) + bs := by rw [Nat.succ_mul, two]
      exact h.v (2 * k) i j (by omega) (by rw [← two]; omega) h2 (by rw [e1]; omega) h4⟩
theorem Bks.whole {bs n : Nat} {d : Array α} (h : Bks lt' idx bs n d) (hb : n ≤ bs) : SortedIn lt' 0 n d := fun i j h1 h2 h3 => h.s 0 i j (by omega) h2 (by omega) h3
end Go.Proofs.YtkifmhfgplhabaaDoor.HS
