/-
  PLAIN (the stable sort, 1): exchanges of runs, rotations, merging two sorted runs in place. No program is walked here.
-/
import Derived.Sort.LotA
namespace Go.Proofs.YtkifmhfgplhabaaDoor.HS
open Go.Sort
set_option linter.unusedVariables false
set_option linter.unusedSimpArgs false
set_option linter.unusedSectionVars false
variable {α : Type} [Inhabited α]
/-- the run of n at a and the one at b, exchanged -/
def SwR (d d' : Array α) (a b n : Nat) : Prop := d'.size = d.size ∧ ∀ j, d'[j]! = if a ≤ j ∧ j < a + n then d[b + (j - a)]! else if b ≤ j ∧ j < b + n then d[a + (j - b)]! else d[j]!
theorem SwR.zero (d : Array α) (a b : Nat) : SwR d d a b 0 := by
  refine ⟨rfl, fun j => ?_⟩
  (repeat' split) <;> first | rfl | omega | (congr 1; omega)
theorem SwR.step {d dk : Array α} {a b i : Nat} (h : SwR d dk a b i) (hab : a + i < b) (hb : b + i < d.size) : SwR d (swp dk (a + i) (b + i)) a b (i + 1) := by
  refine ⟨(swp_size _ _ _).trans h.1, fun j => ?_⟩
  rw [swp_get dk (by rw [h.1]; omega) (by rw [h.1]; omega)]
  simp only [h.2]
  (repeat' split) <;> first | rfl | omega | (congr 1; omega)
/-- the runs [a, m) and [m, b) in each other's place -/
def Rot (d d' : Array α) (a m b : Nat) : Prop := d'.size = d.size ∧ ∀ j, d'[j]! = if a ≤ j ∧ j < a + (b - m) then d[m + (j - a)]! else if a + (b - m) ≤ j ∧ j < b then d[j - (b - m)]! else d[j]!
theorem Rot.triv_l (d : Array α) {m b : Nat} (h : m ≤ b) : Rot d d m m b := by
  refine ⟨rfl, fun j => ?_⟩
  (repeat' split) <;> first | rfl | omega | (congr 1; omega)
theorem Rot.triv_r (d : Array α) (a m : Nat) : Rot d d a m m := by
  refine ⟨rfl, fun j => ?_⟩
  (repeat' split) <;> first | rfl | omega | (congr 1; omega)
theorem Rot.eq {d d' : Array α} {m i : Nat} (hi : i ≤ m) (h : SwR d d' (m - i) m i) : Rot d d' (m - i) m (m + i) := by
  refine ⟨h.1, fun j => ?_⟩
  simp only [h.2]
  (repeat' split) <;> first | rfl | omega | (congr 1; omega)
theorem Rot.gt {d d1 d' : Array α} {m i j : Nat} (hi : i ≤ m) (hj : 0 < j) (hij : j < i) (h : SwR d d1 (m - i) m j) (hr : Rot d1 d' (m - (i - j)) m (m + j)) : Rot d d' (m - i) m (m + j) := by
  refine ⟨hr.1.trans h.1, fun j => ?_⟩
  simp only [hr.2, h.2]
  (repeat' split) <;> first | rfl | omega | (congr 1; omega)
theorem Rot.lt {d d1 d' : Array α} {m i j : Nat} (hi : i ≤ m) (h0 : 0 < i) (hij : i < j) (h : SwR d d1 (m - i) (m + j - i) i) (hr : Rot d1 d' (m - i) m (m + (j - i))) : Rot d d' (m - i) m (m + j) := by
  refine ⟨hr.1.trans h.1, fun j => ?_⟩
  simp only [hr.2, h.2]
  (repeat' split) <;> first | rfl | omega | (congr 1; omega)
/-- an element is moved one place on, again and again -/
theorem Rot.up {d dk : Array α} {a k : Nat} (hak : a ≤ k) (hk : k + 1 < d.size) (h : Rot d dk a (a + 1) (k + 1)) : Rot d (swp dk k (k + 1)) a (a + 1) (k + 2) := by
  refine ⟨(swp_size _ _ _).trans h.1, fun j => ?_⟩
  rw [swp_get dk (by rw [h.1]; omega) (by rw [h.1]; omega)]
  simp only [h.2]
  (repeat' split) <;> first | rfl | omega | (congr 1; omega)
theorem Rot.down {d dk : Array α} {m k : Nat} (hkm : k < m) (hm : m < d.size) (h : Rot d dk (k + 1) m (m + 1)) : Rot d (swp dk (k + 1) k) k m (m + 1) := by
  refine ⟨(swp_size _ _ _).trans h.1, fun j => ?_⟩
  rw [swp_get dk (by rw [h.1]; omega) (by rw [h.1]; omega)]
  simp only [h.2]
  (repeat' split) <;> first | rfl | omega | (congr 1; omega)
/-! ## Merging -/
variable {lt lt' : α → α → Bool}
/-- two sorted runs; of one of each, lt says what the order lt' says -/
structure Mg (lt lt' : α → α → Bool) (a m b : Nat) (d : Array α) : Prop where
  l : SortedIn lt' a m d
  r : SortedIn lt' m b d
  x : ∀ i j, a ≤ i → i < m → m ≤ j → j < b → lt d[j]! d[i]! = lt' d[j]! d[i]!
/-- all of [a, s) is at most all of [s, b) -/
def Cut (lt' : α → α → Bool) (a s b : Nat) (d : Array α) : Prop := ∀ i j, a ≤ i → i < s → s ≤ j → j < b → lt' d[j]! d[i]! = false
theorem Cut.sorted {a s b : Nat} {d : Array α} (h : Cut lt' a s b d) (h1 : SortedIn lt' a s d) (h2 : SortedIn lt' s b d) : SortedIn lt' a b d := by
  intro i j ha hij hb
  by_cases h3 : j < s
  · exact h1 i j ha hij h3
  · by_cases h4 : i < s
    · exact h i j ha h4 (by omega) hb
    · exact h2 i j (by omega) hij hb
theorem Cut.perm_l {a s b : Nat} {d d' : Array α} (h : Cut lt' a s b d) (hs : s ≤ d.size) (hp : PermIn a s d d') : Cut lt' a s b d' := by
  intro i j ha hi hj hb
  rw [hp.2.1 j (.inr hj)]
  exact permIn_all d d' a s (fun x => lt' d[j]! x = false) hs hp (fun i h1 h2 => h i j h1 h2 hj hb) i ha hi
theorem Cut.perm_r {a s b : Nat} {d d' : Array α} (h : Cut lt' a s b d) (hs : b ≤ d.size) (hp : PermIn s b d d') : Cut lt' a s b d' := by
  intro i j ha hi hj hb
  rw [hp.2.1 i (.inl hi)]
  exact permIn_all d d' s b (fun x => lt' x d[i]! = false) hs hp (fun j h1 h2 => h i j ha hi h1 h2) j hj hb
theorem SortedIn.same {a b : Nat} {d d' : Array α} (h : SortedIn lt' a b d) (he : ∀ i, a ≤ i → i < b → d'[i]! = d[i]!) : SortedIn lt' a b d' := by
  intro i j ha hij hb
  rw [he i ha (by omega), he j (by omega) hb]
  exact h i j ha hij hb
theorem Mg.same {a m b : Nat} {d d' : Array α} (h : Mg lt lt' a m b d) (hab : a ≤ m) (hmb : m ≤ b) (he : ∀ i, a ≤ i → i < b → d'[i]! = d[i]!) : Mg lt lt' a m b d' :=
  ⟨SortedIn.same h.l (fun i h1 h2 => he i h1 (by omega)), SortedIn.same h.r (fun i h1 h2 => he i (by omega) h2), fun i j h1 h2 h3 h4 => by rw [he i h1 (by omega), he j (by omega) h4]; exact h.x i j h1 h2 h3 h4⟩
theorem le_trans_ (hS : SWO lt') {x y z : α} (h1 : lt' y x = false) (h2 : lt' z y = false) : lt' z x = false := hS.ntrans _ _ _ h2 h1
theorem lt_of_le_lt (hS : SWO lt') {x y z : α} (h1 : lt' y x = false) (h2 : lt' y z = true) : lt' x z = true := by
  cases h : lt' x z with
  | true => rfl
  | false => rw [hS.ntrans _ _ _ h1 h] at h2; cases h2
theorem lt_of_lt_le (hS : SWO lt') {x y z : α} (h1 : lt' x y = true) (h2 : lt' z y = false) : lt' x z = true := by
  cases h : lt' x z with
  | true => rfl
  | false => rw [hS.ntrans _ _ _ h h2] at h1; cases h1
theorem asym (hS : SWO lt') {x y : α} (h : lt' x y = true) : lt' y x = false := by
  cases h2 : lt' y x with
  | false => rfl
  | true => have := hS.trans _ _ _ h h2; rw [hS.irrefl] at this; cases this
theorem SortedIn.le (hS : SWO lt') {a b : Nat} {d : Array α} (h : SortedIn lt' a b d) {i j : Nat} (h1 : a ≤ i) (h2 : i ≤ j) (h3 : j < b) : lt' d[j]! d[i]! = false := by
  rcases Nat.lt_or_ge i j with h4 | h4
  · exact h i j h1 h4 h3
  · obtain rfl : i = j := by omega
    exact hS.irrefl _
/-- what is asked of the two places at which the runs are parted -/
structure Part (lt' : α → α → Bool) (a s m e b : Nat) (d : Array α) : Prop where
  as : a ≤ s
  sm : s ≤ m
  me : m ≤ e
  eb : e ≤ b
  c1 : ∀ i j, a ≤ i → i < s → e ≤ j → j < b → lt' d[j]! d[i]! = false
  c2 : ∀ i j, s ≤ i → i < m → m ≤ j → j < e → lt' d[j]! d[i]! = true
theorem Part.cut (hS : SWO lt') {a s m e b : Nat} {d d1 : Array α} (h : Part lt' a s m e b d) (hm : Mg lt lt' a m b d) (hr : Rot d d1 s m e) : Cut lt' a (s + (e - m)) b d1 := by
  obtain ⟨as, sm, me, eb, c1, c2⟩ := h
  have e1 : ∀ i, i < s → d1[i]! = d[i]! := fun i hi => by rw [hr.2, if_neg (by omega), if_neg (by omega)]
  have e2 : ∀ i, s ≤ i → i < s + (e - m) → d1[i]! = d[m + (i - s)]! := fun i h1 h2 => by rw [hr.2, if_pos ⟨h1, h2⟩]
  have e3 : ∀ i, s + (e - m) ≤ i → i < e → d1[i]! = d[i - (e - m)]! := fun i h1 h2 => by rw [hr.2, if_neg (by omega), if_pos ⟨h1, h2⟩]
  have e4 : ∀ i, e ≤ i → d1[i]! = d[i]! := fun i hi => by rw [hr.2, if_neg (by omega), if_neg (by omega)]
  intro i j ha hi hj hb
  by_cases h1 : i < s
  · rw [e1 i h1]
    by_cases h2 : j < e
    · rw [e3 j hj h2]; exact hm.l _ _ ha (by omega) (by omega)
    · rw [e4 j (by omega)]; exact c1 _ _ ha h1 (by omega) hb
  · rw [e2 i (by omega) hi]
    by_cases h2 : j < e
    · rw [e3 j hj h2]; exact asym hS (c2 _ _ (by omega) (by omega) (by omega) (by omega))
    · rw [e4 j (by omega)]; exact hm.r _ _ (by omega) (by omega) hb
theorem Part.left {a s m e b : Nat} {d d1 : Array α} (h : Part lt' a s m e b d) (hm : Mg lt lt' a m b d) (hr : Rot d d1 s m e) : Mg lt lt' a s (s + (e - m)) d1 := by
  obtain ⟨as, sm, me, eb, c1, c2⟩ := h
  have e1 : ∀ i, i < s → d1[i]! = d[i]! := fun i hi => by rw [hr.2, if_neg (by omega), if_neg (by omega)]
  have e2 : ∀ i, s ≤ i → i < s + (e - m) → d1[i]! = d[m + (i - s)]! := fun i h1 h2 => by rw [hr.2, if_pos ⟨h1, h2⟩]
  refine ⟨fun i j h1 h2 h3 => ?_, fun i j h1 h2 h3 => ?_, fun i j h1 h2 h3 h4 => ?_⟩
  · rw [e1 i (by omega), e1 j h3]; exact hm.l i j h1 h2 (by omega)
  · rw [e2 i h1 (by omega), e2 j (by omega) h3]; exact hm.r _ _ (by omega) (by omega) (by omega)
  · rw [e1 i h2, e2 j h3 h4]; exact hm.x _ _ h1 (by omega) (by omega) (by omega)
theorem Part.right {a s m e b : Nat} {d d1 : Array α} (h : Part lt' a s m e b d) (hm : Mg lt lt' a m b d) (hr : Rot d d1 s m e) : Mg lt lt' (s + (e - m)) e b d1 := by
  obtain ⟨as, sm, me, eb, c1, c2⟩ := h
  have e1 : ∀ i, e ≤ i → d1[i]! = d[i]! := fun i hi => by rw [hr.2, if_neg (by omega), if_neg (by omega)]
  have e2 : ∀ i, s + (e - m) ≤ i → i < e → d1[i]! = d[i - (e - m)]! := fun i h1 h2 => by rw [hr.2, if_neg (by omega), if_pos ⟨h1, h2⟩]
  refine ⟨fun i j h1 h2 h3 => ?_, fun i j h1 h2 h3 => ?_, fun i j h1 h2 h3 h4 => ?_⟩
  · rw [e2 i h1 (by omega), e2 j (by omega) h3]; exact hm.l _ _ (by omega) (by omega) (by omega)
  · rw [e1 i h1, e1 j (by omega)]; exact hm.r _ _ (by omega) (by omega) h3
  · rw [e2 i h1 h2, e1 j h3]; exact hm.x _ _ (by omega) (by omega) (by omega) h4
/-- one element alone on the left -/
theorem one_l (hS : SWO lt') {a i b : Nat} {d d1 : Array α} (h1 : a + 1 ≤ i) (h2 : i ≤ b) (hm : Mg lt lt' a (a + 1) b d) (hlo : ∀ h, a + 1 ≤ h → h < i → lt' d[h]! d[a]! = true) (hhi : ∀ h, i ≤ h → h < b → lt' d[h]! d[a]! = false) (hr : Rot d d1 a (a + 1) i) : SortedIn lt' a b d1 := by
  have e1 : ∀ p, a ≤ p → p + 1 < i → d1[p]! = d[p + 1]! := fun p hp hq => by rw [hr.2, if_pos (by omega)]; congr 1; omega
  have e2 : d1[i - 1]! = d[a]! := by rw [hr.2, if_neg (by omega), if_pos (by omega)]; congr 1; omega
  have e3 : ∀ p, i ≤ p → d1[p]! = d[p]! := fun p hp => by rw [hr.2, if_neg (by omega), if_neg (by omega)]
  intro p q hp hpq hq
  by_cases hp1 : p + 1 < i
  · rw [e1 p hp hp1]
    by_cases hq1 : q + 1 < i
    · rw [e1 q (by omega) hq1]; exact hm.r _ _ (by omega) (by omega) (by omega)
    · by_cases hq2 : q = i - 1
      · rw [hq2, e2]; exact asym hS (hlo _ (by omega) hp1)
      · rw [e3 q (by omega)]; exact hm.r _ _ (by omega) (by omega) hq
  · by_cases hp2 : p = i - 1
    · rw [hp2, e2, e3 q (by omega)]; exact hhi _ (by omega) hq
    · rw [e3 p (by omega), e3 q (by omega)]; exact hm.r _ _ (by omega) hpq hq
/-- one element alone on the right -/
theorem one_r (hS : SWO lt') {a i m : Nat} {d d1 : Array α} (h1 : a ≤ i) (h2 : i ≤ m) (hm : Mg lt lt' a m (m + 1) d) (hlo : ∀ h, a ≤ h → h < i → lt' d[m]! d[h]! = false) (hhi : ∀ h, i ≤ h → h < m → lt' d[m]! d[h]! = true) (hr : Rot d d1 i m (m + 1)) : SortedIn lt' a (m + 1) d1 := by
  have e1 : ∀ p, p < i → d1[p]! = d[p]! := fun p hp => by rw [hr.2, if_neg (by omega), if_neg (by omega)]
  have e2 : d1[i]! = d[m]! := by rw [hr.2, if_pos (by omega)]; congr 1; omega
  have e3 : ∀ p, i < p → p ≤ m → d1[p]! = d[p - 1]! := fun p hp hq => by rw [hr.2, if_neg (by omega), if_pos (by omega)]; congr 1; omega
  intro p q hp hpq hq
  by_cases hp1 : p < i
  · rw [e1 p hp1]
    by_cases hq1 : q < i
    · rw [e1 q hq1]; exact hm.l _ _ hp hpq (by omega)
    · by_cases hq2 : q = i
      · rw [hq2, e2]; exact hlo _ hp hp1
      · rw [e3 q (by omega) (by omega)]; exact hm.l _ _ hp (by omega) (by omega)
  · by_cases hp2 : p = i
    · rw [hp2, e2, e3 q (by omega) (by omega)]; exact asym hS (hhi _ (by omega) (by omega))
    · rw [e3 p (by omega) (by omega), e3 q (by omega) (by omega)]; exact hm.l _ _ (by omega) (by omega) (by omega)
/-- the search of the two places: where all below c have it otherwise, and all above have it so -/
theorem half_lo (hS : SWO lt') {a m b p : Nat} {d : Array α} (hm : Mg lt lt' a m b d) {c t : Nat} (ha : a ≤ t) (htc : t ≤ c) (hc : c < m) (hp : m ≤ p - c) (hpb : p - t < b) (h : lt' d[p - c]! d[c]! = false) : lt' d[p - t]! d[t]! = false :=
  le_trans_ hS (le_trans_ hS (SortedIn.le hS hm.l ha htc hc) h) (SortedIn.le hS hm.r hp (by omega) hpb)
theorem half_hi (hS : SWO lt') {a m b p : Nat} {d : Array α} (hm : Mg lt lt' a m b d) {c t : Nat} (ha : a ≤ c) (hct : c ≤ t) (ht : t < m) (hp : m ≤ p - t) (hpb : p - c < b) (h : lt' d[p - c]! d[c]! = true) : lt' d[p - t]! d[t]! = true :=
  lt_of_le_lt hS (SortedIn.le hS hm.r hp (by omega) hpb) (lt_of_lt_le hS h (SortedIn.le hS hm.l ha hct ht))
end Go.Proofs.YtkifmhfgplhabaaDoor.HS
