/-
  REGIONS THAT LOAD A CELL AND STORE INTO IT LAST: S is asked behind every operation until one of T (stores that wait for the loads) has come up. No program is walked here.
-/
import Derived.Test.YtkifmhfgplhabaaHV
namespace Go.Proofs.Ytkifmhfgplhabaa.HU
open Go.RowKit Go.Proofs.YtkifmhfgplhabaaW.PrintWords Go.Proofs.YtkifmhfgplhabaaW.PrintLast Go.Proofs.YtkifmhfgplhabaaW.PrintMore
set_option linter.unusedVariables false
section
variable {P : Program} {ops : Array Oper} {Q : Exit → Act → World → Prop} {md : Region.Mode} {S : World → Prop} {T : Nat → Bool}
/-- has one of T come up? -/
def pastB (T : Nat → Bool) (ld : Array Bool) : Bool := (List.range ld.size).any fun t => T t && ld.getD t false
theorem past_spec {ld : Array Bool} : pastB T ld = true ↔ ∃ t, T t = true ∧ ld.getD t false = true := by
  unfold pastB
  rw [List.any_eq_true]
  constructor
  · rintro ⟨t, _, h⟩
    simp only [Bool.and_eq_true] at h
    exact ⟨t, h⟩
  · rintro ⟨t, h1, h2⟩
    refine ⟨t, List.mem_range.2 ?_, by rw [h1, h2]; rfl⟩
    rcases Nat.lt_or_ge t ld.size with h | h
    · exact h
    · simp [Array.getElem?_eq_none h] at h2
theorem past_set {ld : Array Bool} {i : Nat} (h : pastB T ld = true) : pastB T (ld.setIfInBounds i true) = true := by
  obtain ⟨t, h1, h2⟩ := past_spec.1 h
  exact past_spec.2 ⟨t, h1, getD_set_true h2⟩
theorem past_back {ld : Array Bool} {i : Nat} (hT : T i = false) (h : pastB T (ld.setIfInBounds i true) = true) : pastB T ld = true := by
  obtain ⟨t, h1, h2⟩ := past_spec.1 h
  refine past_spec.2 ⟨t, h1, ?_⟩
  have hne : i ≠ t := by
    rintro rfl
    rw [hT] at h1
    cases h1
  rwa [getD_set_ne false hne] at h2
/-- whatever comes up next; S behind all, till one of T has come up -/
def anyT (P : Program) (md : Region.Mode) (ops : Array Oper) (Q : Exit → Act → World → Prop) (S : World → Prop) (T : Nat → Bool) : Nat → Array Bool → Act → World → Prop
  | 0, ld, a, w => Region.ready md ops ld = [] ∧ Q .normal a w
  | f + 1, ld, a, w => (Region.ready md ops ld = [] → Q .normal a w) ∧ ∀ i ∈ Region.ready md ops ld, wpOp P ops Q i (fun a' w' => (pastB T (ld.setIfInBounds i true) = true ∨ S w') ∧ anyT P md ops Q S T f (ld.setIfInBounds i true) a' w') a w
theorem any_of_T : ∀ (f : Nat) (ld : Array Bool) (a : Act) (w : World), anyT P md ops Q S T f ld a w → wpAny P md ops Q f ld a w
  | 0, _, _, _, h => h
  | f + 1, _, _, _, h => ⟨h.1, fun i hi => wpOp_mono (fun a' w' h' => any_of_T f _ a' w' h'.2) (h.2 i hi)⟩
/-- each of T waits for i -/
def waits (md : Region.Mode) (ops : Array Oper) (T : Nat → Bool) (i : Nat) : Bool :=
  (List.range ops.size).all fun t => !T t || (match ops[t]? with | some o => o.after.any fun e => Region.binds md e && e.on == i | none => true)
theorem waits_spec {i t : Nat} {o : Oper} (h : waits md ops T i = true) (ht : T t = true) (ho : ops[t]? = some o) : ∃ e ∈ o.after, Region.binds md e = true ∧ e.on = i := by
  have hl := (Array.getElem?_eq_some_iff.1 ho).1
  have h1 := List.all_eq_true.1 h t (List.mem_range.2 hl)
  simp only [ht, Bool.not_true, Bool.false_or, ho] at h1
  obtain ⟨e, he, hb⟩ := Array.any_eq_true'.1 h1
  simp only [Bool.and_eq_true, beq_iff_eq] at hb
  exact ⟨e, he, hb⟩
theorem not_on {i : Nat} {ld : Array Bool} {oj : Oper} (hr : i ∈ Region.ready md ops ld) (hall : ∀ e ∈ oj.after, Region.binds md e = true → ld.getD e.on false = true) : ∀ e ∈ oj.after, Region.binds md e = true → e.on ≠ i := by
  intro e he hb heq
  have h1 := hall e he hb
  have h0 := (mem_ready.1 hr).1
  rw [heq] at h1
  rcases Nat.lt_or_ge i ld.size with h' | h'
  · simp [h'] at h0 h1
    rw [h0] at h1
    cases h1
  · simp [Array.getElem?_eq_none h'] at h1
theorem free_set {i j : Nat} {oi : Oper} {ld : Array Bool} (hjun : ld.getD j true = false) (hfree : ∀ k ok, ops[k]? = some ok → k ≠ i → ld.getD k true = false → (∀ e ∈ ok.after, Region.binds md e = true → e.on ≠ i) → oi.apart ops ok = true) :
    ∀ k ok, ops[k]? = some ok → k ≠ i → (ld.setIfInBounds j true).getD k true = false → (∀ e ∈ ok.after, Region.binds md e = true → e.on ≠ i) → oi.apart ops ok = true := by
  intro k ok hk hki hun hno
  refine hfree k ok hk hki ?_ hno
  by_cases hjk : j = k
  · subst hjk
    exact hjun
  · rw [getD_set_ne true hjk] at hun
    exact hun
/-- a load under S may be taken first -/
theorem anyT_first {i : Nat} {oi : Oper} {v : Value} (hi : ops[i]? = some oi) (hsel : ∀ (j : Nat) (o : Oper) cs b, ops[j]? = some o → o.op ≠ .select cs b) (hT : waits md ops T i = true) (hTi : T i = false)
    (hQ : ∀ c a w, Q (.panic c) (a.put oi.dst v) w → Q (.panic c) a w) : ∀ (f : Nat) (ld : Array Bool) (a : Act) (w : World),
      (∀ j oj, ops[j]? = some oj → j ≠ i → ld.getD j true = false → (∀ e ∈ oj.after, Region.binds md e = true → e.on ≠ i) → oi.apart ops oj = true) →
      i ∈ Region.ready md ops ld → pastB T ld = false → YieldsIf P ops S oi v a → S w → anyT P md ops Q S T f (ld.setIfInBounds i true) (a.put oi.dst v) w → anyT P md ops Q S T (f + 1) ld a w := by
  intro f
  induction f with
  | zero =>
    intro ld a w _ hr _ hy hS H
    refine ⟨fun h => (by rw [h] at hr; cases hr), fun j hj => ?_⟩
    by_cases hji : j = i
    · subst hji
      exact hy.wpOp hi hS ⟨.inr hS, H⟩
    · have := ready_mono hj hji
      rw [H.1] at this
      cases this
  | succ f ih =>
    intro ld a w hfree hr hp hy hS H
    refine ⟨fun h => (by rw [h] at hr; cases hr), fun j hj => ?_⟩
    by_cases hji : j = i
    · subst hji
      exact hy.wpOp hi hS ⟨.inr hS, H⟩
    · obtain ⟨hjun, oj, hoj, hall⟩ := mem_ready.1 hj
      have hnot := not_on hr hall
      have hTj : T j = false := by
        cases ht : T j with
        | false => rfl
        | true =>
          obtain ⟨e, he, hb, hon⟩ := waits_spec hT ht hoj
          exact absurd hon (hnot e he hb)
      have hp' : pastB T (ld.setIfInBounds j true) = false := by
        cases h : pastB T (ld.setIfInBounds j true) with
        | false => rfl
        | true => rw [past_back hTj h] at hp; cases hp
      have h2 := wpOp_putIf hoj (hfree j oj hoj hji hjun hnot) (fun cs b => hsel i oi cs b hi) (fun cs b => hsel j oj cs b hoj) hQ hy (H.2 j (ready_mono hj hji))
      refine wpOp_mono (fun a' w' h3 => ?_) h2
      have hS' : S w' := h3.2.1.resolve_left (fun h => by
        rw [← Array.setIfInBounds_comm _ _ hji] at h
        rw [past_back hTi h] at hp'
        cases hp')
      refine ⟨.inr hS', ih (ld.setIfInBounds j true) a' w' (free_set hjun hfree) (ready_mono hr (Ne.symm hji)) hp' h3.1 hS' ?_⟩
      rw [Array.setIfInBounds_comm _ _ hji]
      exact h3.2.2
/-- what yields in whatever world may be taken first -/
theorem anyT_firstP {i : Nat} {oi : Oper} {v : Value} (hi : ops[i]? = some oi) (hsel : ∀ (j : Nat) (o : Oper) cs b, ops[j]? = some o → o.op ≠ .select cs b) (hTi : T i = false)
    (hQ : ∀ c a w, Q (.panic c) (a.put oi.dst v) w → Q (.panic c) a w) : ∀ (f : Nat) (ld : Array Bool) (a : Act) (w : World),
      (∀ j oj, ops[j]? = some oj → j ≠ i → ld.getD j true = false → (∀ e ∈ oj.after, Region.binds md e = true → e.on ≠ i) → oi.apart ops oj = true) →
      i ∈ Region.ready md ops ld → YieldsIf P ops (fun _ => True) oi v a → (pastB T ld = true ∨ S w) → anyT P md ops Q S T f (ld.setIfInBounds i true) (a.put oi.dst v) w → anyT P md ops Q S T (f + 1) ld a w := by
  intro f
  induction f with
  | zero =>
    intro ld a w _ hr hy hS H
    refine ⟨fun h => (by rw [h] at hr; cases hr), fun j hj => ?_⟩
    by_cases hji : j = i
    · subst hji
      exact hy.wpOp hi trivial ⟨hS.imp past_set id, H⟩
    · have := ready_mono hj hji
      rw [H.1] at this
      cases this
  | succ f ih =>
    intro ld a w hfree hr hy hS H
    refine ⟨fun h => (by rw [h] at hr; cases hr), fun j hj => ?_⟩
    by_cases hji : j = i
    · subst hji
      exact hy.wpOp hi trivial ⟨hS.imp past_set id, H⟩
    · obtain ⟨hjun, oj, hoj, hall⟩ := mem_ready.1 hj
      have hnot := not_on hr hall
      have h2 := wpOp_putIf hoj (hfree j oj hoj hji hjun hnot) (fun cs b => hsel i oi cs b hi) (fun cs b => hsel j oj cs b hoj) hQ hy (H.2 j (ready_mono hj hji))
      refine wpOp_mono (fun a' w' h3 => ?_) h2
      have hS' : pastB T (ld.setIfInBounds j true) = true ∨ S w' := h3.2.1.imp (fun h => by
        rw [← Array.setIfInBounds_comm _ _ hji] at h
        exact past_back hTi h) id
      refine ⟨hS', ih (ld.setIfInBounds j true) a' w' (free_set hjun hfree) (ready_mono hr (Ne.symm hji)) h3.1 hS' ?_⟩
      rw [Array.setIfInBounds_comm _ _ hji]
      exact h3.2.2
theorem op_at {l : List Oper} {i : Nat} {o : Oper} (h : l[i]? = some o) : l.toArray[i]? = some o := by simpa using h
theorem takeT {l : List Oper} {i : Nat} {oi : Oper} {v : Value} {f : Nat} {ld : Array Bool} {a : Act} {w : World} (hi : l[i]? = some oi) (hs : Region.noSelect l.toArray = true) (hf : Region.free md l.toArray ld i = true) (hr : (Region.ready md l.toArray ld).contains i = true)
    (hT : waits md l.toArray T i = true) (hTi : T i = false) (hp : pastB T ld = false) (hQ : ∀ c a w, Q (.panic c) (a.put oi.dst v) w → Q (.panic c) a w) (hy : YieldsIf P l.toArray S oi v a) (hS : S w) (h : anyT P md l.toArray Q S T f (ld.setIfInBounds i true) (a.put oi.dst v) w) : anyT P md l.toArray Q S T (f + 1) ld a w :=
  anyT_first (op_at hi) (Region.noSelect_spec hs) hT hTi hQ f ld a w (Region.free_spec (op_at hi) hf) (by simpa using hr) hp hy hS h
theorem takeP {l : List Oper} {i : Nat} {oi : Oper} {v : Value} {f : Nat} {ld : Array Bool} {a : Act} {w : World} (hi : l[i]? = some oi) (hs : Region.noSelect l.toArray = true) (hf : Region.free md l.toArray ld i = true) (hr : (Region.ready md l.toArray ld).contains i = true)
    (hTi : T i = false) (hQ : ∀ c a w, Q (.panic c) (a.put oi.dst v) w → Q (.panic c) a w) (hy : YieldsIf P l.toArray (fun _ => True) oi v a) (hS : S w) (h : anyT P md l.toArray Q S T f (ld.setIfInBounds i true) (a.put oi.dst v) w) : anyT P md l.toArray Q S T (f + 1) ld a w :=
  anyT_firstP (op_at hi) (Region.noSelect_spec hs) hTi hQ f ld a w (Region.free_spec (op_at hi) hf) (by simpa using hr) hy (.inr hS) h
/-- each of a few -/
def AllT (P : Program) (md : Region.Mode) (ops : Array Oper) (Q : Exit → Act → World → Prop) (S : World → Prop) (T : Nat → Bool) (f : Nat) (ld : Array Bool) (a : Act) (w : World) (rs : List Nat) : Prop :=
  ∀ i ∈ rs, wpOp P ops Q i (fun a' w' => (pastB T (ld.setIfInBounds i true) = true ∨ S w') ∧ anyT P md ops Q S T f (ld.setIfInBounds i true) a' w') a w
theorem anyT_all {rs : List Nat} {f : Nat} {ld : Array Bool} {a : Act} {w : World} (hr : Region.ready md ops ld = rs) (hne : rs ≠ []) (h : AllT P md ops Q S T f ld a w rs) : anyT P md ops Q S T (f + 1) ld a w :=
  ⟨fun h0 => absurd (hr ▸ h0) hne, hr ▸ h⟩
theorem AllT.nil {f : Nat} {ld : Array Bool} {a : Act} {w : World} : AllT P md ops Q S T f ld a w [] := fun _ h => by cases h
theorem consT {l : List Oper} {f : Nat} {ld : Array Bool} {a : Act} {w : World} {i : Nat} {o : Oper} {rs : List Nat} (ho : l[i]? = some o)
    (h : ∀ K' : Act → World → Prop, Shut (∀ a w, S w → (S w → anyT P md l.toArray Q S T f (ld.setIfInBounds i true) a w) → K' a w) → if Region.wanted o (yielded l.toArray a.tmps) = true then Oper.wp P o a w K' Q else K' (a.put o.dst undef) w)
    (hs : AllT P md l.toArray Q S T f ld a w rs) : AllT P md l.toArray Q S T f ld a w (i :: rs) := fun j hj => by
  rcases List.mem_cons.1 hj with rfl | hj
  · exact wpOp_step (op_at ho) (fun K' hK => h K' (fun a w hS hW => hK a w ⟨.inr hS, hW hS⟩))
  · exact hs j hj
/-- one of T, or what comes behind: it comes up alone -/
theorem lastT {l : List Oper} {f : Nat} {ld : Array Bool} {a : Act} {w : World} {i : Nat} {o : Oper} (ho : l[i]? = some o) (hT : pastB T (ld.setIfInBounds i true) = true)
    (h : ∀ K' : Act → World → Prop, Shut (∀ a w, anyT P md l.toArray Q S T f (ld.setIfInBounds i true) a w → K' a w) → if Region.wanted o (yielded l.toArray a.tmps) = true then Oper.wp P o a w K' Q else K' (a.put o.dst undef) w) : AllT P md l.toArray Q S T f ld a w [i] := fun j hj => by
  rcases List.mem_cons.1 hj with rfl | hj
  · exact wpOp_step (op_at ho) (fun K' hK => h K' (fun a w hW => hK a w ⟨.inl hT, hW⟩))
  · cases hj
theorem anyT_done {ld : Array Bool} {a : Act} {w : World} (hr : Region.ready md ops ld = []) (h : Q .normal a w) : ∀ f, anyT P md ops Q S T f ld a w
  | 0 => ⟨hr, h⟩
  | _ + 1 => ⟨fun _ => h, by rw [hr]; simp⟩
theorem region_T {id : Nat} {a : Act} {w : World} (S : World → Prop) (T : Nat → Bool) (hm : P.follows .mixedOrders = true) (h : anyT P .any ops Q S T ops.size (Array.replicate ops.size false) a w.drew) : (Code.region id ops true).wp P Q a w :=
  wp_region_any hm (any_of_T _ _ _ _ h)
end
end Go.Proofs.Ytkifmhfgplhabaa.HU
