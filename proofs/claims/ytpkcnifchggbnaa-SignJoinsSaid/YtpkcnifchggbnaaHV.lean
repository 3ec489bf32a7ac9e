/-
  LAWS OF append([]T{}, xs...) AT A STEP OF A REGION: a row of one's own with the same elements. No program is walked here.
-/
import Derived.Test.YtpkcnifchggbnaaHU
namespace Go.Proofs.Ytpkcnifchggbnaa.HU
open Go.RowKit Go.Proofs.YtpkcnifchggbnaaW.PrintWords Go.Proofs.YtpkcnifchggbnaaW.PrintLast Go.Proofs.YtpkcnifchggbnaaW.PrintMore
set_option linter.unusedVariables false
theorem R_empty_at {α : Type} (d : Kd α) {e : Nat} {W : World} {base b : Nat} {ok : Nat → Prop} (hblk : W.heap[b]? = some (.cells #[] e (0, 0))) (hb : base ≤ b) (hok : ok b) : d.R e W base ok (.slice (some ⟨b, 0, none⟩) 0 0) [] :=
  ⟨fun k hk => ownB hk ▸ hok, [], ⟨by simp, .inr ⟨b, 0, #[], rfl, hb, hblk, Nat.le_refl _, Nat.zero_le _, by simp, by simp⟩⟩, Reps.none _ _⟩
section
variable {P : Program} {ops : Array Oper} {rest : List Oper} {o : Oper} {a : Act} {Q : Exit → Act → World → Prop} {Kc : Act → World → Prop} {α : Type}
/-- where a row that was made lies -/
def AtOr (v : Value) (b n : Nat) : Prop := v.ownBlock = some b ∨ ∃ k, v.ownBlock = some k ∧ n ≤ k
/-- append([]T{}, ys...), the empty row at block b. -/
theorem app_new_step (d : Kd α) {Rr : α → List Value → Prop} {W : World} (base b : Nat) (hw : Region.wanted o (yielded ops a.tmps) = true) (s x : Operand) (t e : TypeId) (z : Value) (bytes : Nat)
    (ho : o.op = .call { callee := .builtin .append, args := #[s, x], argTypes := #[t, t] }) (hgd : o.guard = none)
    (ht : P.underlying t = some (.slice e)) (hinfo : (P.info? e).map (fun i => (i.zero, i.size, i.bytes)) = some (some z, d.sz, bytes)) (hz : z.cells.size = d.sz) (hs0 : 0 < d.sz) (hb0 : 0 < bytes)
    (ys : List α) (A : Option Addr) (m c : Nat) (ok okp : Nat → Prop) (hs : a.eval s = .slice (some ⟨b, 0, none⟩) 0 0) (hx : a.eval x = .slice A m c)
    (hblk : W.heap[b]? = some (.cells #[] e (0, 0))) (hbb : base ≤ b) (hokb : ok b) (HR : ReadsRow Rr d.sz W A m ys) (hKM : ∀ x cs, Rr x cs → d.M W base okp x cs) (hokp : ∀ k, okp k → ok k ∧ k ≠ b) (hfresh : ∀ k, W.heap.size ≤ k → ok k)
    (hl : m * bytes ≤ 140737488355328)
    (h : ∀ v1 w1, d.R e w1 base ok v1 ys → AtOr v1 b W.heap.size → Below b W w1 → Kept W w1 (fun k => k = b) → Kc (a.put o.dst v1) w1) :
    if Region.wanted o (yielded ops a.tmps) = true then Oper.wp P o a W Kc Q else Kc (a.put o.dst undef) W := by
  refine step_of_list hw ?_
  have hlt := blk_lt hblk
  refine Kd.R_append_rows d (w0 := W) base hgd s x t e z bytes ho ht hinfo hz hs0 hb0 (.slice (some ⟨b, 0, none⟩) 0 0) [] ys A m c ok okp hs hx (R_empty_at d hblk hbb hokb) HR hKM (fun k hk => ⟨(hokp k hk).1, fun he => (hokp k hk).2 (ownB he.symm).symm⟩) hfresh (Below.refl _ _) (by omega) (by simpa using hl) ?_
  intro v1 w1 hr hb hg hat
  show Kc _ _
  refine h v1 w1 (by simpa using hr) ?_ ?_ ?_
  · rcases hat with hat | hat
    · exact .inl (hat.trans rfl)
    · exact .inr hat
  · exact (Below.refl b W).grown hg (Nat.le_of_lt hlt) (fun k hk => Nat.le_of_eq (ownB hk))
  · exact Kept.of_grown hg (Kept.refl W _) (fun k hk => .inl (ownB hk).symm)
/-- append(v, x), the element in a block of its own (anywhere). -/
theorem app_one_step (d : Kd α) {w0 W : World} (base b : Nat) (hw : Region.wanted o (yielded ops a.tmps) = true) (s x : Operand) (t e : TypeId) (z : Value) (bytes : Nat)
    (ho : o.op = .call { callee := .builtin .append, args := #[s, x], argTypes := #[t, t] })
    (ht : P.underlying t = some (.slice e)) (hinfo : (P.info? e).map (fun i => (i.zero, i.size, i.bytes)) = some (some z, d.sz, bytes)) (hz : z.cells.size = d.sz) (hs0 : 0 < d.sz) (hb0 : 0 < bytes)
    (v : Value) (xs : List α) (p : α) (cs : List Value) (ok okp : Nat → Prop) (hs : a.eval s = v) (hx : a.eval x = .slice (some ⟨b, 0, none⟩) 1 1) (hblk : W.heap[b]? = some (.cells cs.toArray e (0, 0)))
    (hp : d.M W base okp p cs) (hokp : ∀ k, okp k → ok k ∧ some k ≠ v.ownBlock) (hfresh : ∀ k, W.heap.size ≤ k → ok k)
    (HO : d.Q e W base ok v xs) (HB : Below base w0 W) (hbase : base ≤ W.heap.size) (hl : (xs.length + 1) * bytes ≤ 140737488355328)
    (h : ∀ v1 w1, d.Q e w1 base ok v1 (xs ++ [p]) → Below base w0 w1 → W.grownBy w1 v.ownBlock → (v1.ownBlock = v.ownBlock ∨ ∃ b, v1.ownBlock = some b ∧ W.heap.size ≤ b) → Kc (a.put o.dst v1) w1) :
    if Region.wanted o (yielded ops a.tmps) = true then Oper.wp P o a W Kc Q else Kc (a.put o.dst undef) W := by
  obtain ⟨h0, inner, hown, hr⟩ := HO
  obtain ⟨i0, hi, hzz⟩ := Option.map_eq_some_iff.1 hinfo
  simp only [Prod.mk.injEq] at hzz
  obtain ⟨hz0, hz1, hz2⟩ := hzz
  have hlen : xs.length + 1 ≤ 140737488355328 := Nat.le_trans (Nat.le_mul_of_pos_right _ hb0) hl
  have hcl := d.K_len (d.K_of_M hp)
  obtain ⟨v1, w1, hrun, hq1, hg, hat⟩ := q_append (P := P) W base t o.type e i0 z d.sz bytes ht hi hz0 hz1 hz2 hz hs0 v xs.length inner hown ⟨b, 0, none⟩ 1 1 cs (by rw [hcl, Nat.one_mul])
    (fun j u hu => by rw [add_plain, blk_cell hblk, ← Array.getElem?_toList]; exact hu) (d.K_one (d.K_of_M hp)) (by omega) (by simp only [maxLen]; omega) hl hbase
  rw [if_pos hw]
  unfold Oper.wp execOp
  simp only [ho, resolve, invoke, builtin, Sem.run_bind, Sem.run_pure, Result.andThen_ok, List.map_toArray, List.map_cons, List.map_nil, hs, hx, hrun]
  exact h v1 w1 (Kd.Q_appended h0 hr hp hokp hfresh hq1 hg hat) (HB.grown hg hbase (fun k hk => (q_typed hown k hk).1)) hg hat
end
end Go.Proofs.Ytpkcnifchggbnaa.HU
