/-
  CONTRACTS BY HAND (paths, 11): the document's stack: its state, many, Left, Next: what is answered, what the stack is then; what else was there stays.
-/
import Derived.Test.YtfmlpcdbllpcaaaPuD
namespace Go.Proofs.Ytfmlpcdbllpcaaa.HQ
open Go.Proofs.Ytfmlpcdbllpcaaa.HD Go.Proofs.Ytfmlpcdbllpcaaa.HU Go.RowKit Go.Proofs.Ytfmlpcdbllpcaaa.HK Go.Proofs.Ytfmlpcdbllpcaaa.HP Go.Proofs.YtfmlpcdbllpcaaaW.PrintWords Go.Proofs.YtfmlpcdbllpcaaaW.PrintLast Go.Proofs.YtfmlpcdbllpcaaaW.PrintMore
set_option linter.unusedVariables false
set_option linter.unusedSimpArgs false
abbrev Pt := S34
/-- the document's stack: its block, its three rows -/
structure Rf (W : World) (base : Nat) (ok : Nat → Prop) (g : Nat) (vp vo va : Value) (ls : List Lv) : Prop where
  blk : W.heap[g]? = some (.cells #[vp, vo, va] 31 (0, 0))
  hg : base ≤ g
  rp : Kd.Q k34 34 W base ok vp (ls.map (·.f0))
  ro : Kd.Q Kd.bool 4 W base ok vo (ls.map (·.f1))
  ra : Kd.Q (Kd.int .i64) 3 W base ok va (ls.map (·.f2))
section
variable {W W' : World} {base : Nat} {ok : Nat → Prop} {g : Nat} {vp vo va : Value} {ls : List Lv}
theorem Rf.below (h : Rf W base ok g vp vo va ls) (hb : Below W.heap.size W W') : Rf W' base ok g vp vo va ls := ⟨blk_below h.blk hb, h.hg, Kd.Q_below h.rp hb, Kd.Q_below h.ro hb, Kd.Q_below h.ra hb⟩
theorem Rf.drew (h : Rf W base ok g vp vo va ls) : Rf W.drew base ok g vp vo va ls := h.below (below_drew (Below.refl _ _))
theorem Rf.drewN (h : Rf W base ok g vp vo va ls) (m : Nat) : Rf (W.drewN m) base ok g vp vo va ls := h.below (pw_below_drewN (Below.refl _ _) m)
/-- a level of it: where it lies, what it reads as. -/
theorem Rf.lev (h : Rf W base ok g vp vo va ls) (i : Nat) (x : Lv) (hi : ls[i]? = some x) :
    ∃ bp op cp bo oo co ba oa ca A c, vp = .slice (some ⟨bp, op, none⟩) ls.length cp ∧ vo = .slice (some ⟨bo, oo, none⟩) ls.length co ∧ va = .slice (some ⟨ba, oa, none⟩) ls.length ca ∧
      W.cell? ⟨bp, op + i * 3, none⟩ = some (.int .i64 x.f0.f0) ∧ W.cell? ⟨bp, op + i * 3 + 1, none⟩ = some (.int .i64 x.f0.f1) ∧ W.cell? ⟨bp, op + i * 3 + 2, none⟩ = some (.slice A x.f0.f2.length c) ∧
      W.cell? ⟨bo, oo + i, none⟩ = some (.bool x.f1) ∧ W.cell? ⟨ba, oa + i, none⟩ = some (.int .i64 x.f2) ∧ W.frozen? ⟨ba, oa + i, none⟩ = false ∧
      x.f0.f2.length ≤ c ∧ Kd.C k43 W A x.f0.f2.length x.f0.f2 ∧ base ≤ ba ∧ ba ≠ g := by
  have hil : i < ls.length := (List.getElem?_eq_some_iff.1 hi).1
  obtain ⟨bp, op, cp, hvp, hbp, _, cells, hcp⟩ := Kd.Q_form h.rp (by simp; omega)
  obtain ⟨bo, oo, co, hvo, hbo, _, cells2, hco⟩ := Kd.Q_form h.ro (by simp; omega)
  obtain ⟨ba, oa, ca, hva, hba, _, cells3, hca⟩ := Kd.Q_form h.ra (by simp; omega)
  rw [List.length_map] at hvp hvo hva
  have rp := h.rp
  have ro := h.ro
  have ra := h.ra
  have hgb := h.blk
  subst hvp hvo hva
  obtain ⟨c, hcl, hM, hcc, hfr⟩ := Kd.Q_elem rp z34 (i : Int) (by omega) (by omega)
  rw [Int.toNat_natCast] at hM hcc hfr
  have hx : (ls.map (·.f0)).getD i z34 = x.f0 := by simp [List.getD, hi]
  rw [hx] at hM
  obtain ⟨v2, hce, hR⟩ := k34_openM hM
  obtain ⟨A, cc, hv2, hcl2, hC⟩ := Kd.R_reads hR
  subst hv2
  have hsz : (k34).sz = 3 := rfl
  rw [hsz] at hcc
  have hb := Kd.Q_cell false ro (i : Int) (by omega) (by omega)
  have ha := Kd.Q_cell (0 : Int) ra (i : Int) (by omega) (by omega)
  have hbx : rdOf false (ls.map (·.f1)) (i : Int) = x.f1 := by simp [rdOf, List.getD, hi]
  have hax : rdOf (0 : Int) (ls.map (·.f2)) (i : Int) = x.f2 := by simp [rdOf, List.getD, hi]
  rw [hbx, Int.toNat_natCast] at hb
  rw [hax, Int.toNat_natCast] at ha
  refine ⟨bp, op, cp, bo, oo, co, ba, oa, ca, A, cc, rfl, rfl, rfl, ?_, ?_, ?_, hb.1, ha.1, ha.2, hcl2, hC, hba, ?_⟩
  · exact hcc 0 _ (by rw [hce]; rfl)
  · exact hcc 1 _ (by rw [hce]; rfl)
  · exact hcc 2 _ (by rw [hce]; rfl)
  · rintro rfl
    rw [hca] at hgb
    injection hgb with hgb
    injection hgb with _ h2
    exact absurd (show (3 : Nat) = 31 from h2) (by decide)
theorem Rf.max (h : Rf W base ok g vp vo va ls) : ls.length ≤ 9223372036854775807 := by
  obtain ⟨A, c, _, _, hc⟩ := Kd.Q_reads h.rp
  have := Kd.C_max hc
  rwa [List.length_map] at this
theorem Rf.forms (h : Rf W base ok g vp vo va ls) : ∃ A c A2 c2 A3 c3, vp = .slice A ls.length c ∧ vo = .slice A2 ls.length c2 ∧ va = .slice A3 ls.length c3 ∧ ls.length ≤ c ∧ ls.length ≤ c2 ∧ ls.length ≤ c3 := by
  obtain ⟨A, c, h1, h2, _⟩ := Kd.Q_reads h.rp
  obtain ⟨A2, c2, h3, h4, _⟩ := Kd.Q_reads h.ro
  obtain ⟨A3, c3, h5, h6, _⟩ := Kd.Q_reads h.ra
  rw [List.length_map] at h1 h2 h3 h4 h5 h6
  exact ⟨A, c, A2, c2, A3, c3, h1, h3, h5, h2, h4, h6⟩
end
theorem E34r : ∀ q, q ∈ 34 :: (k34).E → q ≠ 31 := by decide
theorem E4r : ∀ q, q ∈ 4 :: (Kd.bool).E → q ≠ 31 := by decide
theorem E3r : ∀ q, q ∈ 3 :: (Kd.int .i64).E → q ≠ 31 := by decide
theorem E34a : ∀ q, q ∈ 34 :: (k34).E → q ≠ 3 := by decide
theorem E4a : ∀ q, q ∈ 4 :: (Kd.bool).E → q ≠ 3 := by decide
set_option maxHeartbeats 2000000 in
theorem rmany_ok (base : Nat) (ok : Nat → Prop) (g : Nat) (vp vo va : Value) (ls : List Lv) (i : Nat) (x : Lv) (w : World) (h : Rf w base ok g vp vo va ls) (hi : ls[i]? = some x) (hf : x.f0.f2.length ≤ 1000) :
    Calls Try.prog 23 #[.pointer (some ⟨g, 0, none⟩), .int .i64 i] w fun e w' => e = .returned (.int .i64 (manyI x)) ∧ w = w' := by
  have hil : i < ls.length := (List.getElem?_eq_some_iff.1 hi).1
  have hm := h.max
  obtain ⟨bp, op, cp, bo, oo, co, ba, oa, ca, A, c, rfl, rfl, rfl, c0, c1, c2, b0, a0, f0, hlc, hC, _⟩ := h.lev i x hi
  have hg0 : w.cell? ⟨g, 0, none⟩ = some (.slice (some ⟨bp, op, none⟩) ls.length cp) := (blk_cell h.blk 0).trans rfl
  have hg1 : w.cell? ⟨g, 1, none⟩ = some (.slice (some ⟨bo, oo, none⟩) ls.length co) := (blk_cell h.blk 1).trans rfl
  clear hC f0 a0 h hi
  have hb : x.f1 = true ∨ x.f1 = false := by cases x.f1 <;> simp
  rcases hb with hb | hb
  · have HM : Aside0 (manyI x = (x.f0.f2.length : Int) + 1) := ⟨by unfold manyI; rw [hb, if_pos rfl]⟩
    rw [hb] at b0
    clear hb
    go_enter Try.func23, Try.ntmps23
    go_wp2
    go_ret
    exact ⟨ret_int HM.out.symm, rfl⟩
  · have HM : Aside0 (manyI x = (x.f0.f2.length : Int)) := ⟨by unfold manyI; rw [hb, if_neg (by simp)]⟩
    rw [hb] at b0
    clear hb
    go_enter Try.func23, Try.ntmps23
    go_wp2
    go_ret
    exact ⟨ret_int HM.out.symm, rfl⟩
end Go.Proofs.Ytfmlpcdbllpcaaa.HQ
