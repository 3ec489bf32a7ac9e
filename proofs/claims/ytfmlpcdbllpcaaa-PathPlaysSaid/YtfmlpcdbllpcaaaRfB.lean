/-
  CONTRACTS BY HAND (paths, 12): the document's stack: Left, Next: what is answered, what the stack is then; what else was there stays.
-/
import Derived.Test.YtfmlpcdbllpcaaaRfA
namespace Go.Proofs.Ytfmlpcdbllpcaaa.HQ
open Go.Proofs.Ytfmlpcdbllpcaaa.HD Go.Proofs.Ytfmlpcdbllpcaaa.HU Go.RowKit Go.Proofs.Ytfmlpcdbllpcaaa.HK Go.Proofs.Ytfmlpcdbllpcaaa.HP Go.Proofs.YtfmlpcdbllpcaaaW.PrintWords Go.Proofs.YtfmlpcdbllpcaaaW.PrintLast Go.Proofs.YtfmlpcdbllpcaaaW.PrintMore
set_option linter.unusedVariables false
set_option linter.unusedSimpArgs false
set_option maxHeartbeats 2000000 in
theorem rleft_ok (base : Nat) (ok : Nat → Prop) (g : Nat) (vp vo va : Value) (ls : List Lv) (w : World) (h : Rf w base ok g vp vo va ls) (hf : ∀ x ∈ ls, Fit x) (hn : ls.length ≤ 2000) :
    Calls Try.prog 15 #[.pointer (some ⟨g, 0, none⟩)] w fun e w' => e = .returned (.int .i64 (leftI ls)) ∧ Below w.heap.size w w' := by
  have HS := Aside0.mk h
  have HF := Aside0.mk hf
  obtain ⟨A0, c0, A1, c1, A2, c2, rfl, rfl, rfl, hl0, hl1, hl2⟩ := h.forms
  clear h hf
  go_enter Try.func15, Try.ntmps15
  go_wp2
  go_loopw [3, 4] (fun v3 v4 wr => ∃ i : Nat, i ≤ ls.length ∧ v3 = .int .i64 (leftI (ls.take i)) ∧ v4 = .int .i64 i ∧ Aside0 (Below w.heap.size w wr)) (fun _ v4 _ => ls.length - (intOf v4).toNat)
  case atStart => exact ⟨0, by omega, by rfl, rfl, ⟨Below.refl _ _⟩⟩
  case round =>
    obtain ⟨i, hi, rfl, rfl, HB⟩ := hrel
    have HS1 := Aside0.mk (HS.out.below HB.out)
    have hg0 : wr.cell? ⟨g, 0, none⟩ = some (.slice A0 ls.length c0) := (blk_cell HS1.out.blk 0).trans rfl
    by_cases hlt : i < ls.length
    · obtain ⟨x, hx⟩ : ∃ x, ls[i]? = some x := ⟨ls[i], by simp [hlt]⟩
      have HX := Aside0.mk hx
      have HFx := HF.out x (List.mem_of_getElem? hx)
      have HT := Aside0.mk (take_snoc hx)
      have hbd := leftI_bd (l := ls.take i) (fun y hy => HF.out y (List.mem_of_mem_take hy))
      have hlen : (ls.take i).length ≤ 2000 := by rw [List.length_take]; omega
      obtain ⟨q0, q1, q2, q3, q4⟩ := many_of HFx
      have q5 := HFx.2.1
      obtain ⟨bp, op, cp, bo, oo, co, ba, oa, ca, A, c, e0, e1, e2, p0, p1, p2, b0, a0, f0, hlc, hC, _⟩ := HS1.out.lev i x hx
      injection e0 with e0 _ e3
      injection e1 with e1 _ e4
      injection e2 with e2 _ e5
      subst e0 e3 e1 e4 e2 e5
      have hg2 : wr.cell? ⟨g, 2, none⟩ = some (.slice (some ⟨ba, oa, none⟩) ls.length c2) := (blk_cell HS1.out.blk 2).trans rfl
      clear hC f0 HFx hx b0 p0 p1 p2
      obtain ⟨L, hL⟩ : ∃ L, leftI (ls.take i) = L := ⟨_, rfl⟩
      have HL := Aside0.mk hL
      rw [hL] at hbd ⊢
      clear hL
      have hL0 : 0 ≤ L := hbd.1
      have hL1 : L ≤ 2002000 := by omega
      have hl8 := Int.toNat_natCast i
      clear hbd hlen
      go_wp2_with fail
      go_region_held3 (fun W => W.cell? ⟨g, 2, none⟩ = some (.slice (some ⟨ba, oa, none⟩) ls.length c2) ∧ W.cell? ⟨ba, oa + i, none⟩ = some (.int .i64 x.f2))
        (go_keep)
        (first | (go_at_call 23; refine (rmany_ok base ok g _ _ _ ls i x _ HS1.out.drew HX.out q4).mono ?_; rintro e w' ⟨rfl, rfl⟩))
      go_wp2
      go_roundw
      case rel =>
        have he : leftI (ls.take (i + 1)) = L + manyI x - 1 - x.f2 := by rw [HT.out, leftI_append, HL.out]; simp [leftI]; omega
        exact ⟨i + 1, by omega, by rw [he, i64w (x := L + manyI x) (by omega) (by omega), i64w (x := L + manyI x - 1) (by omega) (by omega), i64w (by omega) (by omega)], by go_num, ⟨below_drew HB.out⟩⟩
      case measure => simp [intOf]; omega
    · obtain rfl : i = ls.length := by omega
      go_wp2
      go_ret
      exact ⟨ret_int (by rw [List.take_length]), HB.out⟩
end Go.Proofs.Ytfmlpcdbllpcaaa.HQ
