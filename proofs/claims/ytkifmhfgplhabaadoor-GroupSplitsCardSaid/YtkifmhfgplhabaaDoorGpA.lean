/-
  CONTRACTS BY HAND (groups, 2): slices.Clone at a row of numbers, own: new memory with the same numbers.
-/
import Derived.Test.YtkifmhfgplhabaaDoorHW
import Derived.Test.YtkifmhfgplhabaaDoorHK
import Derived.Test.YtkifmhfgplhabaaDoorHU
import Derived.Test.YtkifmhfgplhabaaDoorGnA
import Derived.Lib.SliceRun
namespace Go.Proofs.YtkifmhfgplhabaaDoor.HQ
open Go.Proofs.YtkifmhfgplhabaaDoor.HU Go.RowKit Go.Proofs.YtkifmhfgplhabaaDoor.HK Go.Proofs.YtkifmhfgplhabaaDoorW.PrintWords Go.Proofs.YtkifmhfgplhabaaDoorW.PrintLast Go.Proofs.YtkifmhfgplhabaaDoorW.PrintMore
set_option linter.unusedVariables false
set_option linter.unusedSimpArgs false
theorem infoI : (Tryd.prog.info? 3).map (fun i => (i.zero, i.size, i.bytes)) = some (some (.int .i64 0), 1, 8) := by kernel_rfl
theorem R_empty {α : Type} (d : Kd α) (e : Nat) (w : World) : d.R e (w.alloc (.cells #[] e)) w.heap.size (fun _ => True) (.slice (some ⟨w.heap.size, 0, none⟩) 0 0) [] :=
  ⟨fun _ _ => trivial, [], ⟨by simp, .inr ⟨w.heap.size, 0, #[], rfl, Nat.le_refl _, by simpa using heap_alloc_new w _, Nat.le_refl _, Nat.zero_le _, by simp, by simp⟩⟩, Reps.none _ _⟩
theorem clone_c (A0 : Option Addr) (c0 : Nat) (l0 : List Int) (w : World) (hr0 : Kd.C (Kd.int .i64) w A0 l0.length l0) (hc0 : l0.length ≤ c0) (hl : l0.length ≤ 3518437208882) :
    Calls Tryd.prog 26 #[.slice A0 l0.length c0] w fun e w' => ∃ v0_ : Value, e = .returned v0_ ∧ Kd.R (Kd.int .i64) 3 w' w.heap.size (fun _ => True) v0_ l0 ∧ Below w.heap.size w w' := by
  have q25 : ∀ (w : World) (a : Option Addr) (n c n' c' : Nat), (binOp .eql 22 (.slice a n c) (.slice none n' c')).run Tryd.prog w = .ok (.bool a.isNone) w := fun w a n c n' c' => Lib.run_eql_slice_nil w _ _ a n c n' c' Tryd.underlying22
  have HR0 := Aside0.mk hr0
  have HC0 := Aside0.mk hc0
  have HL := Aside0.mk hl
  clear hr0 hc0 hl
  cases A0 with
  | none =>
    have h0 : l0 = [] := by
      by_cases hp : 0 < l0.length
      · obtain ⟨ad, he, _⟩ := HR0.out.2.2 hp
        exact absurd he (by simp)
      · exact List.eq_nil_of_length_eq_zero (by omega)
    subst h0
    go_enter Tryd.func26, Tryd.ntmps26
    go_wp2
    go_ret
    exact ⟨_, rfl, Kd.R_nil _ _ _ _ _, Below.refl _ _⟩
  | some ad =>
    go_enter Tryd.func26, Tryd.ntmps26
    go_wp2_with (at_builtin; refine Kd.R_append_rows (Kd.int .i64) (w0 := w) w.heap.size rfl (.tmp 5) (.tmp 6) 22 3 (.int .i64 0) 8 rfl Tryd.underlying22 infoI rfl (by decide) (by omega) _ [] l0 _ _ _ (fun _ => True) (fun _ => False) rfl rfl ?aO ?aR (fun _ _ h => h) (fun _ h => h.elim) (fun _ _ => trivial) ?aB ?aS ?aL ?_; (case aO => exact R_empty _ _ _); (case aR => exact Kd.C_alloc HR0.out _); (case aB => exact below_alloc (Below.refl _ _) _); (case aS => simp); (case aL => have := HL.out; simp; omega); intro v1 w1 ho hb hg hat)
    go_ret
    exact ⟨_, rfl, by simpa using ho, hb⟩
theorem E24 : ∀ q, q ∈ 3 :: (Kd.int .i64).E → q ≠ 24 := by decide
/-- a group of one's own -/
theorem own_c (s : ByteArray) (A : Option Addr) (c : Nat) (l : List Int) (w : World) (hr : Kd.C (Kd.int .i64) w A l.length l) (hc : l.length ≤ c) (hl : l.length ≤ 3518437208882) :
    Calls Tryd.prog 36 #[.agg #[.string s, .slice A l.length c]] w fun e w' => ∃ v0_ : Value, e = .returned (.agg #[.string s, v0_]) ∧ Kd.R (Kd.int .i64) 3 w' w.heap.size (fun _ => True) v0_ l ∧ Below w.heap.size w w' := by
  have HR := Aside0.mk hr
  clear hr
  go_enter Tryd.func36, Tryd.ntmps36
  go_wp2_with fail
  have hb0 := below_alloc2 w (.cells #[.string s, .slice A l.length c] 24) (.cells #[.string ⟨#[]⟩, .slice none 0 0] 24)
  have H1 := Aside0.mk (blk_alloc (blk_new w (.cells #[.string s, .slice A l.length c] 24)) (.cells #[.string ⟨#[]⟩, .slice none 0 0] 24))
  have H2 := Aside0.mk (blk_second w (.cells #[.string s, .slice A l.length c] 24) (.cells #[.string ⟨#[]⟩, .slice none 0 0] 24))
  refine (clone_c A c l _ (Kd.C_below HR.out hb0) hc hl).mono ?_
  rintro e w1 ⟨v, rfl, hR, hb⟩
  obtain ⟨An, cn, rfl, hln, _⟩ := Kd.R_reads hR
  have H3 := Aside0.mk (blk_below H1.out hb)
  have H4 := Aside0.mk (blk_below H2.out hb)
  have HB := Aside0.mk (below_then hb0 hb0.size hb)
  have HR1 := Aside0.mk hR
  clear hR hb hb0 H1 H2
  have h0 := (blk_cell H3.out 0).trans rfl
  have h1 := (blk_cell H3.out 1).trans rfl
  have f1 := blk_frozen H3.out 1
  have g0 := (blk_cell H4.out 0).trans rfl
  have g1 := (blk_cell H4.out 1).trans rfl
  have k0 := blk_frozen H4.out 0
  have k1 := blk_frozen H4.out 1
  go_wp2
  have B1 := blk_put (cs' := #[.string s, .slice An l.length cn]) H3.out 1 (.slice An l.length cn) rfl
  have C1 := blk_far (p := ⟨w.heap.size, 1, none⟩) H4.out (by show w.heap.size + 1 ≠ w.heap.size; omega) (.slice An l.length cn)
  have C2 := blk_put (cs' := #[.string s, .slice none 0 0]) C1 0 (.string s) rfl
  have C3 := blk_put (cs' := #[.string s, .slice An l.length cn]) C2 1 (.slice An l.length cn) rfl
  have R1 := Kd.R_set HR1.out H3.out E24 1 (.slice An l.length cn)
  have R2 := Kd.R_set R1 C1 E24 0 (.string s)
  have R3 := Kd.R_set R2 C2 E24 1 (.slice An l.length cn)
  refine bodyPost_ret (results_cell_row rfl _ _ (w.heap.size + 1) 24 #[.string s, .slice An l.length cn] (0, 0) _ rfl C3 Tryd.underlying24 rfl (by kernel_rfl)) rfl ?_
  exact ⟨_, rfl, Kd.R_lower R3 (by simp; omega), ((HB.out.setCell (Nat.le_refl _) _).setCell (by show w.heap.size ≤ w.heap.size + 1; omega) _).setCell (by show w.heap.size ≤ w.heap.size + 1; omega) _⟩
end Go.Proofs.YtkifmhfgplhabaaDoor.HQ
