/-
  CONTRACTS BY HAND (groups, 1): the methods of a table that nobody made, and of one without a handle: what each answers; nothing that was there is changed.
-/
import Derived.Test.YtkifmhfgplhabaaDoorHW
namespace Go.Proofs.YtkifmhfgplhabaaDoor.HD
open Go.RowKit Go.Proofs.YtkifmhfgplhabaaDoorW.PrintWords Go.Proofs.YtkifmhfgplhabaaDoorW.PrintLast Go.Proofs.YtkifmhfgplhabaaDoorW.PrintMore
set_option linter.unusedVariables false
set_option linter.unusedSimpArgs false

theorem ret_int {k : IntKind} {a b : Int} (h : a = b) : Ending.returned (.int k a) = .returned (.int k b) := by rw [h]
theorem ret_bool {a b : Bool} (h : a = b) : Ending.returned (.bool a) = .returned (.bool b) := by rw [h]
/-- is a group more than is gone through here? -/
theorem great_calls (s : ByteArray) (A : Option Addr) (n c : Nat) (w : World) :
    Calls Tryd.prog 9 #[.agg #[.string s, .slice A n c]] w fun e w' => e = .returned (.bool (decide (80 < n) || decide (200 < s.size))) ∧ Below w.heap.size w w' := by
  by_cases h : 80 < n
  · have h1 : decide ((80 : Int) < (n : Int)) = true := by simpa using (by omega : (80 : Int) < n)
    go_enter Tryd.func9, Tryd.ntmps9
    go_wp2
    go_ret
    exact ⟨ret_bool (by simp [h]), below_alloc (Below.refl _ _) _⟩
  · have h1 : decide ((80 : Int) < (n : Int)) = false := by simpa using (by omega : ¬(80 : Int) < n)
    go_enter Tryd.func9, Tryd.ntmps9
    go_wp2
    go_ret
    exact ⟨ret_bool (by simp [h]; omega), below_alloc (Below.refl _ _) _⟩

/-- no table, or one without a handle -/
def NoTab (W : World) (v : Value) : Prop := v = .pointer none ∨ ∃ b, v = .pointer (some ⟨b, 0, none⟩) ∧ W.cell? ⟨b, 0, none⟩ = some (.slice none 0 0)
theorem NoTab.below {w w' : World} {v : Value} (h : NoTab w v) (b : Below w.heap.size w w') : NoTab w' v := by
  rcases h with rfl | ⟨b', rfl, h⟩
  · exact .inl rfl
  · exact .inr ⟨b', rfl, pw_cell_below b h⟩
theorem NoTab.alloc {w : World} {v : Value} (h : NoTab w v) (o : Obj) : NoTab (w.alloc o) v := h.below (below_alloc (Below.refl _ _) _)
theorem NoTab.drew {w : World} {v : Value} (h : NoTab w v) : NoTab w.drew v := h
theorem many_no (v : Value) (w : World) (h : NoTab w v) : Calls Tryd.prog 37 #[v] w fun e w' => e = .returned (.int .i64 0) ∧ w = w' := by
  rcases h with rfl | ⟨b, rfl, h⟩
  · go_enter Tryd.func37, Tryd.ntmps37
    go_wp2
    go_ret
    exact ⟨rfl, rfl⟩
  · go_enter Tryd.func37, Tryd.ntmps37
    go_wp2
    go_ret
    exact ⟨rfl, rfl⟩
theorem add_no (v : Value) (s : ByteArray) (A : Option Addr) (n c : Nat) (w : World) (h : NoTab w v) :
    Calls Tryd.prog 22 #[v, .agg #[.string s, .slice A n c]] w fun e w' => e = .returned (.tuple #[.int .i64 0, .int .i64 1]) ∧ Below w.heap.size w w' := by
  go_enter Tryd.func22, Tryd.ntmps22
  go_wp2_with fail
  refine (many_no _ _ (h.alloc _)).mono ?_
  rintro e w1 ⟨rfl, rfl⟩
  go_wp2
  go_ret2
  exact ⟨rfl, below_alloc (Below.refl _ _) _⟩
theorem find_no (v : Value) (k : Int) (w : World) (h : NoTab w v) :
    Calls Tryd.prog 38 #[v, .int .i64 k] w fun e w' => e = .returned (.tuple #[.pointer none, .int .i64 1]) ∧ w = w' := by
  go_enter Tryd.func38, Tryd.ntmps38
  go_wp2_with fail
  refine (many_no _ _ h).mono ?_
  rintro e w1 ⟨rfl, rfl⟩
  go_wp2
  go_ret2
  exact ⟨rfl, rfl⟩
theorem at_no (v : Value) (k : Int) (w : World) (h : NoTab w v) :
    Calls Tryd.prog 24 #[v, .int .i64 k] w fun e w' => e = .returned (.tuple #[.agg #[.string ⟨#[]⟩, .slice none 0 0], .int .i64 1]) ∧ Below w.heap.size w w' := by
  go_enter Tryd.func24, Tryd.ntmps24
  go_wp2_with fail
  refine (find_no _ _ _ (h.alloc _)).mono ?_
  rintro e w1 ⟨rfl, rfl⟩
  go_wp2
  refine bodyPost_ret (results_ct rfl _ _ w.heap.size 24 #[.string ⟨#[]⟩, .slice none 0 0] (0, 0) _ rfl (blk_new _ _) Tryd.underlying24 rfl (by kernel_rfl)) rfl ?_
  exact ⟨rfl, below_alloc (Below.refl _ _) _⟩
theorem free_no (v : Value) (k : Int) (w : World) (h : NoTab w v) :
    Calls Tryd.prog 23 #[v, .int .i64 k] w fun e w' => e = .returned (.int .i64 1) ∧ w = w' := by
  go_enter Tryd.func23, Tryd.ntmps23
  go_wp2_with fail
  refine (find_no _ _ _ h).mono ?_
  rintro e w1 ⟨rfl, rfl⟩
  go_wp2
  go_ret
  exact ⟨rfl, rfl⟩
end Go.Proofs.YtkifmhfgplhabaaDoor.HD
