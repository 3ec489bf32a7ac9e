/-
  CONTRACTS BY HAND (paths, 17): the program's stack and the document's, side by side: what is done to one leaves the other. No program is walked here but Push where it takes nothing.
-/
import Derived.Test.YtfmlpcdbllpcaaaDoorPuE
namespace Go.Proofs.YtfmlpcdbllpcaaaDoor.HQ
open Go.Proofs.YtfmlpcdbllpcaaaDoor.HD Go.Proofs.YtfmlpcdbllpcaaaDoor.HU Go.RowKit Go.Proofs.YtfmlpcdbllpcaaaDoor.HK Go.Proofs.YtfmlpcdbllpcaaaDoor.HP Go.Proofs.YtfmlpcdbllpcaaaDoorW.PrintWords Go.Proofs.YtfmlpcdbllpcaaaDoorW.PrintLast Go.Proofs.YtfmlpcdbllpcaaaDoorW.PrintMore
set_option linter.unusedVariables false
set_option linter.unusedSimpArgs false
theorem push_bad (base : Nat) (ok : Nat → Prop) (g : Nat) (v : Value) (ls : List Lv) (r q : Int) (A : Option Addr) (c : Nat) (l : List Ch) (off : Bool) (w : World) (h : Sq w base ok g v ls)
    (hr : Kd.C k49 w A l.length l) (hc : l.length ≤ c) (hm : mayP r q l = false) :
    Calls Tryd.prog 14 #[.pointer (some ⟨g, 0, none⟩), .agg #[.int .i64 r, .int .i64 q, .slice A l.length c], .bool off] w fun e w' => e = .returned (.int .i64 2) ∧ Below w.heap.size w w' := by
  have hg0 : w.cell? ⟨g, 0, none⟩ = some (.bool true) := (blk_cell h.blk 0).trans rfl
  have HR := Aside0.mk hr
  have hgl := blk_lt h.blk
  clear hr h
  go_enter Tryd.func14, Tryd.ntmps14
  go_wp2_with fail
  have hb1 := below_alloc (Below.refl w.heap.size w) (.cells #[.int .i64 r, .int .i64 q, .slice A l.length c] 38)
  refine (may_c r q A c l _ (Kd.C_below HR.out hb1) hc).mono ?_
  rintro e w1 ⟨rfl, hbx⟩
  have HB := Aside0.mk (below_then hb1 hb1.size hbx)
  clear hb1 hbx
  rw [hm]
  go_wp2
  go_ret
  exact ⟨rfl, HB.out⟩
theorem mayP_pos {r q : Int} {l : List Ch} (h : mayP r q l = true) : 0 < l.length := by
  unfold mayP at h
  simp only [Bool.and_eq_true, decide_eq_true_eq] at h
  exact h.2
theorem fit_new {r q : Int} {l : List Ch} {off : Bool} (h : mayP r q l = true) (hl : l.length ≤ 1000) : Fit (⟨⟨r, q, l⟩, off, 0⟩ : Lv) := by
  have := mayP_pos h
  refine ⟨Int.le_refl _, ?_, hl⟩
  unfold manyI
  show (0 : Int) < _
  split
  · show (0 : Int) < (l.length : Int) + 1
    omega
  · show (0 : Int) < (l.length : Int)
    omega
theorem nextR_le : ∀ (l : List Lv), (nextR l).length ≤ l.length
  | [] => Nat.le_refl _
  | x :: t => by
    unfold nextR
    split
    · simp
    · have := nextR_le t
      simp only [List.length_cons]
      omega
theorem nextF_le (l : List Lv) : (nextF l).length ≤ l.length := by
  unfold nextF
  have := nextR_le l.reverse
  rw [List.length_reverse] at this ⊢
  exact this
theorem nextR_fit : ∀ (l : List Lv), (∀ x ∈ l, Fit x) → ∀ x ∈ nextR l, Fit x
  | [], h => h
  | x :: t, h => by
    unfold nextR
    split
    · rename_i hlt
      intro y hy
      rcases List.mem_cons.1 hy with rfl | hy
      · obtain ⟨h0, h1, h2⟩ := h x (by simp)
        refine ⟨?_, hlt, h2⟩
        show 0 ≤ x.f2 + 1
        omega
      · exact h y (by simp [hy])
    · exact nextR_fit t (fun y hy => h y (by simp [hy]))
theorem nextF_fit {l : List Lv} (h : ∀ x ∈ l, Fit x) : ∀ x ∈ nextF l, Fit x := by
  intro x hx
  unfold nextF at hx
  exact nextR_fit l.reverse (fun y hy => h y (by simpa using hy)) x (by simpa using hx)
/-- the blocks that the program's stack writes -/
def WrS (g : Nat) (v : Value) (k : Nat) : Prop := k = g ∨ some k = v.ownBlock
end Go.Proofs.YtfmlpcdbllpcaaaDoor.HQ
