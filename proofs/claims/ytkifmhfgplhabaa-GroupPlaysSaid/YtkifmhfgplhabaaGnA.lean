/-
  CONTRACTS BY HAND (groups, 1): the methods of a table that nobody made, and of one without a handle: what each answers; nothing that was there is changed.
-/
import Derived.Test.YtkifmhfgplhabaaHW
namespace Go.Proofs.Ytkifmhfgplhabaa.HD
open Go.RowKit Go.Proofs.YtkifmhfgplhabaaW.PrintWords Go.Proofs.YtkifmhfgplhabaaW.PrintLast Go.Proofs.YtkifmhfgplhabaaW.PrintMore
set_option linter.unusedVariables false
set_option linter.unusedSimpArgs false

theorem ret_int {k : IntKind} {a b : Int} (h : a = b) : Ending.returned (.int k a) = .returned (.int k b) := by rw [h]
theorem ret_bool {a b : Bool} (h : a = b) : Ending.returned (.bool a) = .returned (.bool b) := by rw [h]
/-- is a group more than is gone through here? -/
theorem great_calls (s : ByteArray) (A : Option Addr) (n c : Nat) (w : World) :
    Calls Try.prog 5 #[.agg #[.string s, .slice A n c]] w fun e w' => e = .returned (.bool (decide (80 < n) || decide (200 < s.size))) ∧ Below w.heap.size w w' := by
  by_cases h : 80 < n
  · have h1 : decide ((80 : Int) < (n : Int)) = true := by simpa using (by omega : (80 : Int) < n)
    go_enter Try.func5, Try.ntmps5
    go_wp2
    go_ret
    exact ⟨ret_bool (by simp [h]), below_alloc (Below.refl _ _) _⟩
  · have h1 : decide ((80 : Int) < (n : Int)) = false := by simpa using (by omega : ¬(80 : Int) < n)
    go_enter Try.func5, Try.ntmps5
    go_wp2
    go_ret
    exact ⟨ret_bool (by simp [h]; omega), below_alloc (Below.refl _ _) _⟩

/-- no table, or one without a handle -/
def NoTab (W : World) (v : Value) : Prop := v = .pointer none ∨ ∃ b, v = .pointer (some ⟨b, 0, none⟩) ∧ W.cell? ⟨b, 0, none⟩ = some (.slice none 0 0)
theorem NoTab.below {w w' : World} {v : Value} (h : NoTab w v) (b : Below w.heap.size w w') : NoTab w' v := by
  rcases h with rfl | ⟨b', rfl, h⟩
  · exact .inl rfl
  · exact .inr ⟨b', rfl, pw_cell_below b h⟩
theorem NoTab.alloc {w : World} {v : Value} (h : NoTab w v) (o : Obj) : NoTab (w.alloc o) v := h.below (below_alloc (Below.refl _ _) _)
theorem NoTab.drew {w : World} {v : Value} (h : NoTab w v) : NoTab w.drew v := h
theorem many_no (v : Value) (w : World) (h : NoTab w v) : Calls Try.prog 9 #[v] w fun e w' => e = .returned (.int .i64 0) ∧ w = w' := by
  rcases h with rfl | ⟨b, rfl, h⟩
  · go_enter Try.func9, Try.ntmps9
    go_wp2
    go_ret
    exact ⟨rfl, rfl⟩
  · go_enter Try.func9, Try.ntmps9
    go_wp2
    go_ret
    exact ⟨rfl, rfl⟩
theorem add_no (v : Value) (s : ByteArray) (A : Option Addr) (n c : Nat) (w : World) (h : NoTab w v) :
    Calls Try.prog 6 #[v, .agg #[.string s, .slice A n c]] w fun e w' => e = .returned (.tuple #[.int .i64 0, .int .i64 1]) ∧ Below w.heap.size w w' := by
  go_enter Try.func6, Try.ntmps6
  go_wp2_with fail
  refine (many_no _ _ (h.alloc _)).mono ?_
  rintro e w1 ⟨rfl, rfl⟩
  go_wp2
  go_ret2
  exact ⟨rfl, below_alloc (Below.refl _ _) _⟩
theorem find_no (v : Value) (k : Int) (w : World) (h : NoTab w v) :
    Calls Try.prog 20 #[v, .int .i64 k] w fun e w' => e = .returned (.tuple #[.pointer none, .int .i64 1]) ∧ w = w' := by
  go_enter Try.func20, Try.ntmps20
  go_wp2_with fail
  refine (many_no _ _ h).mono ?_
  rintro e w1 ⟨rfl, rfl⟩
  go_wp2
  go_ret2
  exact ⟨rfl, rfl⟩
theorem at_no (v : Value) (k : Int) (w : World) (h : NoTab w v) :
    Calls Try.prog 7 #[v, .int .i64 k] w fun e w' => e = .returned (.tuple #[.agg #[.string ⟨#[]⟩, .slice none 0 0], .int .i64 1]) ∧ Below w.heap.size w w' := by
  go_enter Try.func7, Try.ntmps7
  go_wp2_with fail
  refine (find_no _ _ _ (h.alloc _)).mono ?_
  rintro e w1 ⟨rfl, rfl⟩
  go_wp2
  refine bodyPost_ret (results_ct rfl _ _ w.heap.size 24 #[.string ⟨#[]⟩, .slice none 0 0] (0, 0) _ rfl (blk_new _ _) Try.underlying24 rfl (by kernel_rfl)) rfl ?_
  exact ⟨rfl, below_alloc (Below.refl _ _) _⟩
theorem free_no (v : Value) (k : Int) (w : World) (h : NoTab w v) :
    Calls Try.prog 8 #[v, .int .i64 k] w fun e w' => e = .returned (.int .i64 1) ∧ w = w' := by
  go_enter Try.func8, Try.ntmps8
  go_wp2_with fail
  refine (find_no _ _ _ h).mono ?_
  rintro e w1 ⟨rfl, rfl⟩
  go_wp2
  go_ret
  exact ⟨rfl, rfl⟩
theorem copy_no (w : World) : Calls Try.prog 10 #[.pointer none] w fun e w' => e = .returned (.pointer none) ∧ w = w' := by
  go_enter Try.func10, Try.ntmps10
  go_wp2
  go_ret
  exact ⟨rfl, rfl⟩

/-- the two tables of the law, in a row -/
def TwoTabs (W : World) (g : Nat) : Prop := ∀ i : Nat, i < 2 → ∃ v, W.cell? ⟨g, i, none⟩ = some v ∧ NoTab W v
theorem TwoTabs.below {w w' : World} {g : Nat} (h : TwoTabs w g) (b : Below w.heap.size w w') : TwoTabs w' g := by
  intro i hi
  obtain ⟨v, h, n⟩ := h i hi
  exact ⟨v, pw_cell_below b h, n.below b⟩
theorem twoTabs (w : World) : TwoTabs ((w.alloc (.cells #[.slice none 0 0] 29)).alloc (.cells #[.pointer none, .pointer (some ⟨w.heap.size, 0, none⟩)] 26)) (w.heap.size + 1) := by
  intro i hi
  have e : (w.alloc (.cells #[.slice none 0 0] 29)).heap.size = w.heap.size + 1 := by simp
  have h0 := blk_new (w.alloc (.cells #[.slice none 0 0] 29)) (.cells #[.pointer none, .pointer (some ⟨w.heap.size, 0, none⟩)] 26)
  have h1 := blk_alloc (blk_new w (.cells #[.slice none 0 0] 29)) (.cells #[.pointer none, .pointer (some ⟨w.heap.size, 0, none⟩)] 26)
  rw [e] at h0
  obtain rfl | rfl : i = 0 ∨ i = 1 := by omega
  · exact ⟨_, (blk_cell h0 0).trans rfl, .inl rfl⟩
  · exact ⟨_, (blk_cell h0 1).trans rfl, .inr ⟨_, rfl, (blk_cell h1 0).trans rfl⟩⟩
set_option maxHeartbeats 2000000 in
theorem groupNil_calls (k : Int) (s : ByteArray) (A : Option Addr) (n c : Nat) (w : World) :
    Calls Try.prog 3 #[.int .i64 k, .agg #[.string s, .slice A n c]] w fun e w' => e = .returned (.bool true) ∧ Below w.heap.size w w' := by
  go_enter Try.func3, Try.ntmps3
  go_wp2_with fail
  have hb0 := below_alloc (Below.refl w.heap.size w) (.cells #[.string s, .slice A n c] 24)
  have HG := Aside0.mk (blk_new w (.cells #[.string s, .slice A n c] 24))
  refine (great_calls s A n c _).mono ?_
  rintro e w1 ⟨rfl, hb⟩
  have HB := Aside0.mk (below_then hb0 hb0.size hb)
  have HG1 := Aside0.mk (blk_below HG.out hb)
  clear hb0 hb HG
  by_cases hg : (decide (80 < n) || decide (200 < s.size)) = true
  · go_wp2
    go_ret
    exact ⟨rfl, HB.out⟩
  · have hg : (decide (80 < n) || decide (200 < s.size)) = false := by simpa using hg
    go_wp2_with fail
    have TT := twoTabs w1
    have hb2 := below_alloc (below_alloc (Below.refl w1.heap.size w1) (.cells #[.slice none 0 0] 29)) (.cells #[.pointer none, .pointer (some ⟨w1.heap.size, 0, none⟩)] 26)
    have HB2 := Aside0.mk (below_then HB.out HB.out.size hb2)
    have HG2 := Aside0.mk (blk_below HG1.out hb2)
    clear hb2 HB HG1
    generalize (w1.alloc (.cells #[.slice none 0 0] 29)).alloc (.cells #[.pointer none, .pointer (some ⟨w1.heap.size, 0, none⟩)] 26) = w2 at TT HB2 HG2 ⊢
    go_loopw [7] (fun v7 wr => ∃ i : Nat, i ≤ 2 ∧ v7 = .int .i64 i ∧ Aside0 (TwoTabs wr (w1.heap.size + 1)) ∧ Aside0 (Below w.heap.size w wr) ∧ Aside0 (wr.heap[w.heap.size]? = some (.cells #[.string s, .slice A n c] 24))) (fun v7 _ => 2 - (intOf v7).toNat)
    case atStart => exact ⟨0, by omega, rfl, ⟨TT⟩, HB2, HG2⟩
    case round =>
      obtain ⟨i, hi, rfl, HT, HB, HG⟩ := hrel
      clear TT HB2 HG2
      by_cases hlt : i < 2
      · obtain ⟨v, hv, hno⟩ := HT.out i hlt
        have g0 := (blk_cell HG.out 0).trans rfl
        have g1 := (blk_cell HG.out 1).trans rfl
        have NO := Aside0.mk hno
        clear hno
        go_wp2_with fail
        go_region_with (go_at_call 6; refine (add_no v s A n c wr.drew NO.out.drew).mono ?_; rintro e w' ⟨rfl, hb⟩)
        all_goals (
          have hb : Below wr.heap.size wr w' := below_then (below_drew1 (Below.refl wr.heap.size wr)) (Nat.le_refl _) hb
          have HB1 := Aside0.mk (below_then HB.out HB.out.size hb)
          have HG1 := Aside0.mk (blk_below HG.out hb)
          have HT1 := Aside0.mk (HT.out.below hb)
          have hv1 := pw_cell_below hb hv
          have NO1 := Aside0.mk (NO.out.below hb)
          clear hb hv g0 g1 NO HT HG HB
          go_wp2_with fail
          refine (at_no v k w' NO1.out).mono ?_
          rintro e w3 ⟨rfl, hb⟩
          have hb := below_then hb hb.size (below_alloc (Below.refl w3.heap.size w3) (.cells #[.string ⟨#[]⟩, .slice none 0 0] 24))
          have HB3 := Aside0.mk (below_then HB1.out HB1.out.size hb)
          have HG3 := Aside0.mk (blk_below HG1.out hb)
          have HT3 := Aside0.mk (HT1.out.below hb)
          have hv3 := pw_cell_below hb hv1
          have NO3 := Aside0.mk (NO1.out.below hb)
          clear hb hv1 NO1 HT1 HG1 HB1
          go_wp2_with fail
          generalize w3.alloc (.cells #[.string ⟨#[]⟩, .slice none 0 0] 24) = w4 at HB3 HG3 HT3 hv3 NO3 ⊢
          refine (free_no v k w4 NO3.out).mono ?_
          rintro e w5 ⟨rfl, rfl⟩
          go_wp2_with fail
          refine (many_no v w4 NO3.out).mono ?_
          rintro e w5 ⟨rfl, rfl⟩
          go_wp2
          go_roundw
          case rel => exact ⟨i + 1, by omega, by go_num, HT3, HB3, HG3⟩
          case measure => simp [intOf]; omega)
      · obtain rfl : i = 2 := by omega
        go_wp2_with fail
        refine (copy_no wr).mono ?_
        rintro e w3 ⟨rfl, rfl⟩
        go_wp2
        go_ret
        exact ⟨rfl, HB.out⟩
end Go.Proofs.Ytkifmhfgplhabaa.HD
