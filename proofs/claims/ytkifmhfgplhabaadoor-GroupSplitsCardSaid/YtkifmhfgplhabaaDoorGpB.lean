/-
  CONTRACTS BY HAND (groups, 3): May: a group has ranks, each from 0 to 63, none twice.
-/
import Derived.Test.YtkifmhfgplhabaaDoorGpA
import Derived.Test.YtkifmhfgplhabaaDoorHP
namespace Go.Proofs.YtkifmhfgplhabaaDoor.HQ
open Go.Proofs.YtkifmhfgplhabaaDoor.HU Go.RowKit Go.Proofs.YtkifmhfgplhabaaDoor.HK Go.Proofs.YtkifmhfgplhabaaDoor.HP Go.Proofs.YtkifmhfgplhabaaDoorW.PrintWords Go.Proofs.YtkifmhfgplhabaaDoorW.PrintLast Go.Proofs.YtkifmhfgplhabaaDoorW.PrintMore
set_option linter.unusedVariables false
set_option linter.unusedSimpArgs false
/-- may these be a group's ranks? -/
def MayG (l : List Int) : Prop := 0 < l.length ∧ (∀ x ∈ l, 0 ≤ x ∧ x < 64) ∧ l.Nodup
instance (l : List Int) : Decidable (MayG l) := by unfold MayG; infer_instance
def mayB (l : List Int) : Bool := decide (MayG l)
/-- how often a rank was met -/
def metI (l : List Int) (k : Int) : Int := if k ∈ l then 1 else 0
/-- the array of the ranks met -/
def Met (W : World) (b : Nat) (l : List Int) : Prop := ∃ cs : Array Value, W.heap[b]? = some (.cells cs 73 (0, 0)) ∧ cs.size = 64 ∧ ∀ k : Nat, k < 64 → cs[k]? = some (.int .i64 (metI l k))
theorem met_nil (W : World) (o : Obj) : Met ((W.alloc o).alloc (.cells (Array.replicate 64 (.int .i64 0)) 73)) (W.heap.size + 1) [] := by
  refine ⟨_, blk_second W o _, by simp, fun k hk => ?_⟩
  rw [Array.getElem?_replicate, if_pos hk]
  simp [metI]
theorem Met.below {w w' : World} {b : Nat} {l : List Int} (h : Met w b l) (hb : Below w.heap.size w w') : Met w' b l := by
  obtain ⟨cs, h1, h2⟩ := h
  exact ⟨cs, blk_below h1 hb, h2⟩
theorem Met.cell {W : World} {b : Nat} {l : List Int} (h : Met W b l) {k : Nat} (hk : k < 64) : W.cell? ⟨b, k, none⟩ = some (.int .i64 (metI l k)) ∧ W.frozen? ⟨b, k, none⟩ = false := by
  obtain ⟨cs, h1, h2, h3⟩ := h
  exact ⟨(blk_cell h1 k).trans (h3 k hk), blk_frozen h1 k⟩
theorem Met.put {W : World} {b : Nat} {l : List Int} (h : Met W b l) {k : Nat} (hk : k < 64) (hn : (k : Int) ∉ l) : Met (W.setCell ⟨b, k, none⟩ (.int .i64 1)) b (l ++ [(k : Int)]) := by
  obtain ⟨cs, h1, h2, h3⟩ := h
  refine ⟨cs.setIfInBounds k (.int .i64 1), blk_put h1 k _ rfl, by simpa using h2, fun j hj => ?_⟩
  rw [Array.getElem?_setIfInBounds]
  by_cases hkj : k = j
  · subst hkj
    rw [if_pos rfl, if_pos (by omega)]
    simp [metI]
  · rw [if_neg hkj, h3 j hj]
    have : ¬ (j : Int) = (k : Int) := by omega
    simp [metI, this]
/-- the first of a group's ranks -/
def Pre (l : List Int) : Prop := (∀ x ∈ l, 0 ≤ x ∧ x < 64) ∧ l.Nodup
theorem pre_snoc {l : List Int} {x : Int} : Pre (l ++ [x]) ↔ Pre l ∧ 0 ≤ x ∧ x < 64 ∧ x ∉ l := by
  unfold Pre
  rw [List.nodup_append]
  constructor
  · rintro ⟨h1, h2, h3, h4⟩
    exact ⟨⟨fun y hy => h1 y (by simp [hy]), h2⟩, (h1 x (by simp)).1, (h1 x (by simp)).2, fun hx => h4 x hx x (by simp) rfl⟩
  · rintro ⟨⟨h1, h2⟩, h3, h4, h5⟩
    refine ⟨fun y hy => ?_, h2, by simp, fun a ha b hb hab => ?_⟩
    · rcases List.mem_append.1 hy with hy | hy
      · exact h1 y hy
      · rw [List.mem_singleton.1 hy]; exact ⟨h3, h4⟩
    · rw [List.mem_singleton.1 hb] at hab
      exact h5 (hab ▸ ha)
theorem pre_take {l : List Int} {i : Nat} (h : Pre l) : Pre (l.take i) := ⟨fun x hx => h.1 x (List.mem_of_mem_take hx), h.2.sublist (List.take_sublist _ _)⟩
theorem may_no {l : List Int} {i : Nat} (h : ¬ Pre (l.take i)) : mayB l = false := by
  unfold mayB
  rw [decide_eq_false_iff_not]
  rintro ⟨_, h2, h3⟩
  exact h (pre_take ⟨h2, h3⟩)
set_option maxHeartbeats 1000000 in
theorem may_c (s : ByteArray) (A : Option Addr) (c : Nat) (l : List Int) (w : World) (hr : Kd.C (Kd.int .i64) w A l.length l) (hc : l.length ≤ c) :
    Calls Tryd.prog 17 #[.agg #[.string s, .slice A l.length c]] w fun e w' => e = .returned (.bool (mayB l)) ∧ Below w.heap.size w w' := by
  have HR := Aside0.mk hr
  have hmax := Kd.C_max hr
  clear hr
  go_enter Tryd.func17, Tryd.ntmps17
  go_wp2_with fail
  have HM := Aside0.mk (met_nil w (.cells #[.string s, .slice A l.length c] 24))
  have HB := Aside0.mk (below_alloc2 w (.cells #[.string s, .slice A l.length c] 24) (.cells (Array.replicate 64 (.int .i64 0)) 73))
  have HG := Aside0.mk (blk_alloc (blk_new w (.cells #[.string s, .slice A l.length c] 24)) (.cells (Array.replicate 64 (.int .i64 0)) 73))
  change Code.wp _ _ _ _ ((w.alloc (.cells #[.string s, .slice A l.length c] 24)).alloc (.cells (Array.replicate 64 (.int .i64 0)) 73))
  generalize (w.alloc (.cells #[.string s, .slice A l.length c] 24)).alloc (.cells (Array.replicate 64 (.int .i64 0)) 73) = w2 at HM HB HG ⊢
  go_loopw [9] (fun v9 wr => ∃ i : Nat, i ≤ l.length ∧ v9 = .int .i64 i ∧ Pre (l.take i) ∧ Aside0 (Met wr (w.heap.size + 1) (l.take i)) ∧ Aside0 (Below w.heap.size w wr) ∧ Aside0 (wr.heap[w.heap.size]? = some (.cells #[.string s, .slice A l.length c] 24 (0, 0)))) (fun v9 _ => l.length - (intOf v9).toNat)
  case atStart => exact ⟨0, by omega, rfl, ⟨by simp, by simp⟩, HM, HB, HG⟩
  case round =>
    obtain ⟨i, hi, rfl, hp, HT, HB, HG⟩ := hrel
    clear HM
    by_cases hlt : i < l.length
    · obtain ⟨ad, rfl, hcell⟩ := Kd.at_int HR.out (i : Int) (by omega) (by omega)
      have hcell := pw_cell_below HB.out hcell
      rw [Int.toNat_natCast] at hcell
      have htk : l.take (i + 1) = l.take i ++ [rd l (i : Int)] := by rw [rd_lt hlt, List.take_add_one, List.getElem?_eq_getElem hlt]; rfl
      have HK := Aside0.mk htk
      clear htk
      by_cases c1 : rd l (i : Int) < 0
      · have hno := Aside0.mk (may_no (l := l) (i := i + 1) (fun h => by rw [HK.out, pre_snoc] at h; omega))
        have b1 : decide (rd l (i : Int) < 0) = true := decide_eq_true c1
        go_wp2
        go_ret
        exact ⟨ret_bool hno.out.symm, HB.out⟩
      · by_cases c2 : 64 ≤ rd l (i : Int)
        · have hno := Aside0.mk (may_no (l := l) (i := i + 1) (fun h => by rw [HK.out, pre_snoc] at h; omega))
          have b1 : decide (rd l (i : Int) < 0) = false := decide_eq_false c1
          have b2 : decide ((64 : Int) ≤ rd l (i : Int)) = true := decide_eq_true c2
          go_wp2
          go_ret
          exact ⟨ret_bool hno.out.symm, HB.out⟩
        · obtain ⟨k, hk⟩ : ∃ k : Nat, rd l (i : Int) = (k : Int) := ⟨(rd l (i : Int)).toNat, by omega⟩
          rw [hk] at c1 c2 hcell
          have HK : Aside0 (l.take (i + 1) = l.take i ++ [(k : Int)]) := ⟨by rw [HK.out, hk]⟩
          clear hk
          have hk64 : k < 64 := by omega
          have hm := HT.out.cell hk64
          have b1 : decide ((k : Int) < 0) = false := decide_eq_false c1
          have b2 : decide ((64 : Int) ≤ (k : Int)) = false := decide_eq_false c2
          by_cases c3 : (k : Int) ∈ l.take i
          · have hno := Aside0.mk (may_no (l := l) (i := i + 1) (fun h => by rw [HK.out, pre_snoc] at h; exact h.2.2.2 c3))
            have hm1 : wr.cell? ⟨w.heap.size + 1, k, none⟩ = some (.int .i64 1) := by rw [hm.1]; simp [metI, c3]
            clear hm c3
            go_wp2
            go_ret
            exact ⟨ret_bool hno.out.symm, HB.out⟩
          · have hpn : Pre (l.take (i + 1)) := by rw [HK.out, pre_snoc]; exact ⟨hp, by omega, by omega, c3⟩
            have hm1 : wr.cell? ⟨w.heap.size + 1, k, none⟩ = some (.int .i64 0) := by rw [hm.1]; simp [metI, c3]
            have hf1 := hm.2
            have HT1 : Aside0 (Met (wr.setCell ⟨w.heap.size + 1, k, none⟩ (.int .i64 1)) (w.heap.size + 1) (l.take (i + 1))) := ⟨by rw [HK.out]; exact HT.out.put hk64 c3⟩
            have HB1 : Aside0 (Below w.heap.size w (wr.setCell ⟨w.heap.size + 1, k, none⟩ (.int .i64 1))) := ⟨HB.out.setCell (by show w.heap.size ≤ w.heap.size + 1; omega) _⟩
            have HG1 : Aside0 ((wr.setCell ⟨w.heap.size + 1, k, none⟩ (.int .i64 1)).heap[w.heap.size]? = some (.cells #[.string s, .slice (some ad) l.length c] 24 (0, 0))) := ⟨blk_far HG.out (by show w.heap.size ≠ w.heap.size + 1; omega) _⟩
            have hw1 : IntKind.i64.wrap ((i : Int) + 1) = (i : Int) + 1 := i64w (by omega) (by omega)
            clear hm c3
            go_wp2
            refine ⟨⟨i + 1, by omega, rfl, hpn, HT1, HB1, HG1⟩, ?_⟩
            show l.length - (intOf (.int .i64 ((i : Int) + 1))).toNat < l.length - (intOf (.int .i64 (i : Int))).toNat
            simp [intOf]
            omega
    · have hil : i = l.length := by omega
      subst hil
      have g1 := (blk_cell HG.out 1).trans rfl
      rw [List.take_length] at hp
      by_cases c1 : 0 < l.length
      · have hyes : mayB l = true := by unfold mayB; exact decide_eq_true ⟨c1, hp.1, hp.2⟩
        have HY := Aside0.mk hyes
        have b1 : decide ((0 : Int) < (l.length : Int)) = true := decide_eq_true (by omega)
        clear hyes hp
        go_wp2
        go_ret
        exact ⟨ret_bool HY.out.symm, HB.out⟩
      · have hno : mayB l = false := by unfold mayB; rw [decide_eq_false_iff_not]; exact fun h => c1 h.1
        have HY := Aside0.mk hno
        have b1 : decide ((0 : Int) < (l.length : Int)) = false := decide_eq_false (by omega)
        clear hno hp
        go_wp2
        go_ret
        exact ⟨ret_bool HY.out.symm, HB.out⟩
end Go.Proofs.YtkifmhfgplhabaaDoor.HQ
