/-
  CONTRACTS BY HAND (sign, 21): slices.Clone at a row of choices; Put.
-/
import Derived.Test.YtpkcnifchggbnaaSpB
import Derived.Deep.RegionHeld3
namespace Go.Proofs.Ytpkcnifchggbnaa.HI
open Go.RowKit Go.Proofs.Ytpkcnifchggbnaa.HD Go.Proofs.Ytpkcnifchggbnaa.HK Go.Proofs.Ytpkcnifchggbnaa.HU Go.Proofs.YtpkcnifchggbnaaW.PrintWords Go.Proofs.YtpkcnifchggbnaaW.PrintLast Go.Proofs.YtpkcnifchggbnaaW.PrintMore
set_option linter.unusedVariables false
set_option linter.unusedSimpArgs false
theorem R_empty {α : Type} (d : Kd α) (e : Nat) (w : World) : d.R e (w.alloc (.cells #[] e)) w.heap.size (fun _ => True) (.slice (some ⟨w.heap.size, 0, none⟩) 0 0) [] :=
  ⟨fun _ _ => trivial, [], ⟨by simp, .inr ⟨w.heap.size, 0, #[], rfl, Nat.le_refl _, by simpa using heap_alloc_new w _, Nat.le_refl _, Nat.zero_le _, by simp, by simp⟩⟩, Reps.none _ _⟩
def cloneF (l : List Cho) : Option (List Cho) := if l.length ≤ 3518437208882 then some l else none
theorem clone_calls (A0 : Option Addr) (c0 : Nat) (l0 : List Cho) (r : List Cho) (w : World) (hr0 : Kd.C k24 w A0 l0.length l0) (hc0 : l0.length ≤ c0) (h : cloneF l0 = some r) :
    Calls Try.prog 38 #[.slice A0 l0.length c0] w fun e w' => ∃ v0_ : Value, e = .returned v0_ ∧ Kd.R k24 24 w' w.heap.size (fun _ => True) v0_ r ∧ Below w.heap.size w w' := by
  unfold cloneF at h
  split at h
  · rename_i hl
    obtain rfl := Option.some.inj h
    clear h
    have q25 : ∀ (w : World) (a : Option Addr) (n c n' c' : Nat), (binOp .eql 22 (.slice a n c) (.slice none n' c')).run Try.prog w = .ok (.bool a.isNone) w := fun w a n c n' c' => Lib.run_eql_slice_nil w _ _ a n c n' c' Try.underlying22
    have HR0 := Aside0.mk hr0
    have HC0 := Aside0.mk hc0
    have HL := Aside0.mk hl
    clear hr0 hc0 hl
    cases A0 with
    | none =>
      have h0 : l0 = [] := by
        by_cases hp : 0 < l0.length
        · obtain ⟨ad, he, _⟩ := HR0.out.2.2 hp
          exact absurd he (by simp)
        · exact List.eq_nil_of_length_eq_zero (by omega)
      subst h0
      go_enter Try.func38, Try.ntmps38
      go_wp2
      go_ret
      exact ⟨_, rfl, Kd.R_nil _ _ _ _ _, Below.refl _ _⟩
    | some ad =>
      go_enter Try.func38, Try.ntmps38
      go_wp2_with (at_builtin; refine Kd.R_append_rows k24 (w0 := w) w.heap.size rfl (.tmp 5) (.tmp 6) 22 24 (.agg #[.int .i64 0, .int .i64 0, .int .i64 0, .int .i64 0, .int .i64 0]) 40 rfl Try.underlying22 infoCh rfl (by decide) (by omega) _ [] l0 _ _ _ (fun _ => True) (fun _ => False) rfl rfl ?aO ?aR (fun _ _ h => h) (fun _ h => h.elim) (fun _ _ => trivial) ?aB ?aS ?aL ?_; (case aO => exact R_empty _ _ _); (case aR => exact Kd.C_alloc HR0.out _); (case aB => exact below_alloc (Below.refl _ _) _); (case aS => simp); (case aL => have := HL.out; simp; omega); intro v1 w1 ho hb hg hat)
      go_ret
      exact ⟨_, rfl, by simpa using ho, hb⟩
  · cases h
theorem clone_c (A : Option Addr) (c : Nat) (l : List Cho) (w : World) (hr : Kd.C k24 w A l.length l) (hc : l.length ≤ c) (hl : l.length ≤ 3518437208882) :
    Calls Try.prog 38 #[.slice A l.length c] w fun e w' => ∃ v0_ : Value, e = .returned v0_ ∧ Kd.R k24 24 w' w.heap.size (fun _ => True) v0_ l ∧ Below w.heap.size w w' :=
  clone_calls A c l l w hr hc (by unfold cloneF; rw [if_pos hl])
theorem bsW_le {l : List Cho} {c : Cho} : ∀ n i j : Nat, j - i = n → i ≤ j → bsW l c i j ≤ j := by
  intro n
  induction n using Nat.strongRecOn with
  | ind n ih =>
    intro i j hn hij
    by_cases h : i < j
    · rw [bsW_go h]
      split
      · exact ih (j - ((i + j) / 2 + 1)) (by omega) _ _ rfl (by omega)
      · exact Nat.le_trans (ih ((i + j) / 2 - i) (by omega) _ _ rfl (by omega)) (by omega)
    · rw [bsW_end h]
      exact hij
theorem bsI_le (l : List Cho) (c : Cho) : bsI l c ≤ l.length := bsW_le _ 0 l.length rfl (Nat.zero_le _)
/-- may a choice be put in? -/
def putOk (l : List Cho) (x : Cho) : Bool := mayL l && oneB x && !bsHas l x
def putL (l : List Cho) (x : Cho) : List Cho := if putOk l x then l.take (bsI l x) ++ x :: l.drop (bsI l x) else []
def putE (l : List Cho) (x : Cho) : Int := if putOk l x then 0 else 2
theorem one_c (x : Cho) (W : World) : Calls Try.prog 22 #[cv x] W fun e w' => e = .returned (.bool (oneB x)) ∧ Below W.heap.size W w' := Qsbase.sign_one.calls x.f0 x.f1 x.f2 x.f3 x.f4 (oneB x) W (one_eq x)
theorem own_neA {w : World} {base : Nat} {v : Value} {l : List Cho} (hR : Kd.R k24 24 w base (fun _ => True) v l) : v.ownBlock ≠ some w.heap.size := by
  rcases R_block hR with ⟨hv, _⟩ | ⟨b, c, sp, hv, hB, _⟩
  · rw [hv]; simp [Value.ownBlock]
  · rw [hv]
    intro h
    have h1 := blk_lt hB
    have h2 : b = w.heap.size := by simpa [Value.ownBlock] using h
    omega
theorem own_neB {w W : World} {o : Obj} {v : Value} {l : List Cho} (hR : Kd.R k24 24 W ((w.alloc o).drew).heap.size (fun _ => True) v l) : v.ownBlock ≠ some w.heap.size := by
  rcases R_block hR with ⟨hv, _⟩ | ⟨b, c, sp, hv, _, hb, _⟩
  · rw [hv]; simp [Value.ownBlock]
  · rw [hv]
    intro h
    have h2 : b = w.heap.size := by simpa [Value.ownBlock] using h
    have h3 : ((w.alloc o).drew).heap.size = w.heap.size + 1 := World.size_alloc _ _
    omega
set_option maxHeartbeats 8000000 in
set_option maxRecDepth 100000 in
theorem put_c (A : Option Addr) (c : Nat) (l : List Cho) (x : Cho) (w : World) (hr : Kd.C k24 w A l.length l) (hc : l.length ≤ c) (hl : l.length ≤ 1000) :
    Calls Try.prog 18 #[.slice A l.length c, cv x] w fun e w' => ∃ v, e = .returned (.tuple #[v, .int .i64 (putE l x)]) ∧ Kd.R k24 24 w' w.heap.size (fun _ => True) v (putL l x) ∧ Below w.heap.size w w' := by
  have b0 := blk_new w (.cells #[.int .i64 x.f0, .int .i64 x.f1, .int .i64 x.f2, .int .i64 x.f3, .int .i64 x.f4] 24)
  have hba := below_alloc (Below.refl w.heap.size w) (.cells #[.int .i64 x.f0, .int .i64 x.f1, .int .i64 x.f2, .int .i64 x.f3, .int .i64 x.f4] 24)
  have HB0 := Aside0.mk hba
  have HR0 := Aside0.mk (Kd.C_below hr hba)
  have BX0 := Aside0.mk b0
  clear hr hba b0
  go_enter Try.func18, Try.ntmps18
  go_wp2_with fail
  generalize (w.alloc (.cells #[.int .i64 x.f0, .int .i64 x.f1, .int .i64 x.f2, .int .i64 x.f3, .int .i64 x.f4] 24)) = w1 at HB0 HR0 BX0 ⊢
  refine (may_c A c l w1 HR0.out hc).mono ?_
  rintro e w2 ⟨rfl, hb⟩
  have HB2 := Aside0.mk (below_then HB0.out HB0.out.size hb)
  have HR2 := Aside0.mk (Kd.C_below HR0.out hb)
  have BX2 := Aside0.mk (blk_below BX0.out hb)
  clear hb HB0 HR0 BX0
  cases hm : mayL l with
  | false =>
    have he : putE l x = 2 := by unfold putE putOk; rw [hm]; rfl
    have hp : putL l x = [] := by unfold putL putOk; rw [hm]; rfl
    have HE := Aside0.mk he
    have HP := Aside0.mk hp
    clear he hp
    go_wp2
    go_ret2
    exact ⟨.slice none 0 0, by rw [HE.out]; rfl, by rw [HP.out]; exact Kd.R_nil _ _ _ _ _, HB2.out⟩
  | true =>
    obtain ⟨x0, x1, x2, x3, x4⟩ := cells_c BX2.out
    go_wp2_with fail
    refine (one_c x w2).mono ?_
    rintro e w3 ⟨rfl, hb⟩
    have HB3 := Aside0.mk (below_then HB2.out HB2.out.size hb)
    have HR3 := Aside0.mk (Kd.C_below HR2.out hb)
    have BX3 := Aside0.mk (blk_below BX2.out hb)
    clear hb HB2 HR2 BX2 x0 x1 x2 x3 x4
    cases ho : oneB x with
    | false =>
      have he : putE l x = 2 := by unfold putE putOk; rw [hm, ho]; rfl
      have hp : putL l x = [] := by unfold putL putOk; rw [hm, ho]; rfl
      have HE := Aside0.mk he
      have HP := Aside0.mk hp
      clear he hp
      go_wp2
      go_ret2
      exact ⟨.slice none 0 0, by rw [HE.out]; rfl, by rw [HP.out]; exact Kd.R_nil _ _ _ _ _, HB3.out⟩
    | true =>
      obtain ⟨x0, x1, x2, x3, x4⟩ := cells_c BX3.out
      go_wp2_with fail
      refine (place_calls A c l x w3 HR3.out hc).mono ?_
      rintro e w4 ⟨rfl, hb⟩
      have HB4 := Aside0.mk (below_then HB3.out HB3.out.size hb)
      have HR4 := Aside0.mk (Kd.C_below HR3.out hb)
      have BX4 := Aside0.mk (blk_below BX3.out hb)
      clear hb HB3 HR3 BX3 x0 x1 x2 x3 x4
      cases hh : bsHas l x with
      | true =>
        have he : putE l x = 2 := by unfold putE putOk; rw [hm, ho, hh]; rfl
        have hp : putL l x = [] := by unfold putL putOk; rw [hm, ho, hh]; rfl
        have HE := Aside0.mk he
        have HP := Aside0.mk hp
        clear he hp
        go_wp2
        go_ret2
        exact ⟨.slice none 0 0, by rw [HE.out]; rfl, by rw [HP.out]; exact Kd.R_nil _ _ _ _ _, HB4.out⟩
      | false =>
        have he : putE l x = 0 := by unfold putE putOk; rw [hm, ho, hh]; rfl
        have hp : putL l x = l.take (bsI l x) ++ x :: l.drop (bsI l x) := by unfold putL putOk; rw [hm, ho, hh]; rfl
        have hbi : bsI l x ≤ l.length := bsI_le l x
        have HE := Aside0.mk he
        have HP := Aside0.mk hp
        clear he hp
        generalize bsI l x = at_ at HP hbi ⊢
        obtain ⟨x0, x1, x2, x3, x4⟩ := cells_c BX4.out
        have HW5 := Aside0.mk (below_drew (below_alloc (Below.refl w4.heap.size w4) (.cells #[.int .i64 x.f0, .int .i64 x.f1, .int .i64 x.f2, .int .i64 x.f3, .int .i64 x.f4] 24)))
        have HC1 := Aside0.mk (clone_c A c l w4.drew (C_drew HR4.out) hc (by omega))
        have HC2 := Aside0.mk (clone_c A c l (w4.alloc (.cells #[.int .i64 x.f0, .int .i64 x.f1, .int .i64 x.f2, .int .i64 x.f3, .int .i64 x.f4] 24)).drew (Kd.C_below HR4.out HW5.out) hc (by omega))
        have HVN := Aside0.mk (show ((w4.alloc (.cells #[.int .i64 x.f0, .int .i64 x.f1, .int .i64 x.f2, .int .i64 x.f3, .int .i64 x.f4] 24)).drew).heap[w4.heap.size]? = _ from blk_new w4 (.cells #[.int .i64 x.f0, .int .i64 x.f1, .int .i64 x.f2, .int .i64 x.f3, .int .i64 x.f4] 24))
        go_upto_region 6 with fail
        go_region_held3 (fun W => W.cell? ⟨w.heap.size, 0, none⟩ = some (.int .i64 x.f0) ∧ W.cell? ⟨w.heap.size, 1, none⟩ = some (.int .i64 x.f1) ∧ W.cell? ⟨w.heap.size, 2, none⟩ = some (.int .i64 x.f2) ∧ W.cell? ⟨w.heap.size, 3, none⟩ = some (.int .i64 x.f3) ∧ W.cell? ⟨w.heap.size, 4, none⟩ = some (.int .i64 x.f4))
          (first | exact ⟨z0, z1, z2, z3, z4⟩ | exact ⟨cell_alloc1 y0 _, cell_alloc1 y1 _, cell_alloc1 y2 _, cell_alloc1 y3 _, cell_alloc1 y4 _⟩ | exact ⟨y0, y1, y2, y3, y4⟩ | exact ⟨cell_alloc1 x0 _, cell_alloc1 x1 _, cell_alloc1 x2 _, cell_alloc1 x3 _, cell_alloc1 x4 _⟩ | exact ⟨x0, x1, x2, x3, x4⟩)
          (first
            | (go_at_call 38; with_reducible refine HC1.out.mono ?_; rintro e wA ⟨vA, rfl, hR, hb⟩; have HRA := Aside0.mk hR; have HBA := Aside0.mk (below_of_drew hb); have y0 := pw_cell_below HBA.out x0; have y1 := pw_cell_below HBA.out x1; have y2 := pw_cell_below HBA.out x2; have y3 := pw_cell_below HBA.out x3; have y4 := pw_cell_below HBA.out x4; have HIN := Aside0.mk (insert_c w4.heap.size wA.heap.size at_ vA l x (wA.alloc (.cells #[.int .i64 x.f0, .int .i64 x.f1, .int .i64 x.f2, .int .i64 x.f3, .int .i64 x.f4] 24)) hbi (Kd.R_alloc hR _) (Nat.le_trans HBA.out.size (by simp)) (by omega) (blk_new wA _) (own_neA hR)); have HBF := Aside0.mk (below_alloc HBA.out (.cells #[.int .i64 x.f0, .int .i64 x.f1, .int .i64 x.f2, .int .i64 x.f3, .int .i64 x.f4] 24)); clear hR hb)
            | (go_at_call 38; with_reducible refine HC2.out.mono ?_; rintro e wA ⟨vA, rfl, hR, hb⟩; have HRA := Aside0.mk hR; have HBA := Aside0.mk (below_then HW5.out HW5.out.size hb); have y0 := pw_cell_below HBA.out x0; have y1 := pw_cell_below HBA.out x1; have y2 := pw_cell_below HBA.out x2; have y3 := pw_cell_below HBA.out x3; have y4 := pw_cell_below HBA.out x4; have HIN := Aside0.mk (insert_c w4.heap.size w4.heap.size at_ vA l x wA hbi (Kd.R_lower hR HW5.out.size) HBA.out.size (by omega) (blk_below HVN.out hb) (own_neB hR)); have HBF := HBA; clear hR hb)
            | (go_at_call 37; with_reducible refine HIN.out.mono ?_; rintro e wB ⟨vB, rfl, hR, hb⟩; have HRB := Aside0.mk hR; have HBB := Aside0.mk (HBF.out.trans hb); have z0 := pw_cell_below HBB.out x0; have z1 := pw_cell_below HBB.out x1; have z2 := pw_cell_below HBB.out x2; have z3 := pw_cell_below HBB.out x3; have z4 := pw_cell_below HBB.out x4; clear hR hb))
        all_goals (
          go_wp2
          go_ret2
          exact ⟨_, by rw [HE.out]; rfl, by rw [HP.out]; exact Kd.R_lower HRB.out HB4.out.size, below_then HB4.out HB4.out.size HBB.out⟩)
end Go.Proofs.Ytpkcnifchggbnaa.HI
