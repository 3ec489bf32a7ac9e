/-
  CONTRACTS BY HAND (orders, 2): a maker's state; what an event adds, said plainly; slices.Clone at a row of numbers, clock.New, Tick, Merge in the words that serve the maker.
-/
import Derived.Test.YtnblmjkaieibhaaOdA
import Derived.Test.YtnblmjkaieibhaaHdE
import Derived.Test.YtnblmjkaieibhaaHV
import Derived.Test.YtnblmjkaieibhaaQobasex1
namespace Go.Proofs.Ytnblmjkaieibhaa.HO
open Go.Proofs.Ytnblmjkaieibhaa.HU Go.RowKit Go.Proofs.Ytnblmjkaieibhaa.HK Go.Proofs.Ytnblmjkaieibhaa.HP Go.Proofs.YtnblmjkaieibhaaW.PrintWords Go.Proofs.YtnblmjkaieibhaaW.PrintLast Go.Proofs.YtnblmjkaieibhaaW.PrintMore
set_option linter.unusedVariables false
set_option linter.unusedSimpArgs false
abbrev Ev_ := S56
theorem infoK : (Try.prog.info? 64).map (fun i => (i.zero, i.size, i.bytes)) = some (some (.agg #[.slice none 0 0, .int .i64 0, .slice none 0 0]), 3, 56) := by kernel_rfl
theorem cloneI_c (A0 : Option Addr) (c0 : Nat) (l0 : List Int) (w : World) (hr0 : Kd.C (Kd.int .i64) w A0 l0.length l0) (hc0 : l0.length ≤ c0) (hl : l0.length ≤ 3518437208882) :
    Calls Try.prog 43 #[.slice A0 l0.length c0] w fun e w' => ∃ v0_ : Value, e = .returned v0_ ∧ Kd.R (Kd.int .i64) 3 w' w.heap.size (fun _ => True) v0_ l0 ∧ Below w.heap.size w w' := by
  have q25 : ∀ (w : World) (a : Option Addr) (n c n' c' : Nat), (binOp .eql 28 (.slice a n c) (.slice none n' c')).run Try.prog w = .ok (.bool a.isNone) w := fun w a n c n' c' => Lib.run_eql_slice_nil w _ _ a n c n' c' Try.underlying28
  have HR0 := Aside0.mk hr0
  have HC0 := Aside0.mk hc0
  have HL := Aside0.mk hl
  clear hr0 hc0 hl
  cases A0 with
  | none =>
    have h0 : l0 = [] := by
      by_cases hp : 0 < l0.length
      · obtain ⟨ad, he, _⟩ := HR0.out.2.2 hp
        exact absurd he (by simp)
      · exact List.eq_nil_of_length_eq_zero (by omega)
    subst h0
    go_enter Try.func43, Try.ntmps43
    go_wp2
    go_ret
    exact ⟨_, rfl, Kd.R_nil _ _ _ _ _, Below.refl _ _⟩
  | some ad =>
    go_enter Try.func43, Try.ntmps43
    go_wp2_with (at_builtin; refine Kd.R_append_rows (Kd.int .i64) (w0 := w) w.heap.size rfl (.tmp 5) (.tmp 6) 28 3 (.int .i64 0) 8 rfl Try.underlying28 infoI rfl (by decide) (by omega) _ [] l0 _ _ _ (fun _ => True) (fun _ => False) rfl rfl ?aO ?aR (fun _ _ h => h) (fun _ h => h.elim) (fun _ _ => trivial) ?aB ?aS ?aL ?_; (case aO => exact HD.R_empty _ _ _); (case aR => exact Kd.C_alloc HR0.out _); (case aB => exact below_alloc (Below.refl _ _) _); (case aS => simp); (case aL => have := HL.out; simp; omega); intro v1 w1 ho hb hg hat)
    go_ret
    exact ⟨_, rfl, by simpa using ho, hb⟩
/-- the greater ones of two clocks; none, where they are no two of one size -/
def mergeF (c d : List Int) : List Int := if HD.fitB c d = true then HD.merged (c.zip d) else []
def mergeE (c d : List Int) : Int := if HD.fitB c d = true then 0 else 2
theorem merge_c (A0 : Option Addr) (c0 : Nat) (l0 : List Int) (A1 : Option Addr) (c1 : Nat) (l1 : List Int) (w : World) (hr0 : Kd.C (Kd.int .i64) w A0 l0.length l0) (hc0 : l0.length ≤ c0) (hr1 : Kd.C (Kd.int .i64) w A1 l1.length l1) (hc1 : l1.length ≤ c1) :
    Calls Try.prog 33 #[.slice A0 l0.length c0, .slice A1 l1.length c1] w fun e w' => ∃ v0_ : Value, e = .returned (.tuple #[v0_, .int .i64 (mergeE l0 l1)]) ∧ Kd.R (Kd.int .i64) 3 w' w.heap.size (fun _ => True) v0_ (mergeF l0 l1) ∧ Below w.heap.size w w' :=
  HD.clock_Clock_Merge.calls A0 c0 l0 A1 c1 l1 (mergeF l0 l1) (mergeE l0 l1) w hr0 hc0 hr1 hc1 (by unfold HD.clock_Clock_Merge.f mergeF mergeE; split <;> rfl)
theorem new_c (n : Int) (w : World) (h1 : 1 ≤ n) (h2 : n ≤ 64) : Calls Try.prog 32 #[.int .i64 n] w fun e w' => ∃ v0_ : Value, e = .returned (.tuple #[v0_, .int .i64 0]) ∧ Kd.R (Kd.int .i64) 3 w' w.heap.size (fun _ => True) v0_ (List.replicate n.toNat 0) ∧ Below w.heap.size w w' :=
  Qobase.clock_New.calls n _ 0 w (by unfold Qobase.clock_New.f; rw [if_neg (by omega), if_neg (by omega), if_pos (by omega), if_pos (by omega)])
theorem new_no (n : Int) (w : World) (h : n < 1 ∨ 64 < n) : Calls Try.prog 32 #[.int .i64 n] w fun e w' => ∃ v0_ : Value, e = .returned (.tuple #[v0_, .int .i64 2]) ∧ Kd.R (Kd.int .i64) 3 w' w.heap.size (fun _ => True) v0_ [] ∧ Below w.heap.size w w' :=
  Qobase.clock_New.calls n _ 2 w (by unfold Qobase.clock_New.f; rcases h with h | h; · rw [if_pos h]
                                     · rw [if_neg (by omega), if_pos (by omega)])
/-- a clock's tick -/
def tickF (c : List Int) (r : Int) : List Int × Int := if HD.mayB c = true ∧ 0 ≤ r ∧ r < c.length ∧ rd c r ≠ 1099511627776 then (c.set r.toNat (rd c r + 1), 0) else ([], 2)
theorem mayB_rd {c : List Int} (h : HD.mayB c = true) {r : Int} (h0 : 0 ≤ r) (h1 : r < c.length) : 0 ≤ rd c r ∧ rd c r ≤ 1099511627776 := by
  unfold HD.mayB at h
  simp only [Bool.and_eq_true, Bool.not_eq_true', List.any_eq_false, decide_eq_true_eq] at h
  have hm := h.2 c[r.toNat] (List.getElem_mem _)
  have hr : rd c r = c[r.toNat]'(by omega) := by
    simp only [rd]
    rw [List.getD_eq_getElem?_getD, List.getElem?_eq_getElem (by omega)]
    rfl
  rw [hr]
  unfold HD.odd at hm
  simp only [Bool.or_eq_true, decide_eq_true_eq, not_or] at hm
  omega
theorem tick_f (c : List Int) (r : Int) (hc : c.length ≤ 64) : Qobase.clock_Clock_Tick.f c r = some (tickF c r) := by
  unfold Qobase.clock_Clock_Tick.f HD.clock_May.f tickF
  simp only [Option.bind_some]
  have hm : (decide (1 ≤ c.length ∧ c.length ≤ 64) && !(c.any HD.odd)) = HD.mayB c := rfl
  rw [hm]
  by_cases h : HD.mayB c = true
  · rw [if_pos h]
    by_cases h0 : r < 0
    · rw [if_pos h0, if_neg (by omega)]
    · rw [if_neg h0]
      by_cases h1 : r ≥ c.length
      · rw [if_pos h1, if_neg (by omega)]
      · rw [if_neg h1, if_pos (by omega), if_pos (by omega)]
        by_cases h2 : rd c r = 1099511627776
        · rw [if_pos h2, if_neg (by simp [h2])]
        · have hb := mayB_rd h (show 0 ≤ r by omega) (by omega)
          rw [if_neg h2, if_pos ⟨h, by omega, by omega, h2⟩]
          unfold HD.clone.f
          rw [if_pos (by omega)]
          simp only [Option.bind_some]
          rw [if_pos (by omega), wrap64_of (by omega) (by omega)]
  · rw [if_neg h, if_neg (fun hh => h hh.1)]
theorem tick_c (A0 : Option Addr) (c0 : Nat) (l0 : List Int) (r : Int) (w : World) (hr0 : Kd.C (Kd.int .i64) w A0 l0.length l0) (hc0 : l0.length ≤ c0) (hl : l0.length ≤ 64) :
    Calls Try.prog 34 #[.slice A0 l0.length c0, .int .i64 r] w fun e w' => ∃ v0_ : Value, e = .returned (.tuple #[v0_, .int .i64 (tickF l0 r).2]) ∧ Kd.R (Kd.int .i64) 3 w' w.heap.size (fun _ => True) v0_ (tickF l0 r).1 ∧ Below w.heap.size w w' :=
  Qobase.clock_Clock_Tick.calls A0 c0 l0 r (tickF l0 r).1 (tickF l0 r).2 w hr0 hc0 (tick_f l0 r hl)
/-- those that stand just ahead of an event -/
def behindOf (last : List Int) (e : Ev_) : List Int := e.f1 ++ (if 0 < rd last e.f0 then [rd last e.f0 - 1] else [])
/-- what is known behind those that stand just ahead; none: one is no event yet -/
def goB (ks : List Kn) : List Int → List Int × Int → Option (List Int × Int)
  | [], s => some s
  | i :: t, s => if i < 0 ∨ (ks.length : Int) ≤ i then none else goB ks t (mergeF s.1 (kat ks i).f0, max s.2 (kat ks i).f1)
/-- an event more -/
def addF (s : List Int × List Kn) (e : Ev_) : Option (List Int × List Kn) :=
  if e.f0 < 0 ∨ (s.1.length : Int) ≤ e.f0 then none else
  match goB s.2 (behindOf s.1 e) (List.replicate s.1.length 0, 0) with
  | none => none
  | some r => some (s.1.set e.f0.toNat (s.2.length + 1), s.2 ++ [⟨(tickF r.1 e.f0).1, r.2 + 1, behindOf s.1 e⟩])
/-- a maker's state -/
structure Mk (W : World) (base g : Nat) (vl v : Value) (last : List Int) (ks : List Kn) : Prop where
  blk : W.heap[g]? = some (.cells #[vl, .func (.func 33) #[] #[], .func (.func 34) #[] #[], v] 78 (0, 0))
  hg : base ≤ g
  lst : Kd.R (Kd.int .i64) 3 W base (fun _ => True) vl last
  row : Kd.R k64 64 W base (fun k => some k ≠ vl.ownBlock) v ks
theorem Mk.below {W W' : World} {base g : Nat} {vl v : Value} {last : List Int} {ks : List Kn} (h : Mk W base g vl v last ks) (hb : Below W.heap.size W W') : Mk W' base g vl v last ks :=
  ⟨blk_below h.blk hb, h.hg, Kd.R_below h.lst hb, Kd.R_below h.row hb⟩
/-- numbers that do not grow out of hand -/
def Small (last : List Int) (ks : List Kn) : Prop := 1 ≤ last.length ∧ last.length ≤ 64 ∧ ks.length ≤ 2000 ∧ (∀ x ∈ last, 0 ≤ x ∧ x ≤ 2000) ∧ (∀ x ∈ ks, 0 ≤ x.f1 ∧ x.f1 ≤ ks.length)
theorem rd_mem {l : List Int} {i : Int} (h0 : 0 ≤ i) (h1 : i < l.length) : rd l i ∈ l := by
  obtain ⟨n, rfl⟩ : ∃ n : Nat, i = n := ⟨i.toNat, by omega⟩
  rw [rd_lt (by omega)]
  exact List.getElem_mem _
theorem kat_mem {ks : List Kn} {i : Int} (h0 : 0 ≤ i) (h1 : i < ks.length) : kat ks i ∈ ks := by
  obtain ⟨n, rfl⟩ : ∃ n : Nat, i = n := ⟨i.toNat, by omega⟩
  rw [kat_nat n (by omega)]
  exact List.getElem_mem _
theorem merge_len {c d : List Int} (h : c.length ≤ 64) : (mergeF c d).length ≤ 64 := by
  unfold mergeF
  split
  · unfold HD.merged
    rw [List.length_map, List.length_zip]
    omega
  · simp
theorem goB_small {ks : List Kn} (hk : ∀ x ∈ ks, 0 ≤ x.f1 ∧ x.f1 ≤ ks.length) : ∀ (l : List Int) (s r : List Int × Int), goB ks l s = some r → s.1.length ≤ 64 → 0 ≤ s.2 → s.2 ≤ ks.length → r.1.length ≤ 64 ∧ 0 ≤ r.2 ∧ r.2 ≤ ks.length
  | [], s, r, h, h1, h2, h3 => by
    injection h with h
    subst h
    exact ⟨h1, h2, h3⟩
  | i :: t, s, r, h, h1, h2, h3 => by
    unfold goB at h
    split at h
    · cases h
    · rename_i hi
      have hm := hk _ (kat_mem (ks := ks) (i := i) (by omega) (by omega))
      refine goB_small hk t _ r h (merge_len h1) ?_ ?_
      · show 0 ≤ max s.2 (kat ks i).f1
        omega
      · show max s.2 (kat ks i).f1 ≤ ks.length
        omega
theorem Small.add {last last' : List Int} {ks ks' : List Kn} {e : Ev_} (h : Small last ks) (hn : ks.length < 2000) (ha : addF (last, ks) e = some (last', ks')) : Small last' ks' := by
  obtain ⟨h1, h2, h3, h4, h5⟩ := h
  unfold addF at ha
  dsimp only at ha
  split at ha
  · cases ha
  · split at ha
    · cases ha
    · rename_i r hr
      injection ha with ha
      injection ha with e1 e2
      have hg := goB_small h5 _ _ _ hr (by simp; omega) (by simp) (by simp)
      subst e1 e2
      refine ⟨by simpa using h1, by simpa using h2, by simp; omega, fun x hx => ?_, fun x hx => ?_⟩
      · rcases List.mem_or_eq_of_mem_set hx with hx | rfl
        · exact h4 x hx
        · omega
      · rw [List.length_append, List.length_singleton]
        rcases List.mem_append.1 hx with hx | hx
        · have := h5 x hx
          omega
        · rw [List.mem_singleton.1 hx]
          dsimp only
          omega
end Go.Proofs.Ytnblmjkaieibhaa.HO
