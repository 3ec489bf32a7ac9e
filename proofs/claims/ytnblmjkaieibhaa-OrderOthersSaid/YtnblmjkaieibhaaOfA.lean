/-
  CONTRACTS BY HAND (orders, 11): what First calls of the library: IndexFunc, ContainsFunc with the question 'is it not in yet'; Grow, Concat.
-/
import Derived.Test.YtnblmjkaieibhaaOdE
namespace Go.Proofs.Ytnblmjkaieibhaa.HO
open Go.Proofs.Ytnblmjkaieibhaa.HU Go.RowKit Go.Proofs.Ytnblmjkaieibhaa.HK Go.Proofs.Ytnblmjkaieibhaa.HP Go.Proofs.YtnblmjkaieibhaaW.PrintWords Go.Proofs.YtnblmjkaieibhaaW.PrintLast Go.Proofs.YtnblmjkaieibhaaW.PrintMore
set_option linter.unusedVariables false
set_option linter.unusedSimpArgs false
/-- is one not in yet? -/
def outB (ins : List Int) (k : Int) : Bool := rd ins k == 0
theorem out_c (bi : Nat) (Ai : Option Addr) (ci : Nat) (ins : List Int) (k : Int) (w : World) (h : w.cell? ⟨bi, 0, none⟩ = some (.slice Ai ins.length ci)) (hr : Kd.C (Kd.int .i64) w Ai ins.length ins) (h0 : 0 ≤ k) (h1 : k < ins.length) :
    Calls Try.prog 39 #[.int .i64 k, .pointer (some ⟨bi, 0, none⟩)] w fun e w' => e = .returned (.bool (outB ins k)) ∧ w = w' := by
  obtain ⟨ad, had, hx⟩ := Kd.at_int hr k h0 h1
  subst had
  clear hr
  go_enter Try.func39, Try.ntmps39
  go_wp2
  go_ret
  exact ⟨rfl, rfl⟩
theorem idx_c (bi : Nat) (Ai : Option Addr) (ci : Nat) (ins : List Int) (A : Option Addr) (c : Nat) (l : List Int) (w : World) (h : w.cell? ⟨bi, 0, none⟩ = some (.slice Ai ins.length ci)) (hri : Kd.C (Kd.int .i64) w Ai ins.length ins) (hr : Kd.C (Kd.int .i64) w A l.length l) (hc : l.length ≤ c)
    (hin : ∀ k ∈ l, 0 ≤ k ∧ k < ins.length) :
    Calls Try.prog 45 #[.slice A l.length c, .func (.func 39) #[] #[.pointer (some ⟨bi, 0, none⟩)]] w fun e w' => e = .returned (.int .i64 (HD.idxF (outB ins) l 0)) ∧ w = w' := by
  have HR := Aside0.mk hr
  have hm := Kd.C_max hr
  have HI := Aside0.mk hin
  have HO := Aside0.mk (fun k h0 h1 => out_c bi Ai ci ins k w h hri h0 h1)
  clear hr h hri hin
  go_enter Try.func45, Try.ntmps45
  go_wp2
  go_loop [5, 8] (fun v5 v8 => ∃ i : Nat, i ≤ l.length ∧ v8 = .int .i64 i ∧ Aside0 (HD.idxF (outB ins) l 0 = HD.idxF (outB ins) (l.drop i) i)) (fun _ v8 => l.length - (intOf v8).toNat)
  case atStart => exact ⟨0, Nat.zero_le _, rfl, ⟨rfl⟩⟩
  case round =>
    obtain ⟨i, hi, rfl, hall⟩ := hrel
    by_cases hlt : i < l.length
    · obtain ⟨ad, rfl, hx⟩ := Kd.at_int HR.out i (by omega) (by omega)
      rw [Int.toNat_natCast] at hx
      have hs := Aside0.mk (HD.idxF_at (p := outB ins) l i hlt)
      obtain ⟨k0, k1⟩ := HI.out _ (rd_mem (l := l) (i := (i : Int)) (by omega) (by omega))
      have HC := Aside0.mk (HO.out _ k0 k1)
      clear k0 k1
      by_cases ho : outB ins (rd l i) = true
      · go_wp2_with (go_at_call 39; refine HC.out.mono ?_; rintro e w' ⟨rfl, rfl⟩)
        go_ret
        exact ⟨ret_int (by rw [hall.out, hs.out, if_pos ho]), rfl⟩
      · have ho : outB ins (rd l i) = false := by simpa using ho
        go_wp2_with (go_at_call 39; refine HC.out.mono ?_; rintro e w' ⟨rfl, rfl⟩)
        go_round
        case rel => exact ⟨i + 1, by omega, by go_num, ⟨by rw [hall.out, hs.out, if_neg (by rw [ho]; simp)]⟩⟩
        case measure => simp [intOf]; omega
    · have hs := Aside0.mk (HD.idxF_end (p := outB ins) l i (by omega))
      go_wp2
      go_ret
      exact ⟨ret_int (by rw [hall.out, hs.out]), rfl⟩
theorem cont_c (bi : Nat) (Ai : Option Addr) (ci : Nat) (ins : List Int) (A : Option Addr) (c : Nat) (l : List Int) (w : World) (h : w.cell? ⟨bi, 0, none⟩ = some (.slice Ai ins.length ci)) (hri : Kd.C (Kd.int .i64) w Ai ins.length ins) (hr : Kd.C (Kd.int .i64) w A l.length l) (hc : l.length ≤ c)
    (hin : ∀ k ∈ l, 0 ≤ k ∧ k < ins.length) :
    Calls Try.prog 40 #[.slice A l.length c, .func (.func 39) #[] #[.pointer (some ⟨bi, 0, none⟩)]] w fun e w' => e = .returned (.bool (l.any (outB ins))) ∧ w = w' := by
  have HX := Aside0.mk (idx_c bi Ai ci ins A c l w h hri hr hc hin)
  clear h hri hr hin
  go_enter Try.func40, Try.ntmps40
  go_wp2_with (go_at_call 45; refine HX.out.mono ?_; rintro e w' ⟨rfl, rfl⟩)
  go_ret
  exact ⟨ret_bool (by rw [← HD.idxF_any (outB ins) l 0 (by omega)]), rfl⟩
set_option maxHeartbeats 1000000 in
theorem grow_c (n : Nat) (w : World) (hn : n ≤ 100000) :
    Calls Try.prog 41 #[.slice none 0 0, .int .i64 n] w fun e w' => ∃ v0_, e = .returned v0_ ∧ Kd.R (Kd.int .i64) 3 w' w.heap.size (fun _ => True) v0_ [] ∧ Below w.heap.size w w' := by
  have d0 : decide ((n : Int) < 0) = false := decide_eq_false (by omega)
  have hs0 : IntKind.i64.wrap ((n : Int) - 0) = (n : Int) := by rw [Int.sub_zero]; exact i64w (by omega) (by omega)
  by_cases hp : 0 < n
  · have d1 : decide (0 < (n : Int)) = true := decide_eq_true (by omega)
    go_enter Try.func41, Try.ntmps41
    have hl8 : (([] : List Int).length + (n : Int).toNat) * 8 ≤ 140737488355328 := by simp; omega
    have hn0 : (0 : Int) ≤ (n : Int) := by omega
    clear hn
    go_wp2_with (at_builtin; refine Kd.R_append_zeros (Kd.int .i64) (w0 := w) w.heap.size rfl (.tmp 20) (.tmp 21) 28 3 3 (.int .i64 0) 8 rfl Try.underlying28 Try.underlying3 infoI rfl (by decide) (by decide) (.slice none 0 0) [] (0 : Int) (n : Int) (fun _ => True) rfl rfl rfl (fun _ _ => trivial) (Kd.R_nil _ _ _ _ _) hn0 (Below.refl _ _) (Nat.le_refl _) hl8 ?_; intro v1 w1 ho hbl hgr hat; rw [List.nil_append, Int.toNat_natCast] at ho; obtain ⟨A1, c1, hv1, hc1, _⟩ := Kd.R_reads ho; rw [List.length_replicate] at hv1 hc1; subst hv1; have HO := Aside0.mk (Kd.R_take (m := 0) ho (by omega)); have HB := Aside0.mk hbl; clear ho hbl hgr hat)
    go_ret
    exact ⟨_, rfl, HO.out, HB.out⟩
  · obtain rfl : n = 0 := by omega
    go_enter Try.func41, Try.ntmps41
    go_wp2
    go_ret
    exact ⟨_, rfl, Kd.R_nil _ _ _ _ _, Below.refl _ _⟩
set_option maxHeartbeats 2000000 in
theorem concat_c (b : Nat) (A1 A2 : Option Addr) (c1 c2 : Nat) (x1 x2 : List Int) (w : World) (h0 : w.cell? ⟨b, 0, none⟩ = some (.slice A1 x1.length c1)) (h1 : w.cell? ⟨b, 1, none⟩ = some (.slice A2 x2.length c2))
    (hr1 : Kd.C (Kd.int .i64) w A1 x1.length x1) (hr2 : Kd.C (Kd.int .i64) w A2 x2.length x2) (hl1 : x1.length ≤ 10000) (hl2 : x2.length ≤ 10000) :
    Calls Try.prog 30 #[.slice (some ⟨b, 0, none⟩) 2 2] w fun e w' => ∃ v0_, e = .returned v0_ ∧ Kd.R (Kd.int .i64) 3 w' w.heap.size (fun _ => True) v0_ (x1 ++ x2) ∧ Below w.heap.size w w' := by
  have HR1 := Aside0.mk hr1
  have HR2 := Aside0.mk hr2
  have H1 := Aside0.mk h1
  clear hr1 hr2
  have s1 : IntKind.i64.wrap ((0 : Int) + (x1.length : Int)) = (x1.length : Int) := by rw [Int.zero_add]; exact i64w (by omega) (by omega)
  have s2 : IntKind.i64.wrap ((x1.length : Int) + (x2.length : Int)) = ((x1.length + x2.length : Nat) : Int) := by rw [i64w (by omega) (by omega)]; omega
  have e1 : decide ((x1.length : Int) < 0) = false := decide_eq_false (by omega)
  have e2 : decide (((x1.length + x2.length : Nat) : Int) < 0) = false := decide_eq_false (by omega)
  go_enter Try.func30, Try.ntmps30
  go_wp2
  refine wp_loop_rounds 3 ?_
  rw [rounds_succ]
  go_wp2
  rw [rounds_succ]
  go_wp2
  rw [rounds_succ]
  go_wp2_with fail
  refine (grow_c (x1.length + x2.length) w (by omega)).mono ?_
  rintro e w1 ⟨vg, rfl, hG, hb⟩
  have HG := Aside0.mk hG
  have HB1 := Aside0.mk hb
  obtain ⟨Ag, cg, rfl, hcg, _⟩ := Kd.R_reads HG.out
  have hz1 := hb.size
  have hk1 : (([] : List Int).length + x1.length) * 8 ≤ 140737488355328 := by simp; omega
  have hk2 : (x1.length + x2.length) * 8 ≤ 140737488355328 := by omega
  have h0 := pw_cell_below hb h0
  have h1 := pw_cell_below hb h1
  clear hG hb s1 s2 e1 e2
  go_wp2
  refine wp_loop_rounds 3 ?_
  rw [rounds_succ]
  go_wp2_with (at_builtin; refine Kd.R_append_rows (Kd.int .i64) (w0 := w) w.heap.size rfl (.tmp 31) (.tmp 32) 28 3 (.int .i64 0) 8 rfl Try.underlying28 infoI rfl (by decide) (by decide) (.slice Ag 0 cg) [] x1 _ _ _ (fun _ => True) (fun _ => False) rfl rfl HG.out (Kd.C_below HR1.out HB1.out) (fun _ _ h => h) (fun _ h => h.elim) (fun _ _ => trivial) HB1.out hz1 hk1 ?_; intro v1 w2 ho hbl hgr hat; rw [List.nil_append] at ho; obtain ⟨A3, c3, rfl, hc3, _⟩ := Kd.R_reads ho; have HO2 := Aside0.mk ho; have HB2 := Aside0.mk hbl; clear ho hbl hgr hat)
  rw [rounds_succ]
  have h1 := pw_cell_below HB2.out H1.out
  go_wp2_with (at_builtin; refine Kd.R_append_rows (Kd.int .i64) (w0 := w) w.heap.size rfl (.tmp 31) (.tmp 32) 28 3 (.int .i64 0) 8 rfl Try.underlying28 infoI rfl (by decide) (by decide) (.slice A3 x1.length c3) x1 x2 _ _ _ (fun _ => True) (fun _ => False) rfl rfl HO2.out (Kd.C_below HR2.out HB2.out) (fun _ _ h => h) (fun _ h => h.elim) (fun _ _ => trivial) HB2.out HB2.out.size hk2 ?_; intro v1 w3 ho hbl hgr hat; obtain ⟨A4, c4, rfl, hc4, _⟩ := Kd.R_reads ho; have HO3 := Aside0.mk ho; have HB3 := Aside0.mk hbl; clear ho hbl hgr hat)
  rw [rounds_succ]
  go_wp2
  go_ret
  have hF := HO3.out
  rw [List.length_append] at hF
  exact ⟨_, rfl, hF, HB3.out⟩
end Go.Proofs.Ytnblmjkaieibhaa.HO
