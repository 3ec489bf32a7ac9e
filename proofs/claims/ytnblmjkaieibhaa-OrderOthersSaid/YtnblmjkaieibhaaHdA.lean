/-
  CONTRACTS BY HAND (1): clock.May and what it calls: whether a clock may be; nothing is written.
-/
import Derived.Test.YtnblmjkaieibhaaHW
namespace Go.Proofs.Ytnblmjkaieibhaa.HD
open Go.RowKit Go.Proofs.YtnblmjkaieibhaaW.PrintWords Go.Proofs.YtnblmjkaieibhaaW.PrintLast Go.Proofs.YtnblmjkaieibhaaW.PrintMore
set_option linter.unusedVariables false
set_option linter.unusedSimpArgs false

/-- may a number not be one of a clock's? -/
def odd (n : Int) : Bool := decide (n < 0) || decide (1099511627776 < n)

theorem odd_calls (n : Int) (w : World) : Calls Try.prog 46 #[.int .i64 n] w fun e w' => e = .returned (.bool (odd n)) ∧ w = w' := by
  by_cases h : n < 0
  · have h1 : decide (n < 0) = true := by simpa using h
    go_enter Try.func46, Try.ntmps46
    go_wp2
    go_ret
    exact ⟨by simp [odd, h], rfl⟩
  · have h1 : decide (n < 0) = false := by simpa using h
    by_cases h2 : 1099511627776 < n
    · have h3 : decide (1099511627776 < n) = true := by simpa using h2
      go_enter Try.func46, Try.ntmps46
      go_wp2
      go_ret
      exact ⟨by simp [odd, h2], rfl⟩
    · have h3 : decide (1099511627776 < n) = false := by simpa using h2
      go_enter Try.func46, Try.ntmps46
      go_wp2
      go_ret
      exact ⟨by simp [odd, h, h2], rfl⟩

theorem ret_int {k : IntKind} {a b : Int} (h : a = b) : Ending.returned (.int k a) = .returned (.int k b) := by rw [h]
theorem ret_bool {a b : Bool} (h : a = b) : Ending.returned (.bool a) = .returned (.bool b) := by rw [h]
/-- the place of the first one that is such, from a number on -/
def idxF {α : Type} (p : α → Bool) : List α → Int → Int
  | [], _ => -1
  | a :: t, i => if p a then i else idxF p t (i + 1)
theorem idxF_at {p : Int → Bool} (l : List Int) (i : Nat) (h : i < l.length) : idxF p (l.drop i) i = if p (rd l i) then (i : Int) else idxF p (l.drop (i + 1)) ((i + 1 : Nat) : Int) := by
  rw [List.drop_eq_getElem_cons h]
  simp only [idxF]
  have : rd l i = l[i] := by simp [rd, h]
  rw [this]
  rfl
theorem idxF_end {p : Int → Bool} (l : List Int) (i : Nat) (h : l.length ≤ i) : idxF p (l.drop i) i = -1 := by rw [List.drop_eq_nil_of_le h]; rfl
theorem idxF_any {α : Type} (p : α → Bool) (l : List α) : ∀ i : Int, 0 ≤ i → decide (idxF p l i ≥ 0) = l.any p := by
  induction l with
  | nil => intro i _; simp [idxF]
  | cons a t ih =>
    intro i hi
    simp only [idxF, List.any_cons]
    by_cases h : p a = true
    · simp [h, hi]
    · have h : p a = false := by simpa using h
      simp [h, ← ih (i + 1) (by omega)]

theorem index_calls (A : Option Addr) (c : Nat) (l : List Int) (w : World) (hr : Kd.C (Kd.int .i64) w A l.length l) (hc : l.length ≤ c) :
    Calls Try.prog 48 #[.slice A l.length c, .func (.func 46) #[] #[]] w fun e w' => e = .returned (.int .i64 (idxF odd l 0)) ∧ w = w' := by
  have HR := Aside0.mk hr
  have hm := Kd.C_max hr
  clear hr
  go_enter Try.func48, Try.ntmps48
  go_wp2
  go_loop [5, 8] (fun v5 v8 => ∃ i : Nat, i ≤ l.length ∧ v8 = .int .i64 i ∧ Aside0 (idxF odd l 0 = idxF odd (l.drop i) i)) (fun _ v8 => l.length - (intOf v8).toNat)
  case atStart => exact ⟨0, Nat.zero_le _, rfl, ⟨rfl⟩⟩
  case round =>
    obtain ⟨i, hi, rfl, hall⟩ := hrel
    by_cases hlt : i < l.length
    · obtain ⟨ad, rfl, hx⟩ := Kd.at_int HR.out i (by omega) (by omega)
      rw [Int.toNat_natCast] at hx
      have hs := Aside0.mk (idxF_at (p := odd) l i hlt)
      by_cases ho : odd (rd l i) = true
      · go_wp2_with (go_at_call 46; refine (odd_calls _ _).mono ?_; rintro e w' ⟨rfl, rfl⟩)
        go_ret
        exact ⟨ret_int (by rw [hall.out, hs.out, if_pos ho]), rfl⟩
      · have ho : odd (rd l i) = false := by simpa using ho
        go_wp2_with (go_at_call 46; refine (odd_calls _ _).mono ?_; rintro e w' ⟨rfl, rfl⟩)
        go_round
        case rel => exact ⟨i + 1, by omega, by go_num, ⟨by rw [hall.out, hs.out, if_neg (by rw [ho]; simp)]⟩⟩
        case measure => simp [intOf]; omega
    · have hs := Aside0.mk (idxF_end (p := odd) l i (by omega))
      go_wp2
      go_ret
      exact ⟨ret_int (by rw [hall.out, hs.out]), rfl⟩

theorem contains_calls (A : Option Addr) (c : Nat) (l : List Int) (w : World) (hr : Kd.C (Kd.int .i64) w A l.length l) (hc : l.length ≤ c) :
    Calls Try.prog 47 #[.slice A l.length c, .func (.func 46) #[] #[]] w fun e w' => e = .returned (.bool (l.any odd)) ∧ w = w' := by
  go_enter Try.func47, Try.ntmps47
  go_wp2_with (go_at_call 48; refine (index_calls _ _ _ _ hr hc).mono ?_; rintro e w' ⟨rfl, rfl⟩)
  go_ret
  exact ⟨ret_bool (by rw [← idxF_any odd l 0 (by omega)]), rfl⟩

def clock_May.f (l : List Int) : Option Bool := some (decide (1 ≤ l.length ∧ l.length ≤ 64) && !(l.any odd))
theorem clock_May.calls (A0 : Option Addr) (c0 : Nat) (l0 : List Int) (r : Bool) (w : World) (hr0 : Kd.C (Kd.int .i64) w A0 l0.length l0) (hc0 : l0.length ≤ c0) (h : clock_May.f l0 = some r) :
    Calls Try.prog 42 #[.slice A0 l0.length c0] w fun e w' => e = .returned (.bool r) ∧ Drawn0 w w' := by
  obtain rfl := Option.some.inj h
  clear h
  by_cases h1 : 1 ≤ l0.length
  · have d1 : decide ((1 : Int) ≤ (l0.length : Int)) = true := by simp; omega
    by_cases h2 : l0.length ≤ 64
    · have d2 : decide ((l0.length : Int) ≤ 64) = true := by simp; omega
      go_enter Try.func42, Try.ntmps42
      go_wp2_with (go_at_call 47; refine (contains_calls _ _ _ _ hr0 hc0).mono ?_; rintro e w' ⟨rfl, rfl⟩)
      go_ret
      exact ⟨ret_bool (by simp [h1, h2]), Drawn0.refl _⟩
    · have d2 : decide ((l0.length : Int) ≤ 64) = false := by simp; omega
      go_enter Try.func42, Try.ntmps42
      go_wp2
      go_ret
      exact ⟨ret_bool (by simp [h2]), Drawn0.refl _⟩
  · have d1 : decide ((1 : Int) ≤ (l0.length : Int)) = false := by simp; omega
    go_enter Try.func42, Try.ntmps42
    go_wp2
    go_ret
    exact ⟨ret_bool (by simp [h1]), Drawn0.refl _⟩
def mayB (l : List Int) : Bool := decide (1 ≤ l.length ∧ l.length ≤ 64) && !(l.any odd)
theorem may_calls (A0 : Option Addr) (c0 : Nat) (l0 : List Int) (w : World) (hr0 : Kd.C (Kd.int .i64) w A0 l0.length l0) (hc0 : l0.length ≤ c0) :
    Calls Try.prog 42 #[.slice A0 l0.length c0] w fun e w' => e = .returned (.bool (mayB l0)) ∧ ∃ n, w' = w.drewN n :=
  (clock_May.calls A0 c0 l0 _ w hr0 hc0 rfl).mono fun e w' h => ⟨h.1, h.2.out⟩
/-- may two clocks be told of one another? -/
def fitB (c d : List Int) : Bool := mayB c && mayB d && decide (c.length = d.length)
def clock_fit.f (c d : List Int) : Option Bool := some (fitB c d)
theorem clock_fit.calls (A0 : Option Addr) (c0 : Nat) (l0 : List Int) (A1 : Option Addr) (c1 : Nat) (l1 : List Int) (r : Bool) (w : World) (hr0 : Kd.C (Kd.int .i64) w A0 l0.length l0) (hc0 : l0.length ≤ c0)
    (hr1 : Kd.C (Kd.int .i64) w A1 l1.length l1) (hc1 : l1.length ≤ c1) (h : clock_fit.f l0 l1 = some r) :
    Calls Try.prog 36 #[.slice A0 l0.length c0, .slice A1 l1.length c1] w fun e w' => e = .returned (.bool r) ∧ Drawn0 w w' := by
  obtain rfl := Option.some.inj h
  clear h
  have HR0 := Aside0.mk hr0
  have HR1 := Aside0.mk hr1
  clear hr0 hr1
  by_cases h0 : mayB l0 = true
  · go_enter Try.func36, Try.ntmps36
    go_wp2_with fail
    refine (may_calls A0 c0 l0 _ HR0.out hc0).mono ?_
    rintro e w' ⟨rfl, ⟨n1, rfl⟩⟩
    go_wp2_with fail
    refine (may_calls A1 c1 l1 _ (Kd.C_drewN HR1.out _) hc1).mono ?_
    rintro e w' ⟨rfl, ⟨n2, rfl⟩⟩
    by_cases h1 : mayB l1 = true
    · go_wp2
      go_ret
      exact ⟨ret_bool (by unfold fitB; rw [h0, h1, Bool.eq_iff_iff]; simp; omega), Drawn0.step (Drawn0.refl _) _⟩
    · have h1 : mayB l1 = false := by simpa using h1
      go_wp2
      go_ret
      exact ⟨ret_bool (by unfold fitB; rw [h0, h1]; simp), Drawn0.step (Drawn0.refl _) _⟩
  · have h0 : mayB l0 = false := by simpa using h0
    go_enter Try.func36, Try.ntmps36
    go_wp2_with fail
    refine (may_calls A0 c0 l0 _ HR0.out hc0).mono ?_
    rintro e w' ⟨rfl, ⟨n1, rfl⟩⟩
    go_wp2
    go_ret
    exact ⟨ret_bool (by unfold fitB; rw [h0]; simp), Drawn0.step (Drawn0.refl _) _⟩
end Go.Proofs.Ytnblmjkaieibhaa.HD
