/-
  TEXTS, said plainly: the document's number, and its text of steps, are the program's. No program is walked here.
-/
import Derived.Test.YtfmlpcdbllpcaaaDoorTxA
import Derived.Test.YtfmlpcdbllpcaaaDoorQdbasex1
namespace Go.Proofs.YtfmlpcdbllpcaaaDoor.HX
open Go.Proofs.YtfmlpcdbllpcaaaDoor.HU Go.RowKit Go.Proofs.YtfmlpcdbllpcaaaDoor.HK Go.Proofs.YtfmlpcdbllpcaaaDoor.HP Go.Proofs.YtfmlpcdbllpcaaaDoor.Qdbase Go.Proofs.YtfmlpcdbllpcaaaDoorW.PrintWords Go.Proofs.YtfmlpcdbllpcaaaDoorW.PrintLast Go.Proofs.YtfmlpcdbllpcaaaDoorW.PrintMore
set_option linter.unusedVariables false
set_option linter.unusedSimpArgs false
theorem bs_size (l : List UInt8) : (bs l).size = l.length := by simp [bs, ByteArray.size]
theorem bs_app (a b : List UInt8) : bs a ++ bs b = bs (a ++ b) := bytes_append a b
theorem dec_small {n : Nat} (h : n < 10) : Lib.decDigits n = [UInt8.ofNat (48 + n)] := by rw [Lib.decDigits, dif_pos h]
theorem dec_big {n : Nat} (h : ¬ n < 10) : Lib.decDigits n = Lib.decDigits (n / 10) ++ Lib.decDigits (n % 10) := by
  rw [Lib.decDigits, dif_neg h, dec_small (Nat.mod_lt _ (by decide))]
theorem dec_len {n : Nat} (h : n ≤ 9223372036854775808) : (Lib.decDigits n).length ≤ 20 := by
  have := Lib.itoa_length_le (-(n : Int)) (by omega) (by omega)
  rw [Lib.itoa] at this
  split at this
  · rw [show (-(n : Int)).natAbs = n by omega] at this
    simp only [List.length_cons] at this
    omega
  · have : n = 0 := by omega
    subst this
    rw [dec_small (by decide)]
    decide
theorem digits (n : Nat) (hn : n ≤ 9223372036854775807) : Ev (fun k => dispatcherref11_Digits.f k (n : Int)) (bs (Lib.decDigits n)) := by
  induction n using Nat.strongRecOn with
  | ind n ih =>
    by_cases h : n < 10
    · refine Ev.round (f := fun _ => some (bs (Lib.decDigits n))) (Ev.now _) (fun k => ?_)
      rw [dispatcherref11_Digits.f, if_pos (by omega), dec_small h]
      rw [show (48 + (n : Int) % 256) % 256 = ((48 + n : Nat) : Int) by omega]
      rcases (by omega : n = 0 ∨ n = 1 ∨ n = 2 ∨ n = 3 ∨ n = 4 ∨ n = 5 ∨ n = 6 ∨ n = 7 ∨ n = 8 ∨ n = 9) with rfl | rfl | rfl | rfl | rfl | rfl | rfl | rfl | rfl | rfl <;> rfl
    · have h1 := ih (n / 10) (by omega) (by omega)
      have h2 := ih (n % 10) (by omega) (by omega)
      refine Ev.round (f := fun k => (dispatcherref11_Digits.f k ((n / 10 : Nat) : Int)).bind fun t131 => ((dispatcherref11_Digits.f k ((n % 10 : Nat) : Int)).bind fun t132 => (if t131.size + t132.size ≤ 9223372036854775807 then (some (t131 ++ t132)) else (none)))) ?_ (fun k => ?_)
      · refine Ev.bind_of h1 (Ev.bind_of h2 ?_)
        refine Ev.pos ?_ ?_
        · rw [bs_size, bs_size]
          have := dec_len (n := n / 10) (by omega)
          have := dec_len (n := n % 10) (by omega)
          omega
        · exact Ev.const (by rw [bs_app, ← dec_big h])
      · rw [dispatcherref11_Digits.f, if_neg (by omega), Int.tdiv_eq_ediv_of_nonneg (by omega), Int.tmod_eq_emod_of_nonneg (by omega), wrap64_of (by omega) (by omega)]
        rfl
theorem digits_c (m : Nat) (hm : m ≤ 9223372036854775807) (w : World) : Calls Tryd.prog 33 #[.int .i64 (m : Int)] w fun e w' => e = .returned (.string (bs (Lib.decDigits m))) ∧ Below w.heap.size w w' := by
  obtain ⟨k, hk⟩ := (digits m hm).rounds
  exact dispatcherref11_Digits.calls k (m : Int) _ w hk
set_option maxHeartbeats 2000000 in
theorem number_c (n : Int) (hn : Rng n) (w : World) : Calls Tryd.prog 24 #[.int .i64 n] w fun e w' => e = .returned (.string (bs (Lib.itoa n))) ∧ Below w.heap.size w w' := by
  obtain ⟨h0, h1⟩ := hn
  by_cases hp : 0 ≤ n
  · obtain ⟨m, rfl⟩ : ∃ m : Nat, n = m := ⟨n.toNat, by omega⟩
    have HI := Aside0.mk (show Lib.itoa (m : Int) = Lib.decDigits m by rw [Lib.itoa, if_neg (by omega), Int.toNat_natCast])
    have HM := Aside0.mk (show m ≤ 9223372036854775807 by omega)
    clear h0 h1 hp
    go_enter Tryd.func24, Tryd.ntmps24
    go_wp2_with fail
    refine (digits_c m HM.out w).mono ?_
    rintro e w1 ⟨rfl, hb⟩
    have HB := Aside0.mk hb
    clear hb
    go_wp2
    go_ret
    exact ⟨ret_str (by rw [HI.out]), HB.out⟩
  · obtain ⟨m, hm⟩ : ∃ m : Nat, n = -(m : Int) := ⟨n.natAbs, by omega⟩
    have hm0 : 0 < m := by omega
    have HI := Aside0.mk (show Lib.itoa n = 45 :: Lib.decDigits m by rw [Lib.itoa, if_pos (by omega), show n.natAbs = m by omega])
    have dge : decide (0 ≤ n) = false := decide_eq_false hp
    by_cases hs : m < 10
    · have hd : wrap64 (Int.tdiv n 10) = 0 := by subst hm; rw [Int.neg_tdiv, Int.tdiv_eq_ediv_of_nonneg (by omega), show (m : Int) / 10 = 0 by omega, Int.neg_zero, wrap64_of (by decide) (by decide)]
      have hneg : wrap64 (-n) = (m : Int) := by rw [wrap64_of (by omega) (by omega)]; omega
      have hcat : ¬ 9223372036854775807 < 1 + (bs (Lib.decDigits m)).size := by rw [bs_size]; have := dec_len (n := m) (by omega); omega
      have HM := Aside0.mk (show m ≤ 9223372036854775807 by omega)
      clear h0 h1 hm hm0 hp hs
      go_enter Tryd.func24, Tryd.ntmps24
      go_wp2_with fail
      refine (digits_c m HM.out w).mono ?_
      rintro e w1 ⟨rfl, hb⟩
      have HB := Aside0.mk hb
      clear hb
      go_wp2
      go_ret
      exact ⟨ret_str (by rw [HI.out]; exact bs_app [45] _), HB.out⟩
    · have HDB := Aside0.mk (dec_big hs)
      obtain ⟨q, hq⟩ : ∃ q : Nat, q = m / 10 := ⟨_, rfl⟩
      obtain ⟨r, hr⟩ : ∃ r : Nat, r = m % 10 := ⟨_, rfl⟩
      rw [← hq, ← hr] at HDB
      have hd : wrap64 (Int.tdiv n 10) = -(q : Int) := by subst hm; rw [Int.neg_tdiv, Int.tdiv_eq_ediv_of_nonneg (by omega), wrap64_of (by omega) (by omega)]; omega
      have hrm : Int.tmod n 10 = -(r : Int) := by subst hm; rw [Int.neg_tmod, Int.tmod_eq_emod_of_nonneg (by omega)]; omega
      have hq0 : ¬ q = 0 := by omega
      have hwq : wrap64 (q : Int) = (q : Int) := wrap64_of (by omega) (by omega)
      have hwr : wrap64 (r : Int) = (r : Int) := wrap64_of (by omega) (by omega)
      have l1 := dec_len (n := q) (by omega)
      have l2 := dec_len (n := r) (by omega)
      have hcat : ¬ 9223372036854775807 < 1 + (bs (Lib.decDigits q)).size := by rw [bs_size]; omega
      have hcat2 : ¬ 9223372036854775807 < 1 + (bs (Lib.decDigits q)).size + (bs (Lib.decDigits r)).size := by rw [bs_size, bs_size]; omega
      have HQ := Aside0.mk (show q ≤ 9223372036854775807 by omega)
      have HR := Aside0.mk (show r ≤ 9223372036854775807 by omega)
      clear h0 h1 hm hm0 hp hs hq hr l1 l2
      go_enter Tryd.func24, Tryd.ntmps24
      go_wp2_with fail
      refine (digits_c q HQ.out w).mono ?_
      rintro e w1 ⟨rfl, hb⟩
      have HB := Aside0.mk hb
      clear hb
      go_wp2_with fail
      refine (digits_c r HR.out w1).mono ?_
      rintro e w2 ⟨rfl, hb⟩
      have HB2 := Aside0.mk (below_then HB.out HB.out.size hb)
      clear hb
      go_wp2
      go_ret
      exact ⟨ret_str (by rw [HI.out, HDB.out, show (⟨#[45]⟩ : ByteArray) = bs [45] from rfl, bs_app, bs_app]; rfl), HB2.out⟩
end Go.Proofs.YtfmlpcdbllpcaaaDoor.HX
