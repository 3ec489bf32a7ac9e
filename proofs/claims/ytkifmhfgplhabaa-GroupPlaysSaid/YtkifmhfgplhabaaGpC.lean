/-
  CONTRACTS BY HAND (groups, 4): the document's May, Copy, Same: the printed functions' answers.
-/
import Derived.Test.YtkifmhfgplhabaaGpB
import Derived.Test.YtkifmhfgplhabaaQgbasex1
import Derived.Test.YtkifmhfgplhabaaQgbasex2
namespace Go.Proofs.Ytkifmhfgplhabaa.HQ
open Go.Proofs.Ytkifmhfgplhabaa.HU Go.RowKit Go.Proofs.Ytkifmhfgplhabaa.HK Go.Proofs.Ytkifmhfgplhabaa.HP Go.Proofs.YtkifmhfgplhabaaW.PrintWords Go.Proofs.YtkifmhfgplhabaaW.PrintLast Go.Proofs.YtkifmhfgplhabaaW.PrintMore
set_option linter.unusedVariables false
set_option linter.unusedSimpArgs false
theorem len_le : ∀ (l m : List Int), l.Nodup → (∀ x ∈ l, x ∈ m) → l.length ≤ m.length
  | [], m, _, _ => by simp
  | x :: t, m, hn, hs => by
    rw [List.nodup_cons] at hn
    have hx := hs x (by simp)
    have h1 := len_le t (m.erase x) hn.2 (fun y hy => (List.mem_erase_of_ne (by rintro rfl; exact hn.1 hy)).2 (hs y (by simp [hy])))
    rw [List.length_erase_of_mem hx] at h1
    have h2 := List.length_pos_of_mem hx
    simp only [List.length_cons]
    omega
theorem pre_len {l : List Int} (h : Pre l) : l.length ≤ 64 := by
  have := len_le l ((List.range 64).map fun n : Nat => (n : Int)) h.2 (fun x hx => by
    have := h.1 x hx
    exact List.mem_map.2 ⟨x.toNat, List.mem_range.2 (by omega), by omega⟩)
  simpa using this
theorem take_snoc {l : List Int} {i : Nat} (h : i < l.length) : l.take (i + 1) = l.take i ++ [rd l (i : Int)] := by
  rw [rd_lt h, List.take_add_one, List.getElem?_eq_getElem h]; rfl
theorem mem_take_rd {l : List Int} {i : Nat} {x : Int} (hi : i ≤ l.length) : x ∈ l.take i ↔ ∃ m : Nat, m < i ∧ rd l (m : Int) = x := by
  rw [List.mem_take_iff_getElem]
  constructor
  · rintro ⟨m, hm, he⟩
    exact ⟨m, by omega, by rw [rd_lt (by omega)]; exact he⟩
  · rintro ⟨m, hm, he⟩
    exact ⟨m, by omega, by rw [rd_lt (by omega)] at he; exact he⟩
theorem rmay_in (s : ByteArray) (l : List Int) (i : Nat) (hi : i < l.length) (hl : l.length ≤ 64) (r : Bool) (hno : rd l (i : Int) ∈ l.take i → r = false)
    (hgo : rd l (i : Int) ∉ l.take i → Ev (fun k => Qgbase.dispatcherref11_May.l0 k ((i + 1 : Nat) : Int) s l) r) : ∀ n j, n = i - j → j ≤ i → (∀ m : Nat, m < j → rd l (m : Int) ≠ rd l (i : Int)) → Ev (fun k => Qgbase.dispatcherref11_May.l1 k (i : Int) (j : Int) s l) r := by
  intro n
  induction n with
  | zero =>
    intro j hn hj hall
    obtain rfl : j = i := by omega
    refine Ev.round ?_ (fun k => by simp only [Qgbase.dispatcherref11_May.l1]; rfl)
    refine Ev.neg (by omega) ?_
    rw [wrap64_nat j (by omega)]
    exact hgo (fun h => by obtain ⟨m, hm, he⟩ := (mem_take_rd (by omega)).1 h; exact hall m hm he)
  | succ n ih =>
    intro j hn hj hall
    refine Ev.round ?_ (fun k => by simp only [Qgbase.dispatcherref11_May.l1]; rfl)
    refine Ev.pos (by omega) ?_
    refine Ev.pos (by omega) ?_
    refine Ev.pos (by omega) ?_
    refine Ev.pos (by omega) ?_
    refine Ev.pos (by omega) ?_
    refine Ev.ite (fun h => ?_) (fun h => ?_)
    · exact Ev.const (by rw [hno ((mem_take_rd (by omega)).2 ⟨j, by omega, h⟩)])
    · rw [wrap64_nat j (by omega)]
      exact ih (j + 1) (by omega) (by omega) (fun m hm => by
        rcases Nat.lt_or_ge m j with h' | h'
        · exact hall m h'
        · obtain rfl : m = j := by omega
          exact h)
instance (l : List Int) : Decidable (Pre l) := by unfold Pre; infer_instance
theorem rmay_out (s : ByteArray) (l : List Int) (hl : l.length ≤ 64) : ∀ n i, n = l.length - i → i ≤ l.length → Pre (l.take i) → Ev (fun k => Qgbase.dispatcherref11_May.l0 k (i : Int) s l) (decide (Pre l)) := by
  intro n
  induction n with
  | zero =>
    intro i hn hi hp
    refine Ev.round ?_ (fun k => by simp only [Qgbase.dispatcherref11_May.l0]; rfl)
    refine Ev.neg (by omega) (Ev.const ?_)
    rw [List.take_of_length_le (by omega)] at hp
    rw [decide_eq_true hp]
  | succ n ih =>
    intro i hn hi hp
    have hlt : i < l.length := by omega
    have hno : ¬ (0 ≤ rd l (i : Int) ∧ rd l (i : Int) < 64 ∧ rd l (i : Int) ∉ l.take i) → decide (Pre l) = false := fun h => decide_eq_false (fun hp => h (by
      have := pre_take (i := i + 1) hp
      rw [take_snoc hlt, pre_snoc] at this
      exact this.2))
    refine Ev.round ?_ (fun k => by simp only [Qgbase.dispatcherref11_May.l0]; rfl)
    refine Ev.pos (by omega) ?_
    refine Ev.pos (by omega) ?_
    refine Ev.ite (fun h => ?_) (fun h => ?_)
    · refine Ev.round ?_ (fun k => by simp only [Qgbase.dispatcherref11_May.j2]; rfl)
      exact Ev.pos trivial (Ev.const (by rw [hno (by omega)]))
    · refine Ev.round ?_ (fun k => by simp only [Qgbase.dispatcherref11_May.j2]; rfl)
      refine Ev.ite (fun h2 => ?_) (fun h2 => ?_)
      · rw [decide_eq_true_eq] at h2
        exact Ev.const (by rw [hno (by omega)])
      · rw [decide_eq_true_eq] at h2
        exact rmay_in s l i hlt hl _ (fun hm => hno (fun hh => hh.2.2 hm)) (fun hm => ih (i + 1) (by omega) (by omega) (by rw [take_snoc hlt, pre_snoc]; exact ⟨hp, by omega, by omega, hm⟩)) i 0 (by omega) (by omega) (fun m hm => by omega)
theorem rmay_ev (s : ByteArray) (l : List Int) : Ev (fun k => Qgbase.dispatcherref11_May.f k s l) (mayB l) := by
  unfold Qgbase.dispatcherref11_May.f
  refine Ev.ite (fun h => ?_) (fun h => ?_)
  · refine Ev.round ?_ (fun k => by simp only [Qgbase.dispatcherref11_May.j0]; rfl)
    exact Ev.pos trivial (Ev.const (by unfold mayB; rw [decide_eq_false (fun hm => by have := hm.1; omega)]))
  · refine Ev.round ?_ (fun k => by simp only [Qgbase.dispatcherref11_May.j0]; rfl)
    refine Ev.ite (fun h2 => ?_) (fun h2 => ?_)
    · rw [decide_eq_true_eq] at h2
      exact Ev.const (by unfold mayB; rw [decide_eq_false (fun hm => by have := pre_len (l := l) ⟨hm.2.1, hm.2.2⟩; omega)])
    · rw [decide_eq_true_eq] at h2
      have := rmay_out s l (by omega) l.length 0 (by omega) (by omega) ⟨by simp, by simp⟩
      refine Ev.eq (by simpa using this) ?_
      unfold mayB
      refine decide_eq_decide.2 ⟨fun hp => ⟨by omega, hp.1, hp.2⟩, fun hm => ⟨hm.2.1, hm.2.2⟩⟩
theorem rmay_c (s : ByteArray) (A : Option Addr) (c : Nat) (l : List Int) (w : World) (hr : Kd.C (Kd.int .i64) w A l.length l) (hc : l.length ≤ c) :
    Calls Try.prog 21 #[.agg #[.string s, .slice A l.length c]] w fun e w' => e = .returned (.bool (mayB l)) ∧ Below w.heap.size w w' := by
  obtain ⟨K, h⟩ := rmay_ev s l
  exact Qgbase.dispatcherref11_May.calls K s A c l (mayB l) w hr hc (h K (Nat.le_refl _))
theorem rcopy_c (s : ByteArray) (A : Option Addr) (c : Nat) (l : List Int) (w : World) (hr : Kd.C (Kd.int .i64) w A l.length l) (hc : l.length ≤ c) (hl : l.length ≤ 3518437208882) :
    Calls Try.prog 22 #[.agg #[.string s, .slice A l.length c]] w fun e w' => ∃ v0_ : Value, e = .returned (.agg #[.string s, v0_]) ∧ Kd.R (Kd.int .i64) 3 w' w.heap.size (fun _ => True) v0_ l ∧ Below w.heap.size w w' :=
  Qgbase.dispatcherref11_Copy.calls s A c l s l w hr hc (by unfold Qgbase.dispatcherref11_Copy.f; simp; omega)
theorem ints_loop (a : List Int) (hl : a.length ≤ maxLen) : ∀ n i, n = a.length - i → i ≤ a.length → Ev (fun k => Qgbase.dispatcherref11_Ints.l0 k a a (i : Int)) true := by
  have hM : maxLen = 9223372036854775807 := rfl
  intro n
  induction n with
  | zero =>
    intro i hn hi
    refine Ev.round ?_ (fun k => by simp only [Qgbase.dispatcherref11_Ints.l0]; rfl)
    exact Ev.neg (by omega) (Ev.const rfl)
  | succ n ih =>
    intro i hn hi
    refine Ev.round ?_ (fun k => by simp only [Qgbase.dispatcherref11_Ints.l0]; rfl)
    refine Ev.pos (by omega) ?_
    refine Ev.pos (by omega) ?_
    refine Ev.pos (by omega) ?_
    refine Ev.pos trivial ?_
    rw [wrap64_nat i (by omega)]
    exact ih (i + 1) (by omega) (by omega)
theorem same_c (s : ByteArray) (A : Option Addr) (c : Nat) (A2 : Option Addr) (c2 : Nat) (a : List Int) (w : World) (hr : Kd.C (Kd.int .i64) w A a.length a) (hc : a.length ≤ c) (hr2 : Kd.C (Kd.int .i64) w A2 a.length a) (hc2 : a.length ≤ c2) :
    Calls Try.prog 15 #[.agg #[.string s, .slice A a.length c], .agg #[.string s, .slice A2 a.length c2]] w fun e w' => e = .returned (.bool true) ∧ Below w.heap.size w w' := by
  have hi : Ev (fun k => Qgbase.dispatcherref11_Ints.f k a a) true := by
    unfold Qgbase.dispatcherref11_Ints.f
    refine Ev.pos rfl ?_
    simpa using ints_loop a (Kd.C_max hr) a.length 0 (by omega) (by omega)
  have hs : Ev (fun k => Qgbase.dispatcherref11_Same.f k s a s a) true := by
    unfold Qgbase.dispatcherref11_Same.f
    exact Ev.pos rfl (Ev.bind hi (Ev.const rfl))
  obtain ⟨K, h⟩ := hs
  exact Qgbase.dispatcherref11_Same.calls K s A c a s A2 c2 a true w hr hc hr2 hc2 (h K (Nat.le_refl _))
end Go.Proofs.Ytkifmhfgplhabaa.HQ
