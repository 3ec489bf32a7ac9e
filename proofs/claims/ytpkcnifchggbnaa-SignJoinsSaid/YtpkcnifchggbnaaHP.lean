/-
  PLAIN HELPERS: what rounds come to ('Ev': from some number of rounds on), and some plain facts of lists. No program is in sight.
-/
import Derived.Test.YtpkcnifchggbnaaWWords
import Derived.Test.YtpkcnifchggbnaaWMore
namespace Go.Proofs.Ytpkcnifchggbnaa.HP
open Go.RowKit Go.Proofs.YtpkcnifchggbnaaW.PrintWords Go.Proofs.YtpkcnifchggbnaaW.PrintLast Go.Proofs.YtpkcnifchggbnaaW.PrintMore
set_option linter.unusedVariables false

theorem Ev.pos {α : Type} {c : Prop} [Decidable c] {g f : Nat → Option α} {r : α} (hc : c) (h : Ev g r) : Ev (fun k => if c then g k else f k) r := by
  obtain ⟨K, h⟩ := h
  exact ⟨K, fun k hk => by simp only [if_pos hc]; exact h k hk⟩
theorem Ev.neg {α : Type} {c : Prop} [Decidable c] {g f : Nat → Option α} {r : α} (hc : ¬ c) (h : Ev f r) : Ev (fun k => if c then g k else f k) r := by
  obtain ⟨K, h⟩ := h
  exact ⟨K, fun k hk => by simp only [if_neg hc]; exact h k hk⟩
theorem Ev.ite {α : Type} {c : Prop} [Decidable c] {g f : Nat → Option α} {r : α} (h : c → Ev g r) (h' : ¬ c → Ev f r) : Ev (fun k => if c then g k else f k) r := by
  by_cases hc : c
  · exact Ev.pos hc (h hc)
  · exact Ev.neg hc (h' hc)
theorem Ev.some_bind {α β : Type} {f : Nat → α → Option β} {a : α} {r : β} (h : Ev (fun k => f k a) r) : Ev (fun k => (some a).bind (f k)) r := h
theorem Ev.bind_of {α β : Type} {g : Nat → Option α} {f : Nat → α → Option β} {a : α} {r : β} (h : Ev g a) (k : Ev (fun n => f n a) r) : Ev (fun n => (g n).bind (f n)) r := Ev.bind h k
/-- a function without rounds -/
theorem Ev.plain_bind {α β : Type} {g : Option α} {f : Nat → α → Option β} {a : α} {r : β} (h : g = some a) (k : Ev (fun n => f n a) r) : Ev (fun n => g.bind (f n)) r := by subst h; exact k
theorem Ev.const {α : Type} {g : Option α} {r : α} (h : g = some r) : Ev (fun _ => g) r := ⟨0, fun _ _ => h⟩
/-- one round more -/
theorem Ev.round {α : Type} {g f : Nat → Option α} {r : α} (k : Ev f r) (h : ∀ k, g (k + 1) = f k) : Ev g r := Ev.step h k
theorem Ev.same {α : Type} {g f : Nat → Option α} {r : α} (k : Ev f r) (h : ∀ k, g k = f k) : Ev g r := Ev.congr h k
theorem Ev.eq {α : Type} {g : Nat → Option α} {r r' : α} (k : Ev g r) (h : r = r') : Ev g r' := h ▸ k
/-- an answer that is a test -/
theorem ite_of_bool {α : Type} {b : Bool} {x y : α} : (if b = true then x else y) = bif b then x else y := by cases b <;> rfl

theorem rd_lt {xs : List Int} {i : Nat} (h : i < xs.length) : rd xs (i : Int) = xs[i] := by simp [rd, h]
theorem wrap64_of {x : Int} (h : -9223372036854775808 ≤ x) (h' : x ≤ 9223372036854775807) : wrap64 x = x := by unfold wrap64; omega
theorem wrap64_nat (i : Nat) (h : i < 9223372036854775807) : wrap64 ((i : Int) + 1) = ((i + 1 : Nat) : Int) := by unfold wrap64; omega
theorem drop_cons {α : Type} {l : List α} {i : Nat} (h : i < l.length) : l.drop i = l[i] :: l.drop (i + 1) := List.drop_eq_getElem_cons h
theorem dec_cons_eq {x : Int} {s t : List Int} : decide (s = t) = decide (x :: s = x :: t) := by simp
theorem dec_cons_ne {x y : Int} {s t : List Int} (h : ¬ x = y) : false = decide (x :: s = y :: t) := by simp [h]
theorem all_cons_no {α : Type} {p : α → Bool} {x : α} {t : List α} (h : p x = false) : false = (x :: t).all p := by simp [h]
theorem all_cons_yes {α : Type} {p : α → Bool} {x : α} {t : List α} (h : p x = true) : t.all p = (x :: t).all p := by simp [h]
theorem any_cons_yes {α : Type} {p : α → Bool} {x : α} {t : List α} (h : p x = true) : true = (x :: t).any p := by simp [h]
theorem any_cons_no {α : Type} {p : α → Bool} {x : α} {t : List α} (h : p x = false) : t.any p = (x :: t).any p := by simp [h]
end Go.Proofs.Ytpkcnifchggbnaa.HP
