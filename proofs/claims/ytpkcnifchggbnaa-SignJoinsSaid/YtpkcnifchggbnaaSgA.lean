/-
  CONTRACTS BY HAND (sign, 1): slices.IndexFunc and ContainsFunc at the functions of package sign: what is answered, whatever the function answers; nothing that was there is changed.
-/
import Derived.Test.YtpkcnifchggbnaaHW
import Derived.Test.YtpkcnifchggbnaaHK
namespace Go.Proofs.Ytpkcnifchggbnaa.HD
open Go.RowKit Go.Proofs.Ytpkcnifchggbnaa.HK Go.Proofs.YtpkcnifchggbnaaW.PrintWords Go.Proofs.YtpkcnifchggbnaaW.PrintLast Go.Proofs.YtpkcnifchggbnaaW.PrintMore
set_option linter.unusedVariables false
set_option linter.unusedSimpArgs false

theorem ret_int {k : IntKind} {a b : Int} (h : a = b) : Ending.returned (.int k a) = .returned (.int k b) := by rw [h]
theorem ret_bool {a b : Bool} (h : a = b) : Ending.returned (.bool a) = .returned (.bool b) := by rw [h]
/-- the place of the first one that is such, from a number on -/
def idxF {α : Type} (p : α → Bool) : List α → Int → Int
  | [], _ => -1
  | a :: t, i => if p a then i else idxF p t (i + 1)
theorem rd_ch {l : List S24} {i : Nat} (h : i < l.length) : rd_T24 l (i : Int) = l[i] := by simp [rd_T24, h]
theorem idxF_at {p : S24 → Bool} (l : List S24) (i : Nat) (h : i < l.length) : idxF p (l.drop i) i = if p (rd_T24 l i) then (i : Int) else idxF p (l.drop (i + 1)) ((i + 1 : Nat) : Int) := by
  rw [List.drop_eq_getElem_cons h]
  simp only [idxF]
  rw [rd_ch h]
  rfl
theorem idxF_end {α : Type} {p : α → Bool} (l : List α) (i : Nat) (h : l.length ≤ i) : idxF p (l.drop i) i = -1 := by rw [List.drop_eq_nil_of_le h]; rfl
theorem idxF_any {α : Type} (p : α → Bool) (l : List α) : ∀ i : Int, 0 ≤ i → decide (0 ≤ idxF p l i) = l.any p := by
  induction l with
  | nil => intro i _; simp [idxF]
  | cons a t ih =>
    intro i hi
    simp only [idxF, List.any_cons]
    by_cases h : p a = true
    · simp [h, hi]
    · have h : p a = false := by simpa using h
      simp [h, ← ih (i + 1) (by omega)]
theorem idxF_le {α : Type} (p : α → Bool) (l : List α) : ∀ i : Int, 0 ≤ i → idxF p l i < i + l.length ∧ -1 ≤ idxF p l i ∧ (0 ≤ idxF p l i → i ≤ idxF p l i) := by
  induction l with
  | nil => intro i hi; simp [idxF]; omega
  | cons a t ih =>
    intro i hi
    simp only [idxF, List.length_cons]
    split
    · omega
    · have := ih (i + 1) (by omega); omega

set_option maxHeartbeats 1000000 in
theorem index_At (b0 b1 : Nat) (p : S24 → Bool) (w0 : World) (hp : ∀ (x : S24) (W : World), Below w0.heap.size w0 W → Calls Try.prog 20 #[.agg #[.int .i64 x.f0, .int .i64 x.f1, .int .i64 x.f2, .int .i64 x.f3, .int .i64 x.f4], .pointer (some ⟨b0, 0, none⟩), .pointer (some ⟨b1, 0, none⟩)] W fun e w' => e = .returned (.bool (p x)) ∧ Below W.heap.size W w')
    (A : Option Addr) (c : Nat) (l : List S24) (w : World) (hw : Below w0.heap.size w0 w) (hr : Kd.C k24 w A l.length l) (hc : l.length ≤ c) :
    Calls Try.prog 21 #[.slice A l.length c, .func (.func 20) #[] #[.pointer (some ⟨b0, 0, none⟩), .pointer (some ⟨b1, 0, none⟩)]] w fun e w' => e = .returned (.int .i64 (idxF p l 0)) ∧ Below w.heap.size w w' := by
  have HR := Aside0.mk hr
  have HP := Aside0.mk hp
  have HW := Aside0.mk hw
  have hm := Kd.C_max hr
  clear hr hp hw
  go_enter Try.func21, Try.ntmps21
  go_wp2
  go_loopw [8] (fun v8 wr => ∃ i : Nat, i ≤ l.length ∧ v8 = .int .i64 i ∧ Aside0 (idxF p l 0 = idxF p (l.drop i) i) ∧ Aside0 (Below w.heap.size w wr)) (fun v8 _ => l.length - (intOf v8).toNat)
  case atStart => exact ⟨0, Nat.zero_le _, rfl, ⟨rfl⟩, ⟨Below.refl _ _⟩⟩
  case round =>
    obtain ⟨i, hi, rfl, hall, HB⟩ := hrel
    by_cases hlt : i < l.length
    · obtain ⟨ad, rfl, h0, h1, h2, h3, h4⟩ := at_T24 (Kd.C_below HR.out HB.out) i (by omega) (by omega)
      rw [Int.toNat_natCast] at h0 h1 h2 h3 h4
      have hs := Aside0.mk (idxF_at (p := p) l i hlt)
      go_wp2_with fail
      refine (HP.out (rd_T24 l i) wr (below_then HW.out HW.out.size HB.out)).mono ?_
      rintro e w1 ⟨rfl, hb⟩
      have HB1 := Aside0.mk (below_then HB.out HB.out.size hb)
      clear hb h0 h1 h2 h3 h4
      by_cases ho : p (rd_T24 l i) = true
      · go_wp2
        go_ret
        exact ⟨ret_int (by rw [hall.out, hs.out, if_pos ho]), HB1.out⟩
      · have ho : p (rd_T24 l i) = false := by simpa using ho
        go_wp2
        go_roundw
        case rel => exact ⟨i + 1, by omega, by go_num, ⟨by rw [hall.out, hs.out, if_neg (by rw [ho]; simp)]⟩, HB1⟩
        case measure => simp [intOf]; omega
    · have hs := Aside0.mk (idxF_end (p := p) l i (by omega))
      go_wp2
      go_ret
      exact ⟨ret_int (by rw [hall.out, hs.out]), HB.out⟩
theorem contains_At (b0 b1 : Nat) (p : S24 → Bool) (w0 : World) (hp : ∀ (x : S24) (W : World), Below w0.heap.size w0 W → Calls Try.prog 20 #[.agg #[.int .i64 x.f0, .int .i64 x.f1, .int .i64 x.f2, .int .i64 x.f3, .int .i64 x.f4], .pointer (some ⟨b0, 0, none⟩), .pointer (some ⟨b1, 0, none⟩)] W fun e w' => e = .returned (.bool (p x)) ∧ Below W.heap.size W w')
    (A : Option Addr) (c : Nat) (l : List S24) (w : World) (hw : Below w0.heap.size w0 w) (hr : Kd.C k24 w A l.length l) (hc : l.length ≤ c) :
    Calls Try.prog 28 #[.slice A l.length c, .func (.func 20) #[] #[.pointer (some ⟨b0, 0, none⟩), .pointer (some ⟨b1, 0, none⟩)]] w fun e w' => e = .returned (.bool (l.any p)) ∧ Below w.heap.size w w' := by
  go_enter Try.func28, Try.ntmps28
  go_wp2_with fail
  refine (index_At b0 b1 p w0 hp A c l w hw hr hc).mono ?_
  rintro e w1 ⟨rfl, hb⟩
  have HB := Aside0.mk hb
  clear hb
  go_wp2
  go_ret
  exact ⟨ret_bool (idxF_any p l 0 (by omega)), HB.out⟩

set_option maxHeartbeats 1000000 in
theorem index_Agree (b0 : Nat) (p : S24 → Bool) (w0 : World) (hp : ∀ (x : S24) (W : World), Below w0.heap.size w0 W → Calls Try.prog 26 #[.agg #[.int .i64 x.f0, .int .i64 x.f1, .int .i64 x.f2, .int .i64 x.f3, .int .i64 x.f4], .pointer (some ⟨b0, 0, none⟩)] W fun e w' => e = .returned (.bool (p x)) ∧ Below W.heap.size W w')
    (A : Option Addr) (c : Nat) (l : List S24) (w : World) (hw : Below w0.heap.size w0 w) (hr : Kd.C k24 w A l.length l) (hc : l.length ≤ c) :
    Calls Try.prog 21 #[.slice A l.length c, .func (.func 26) #[] #[.pointer (some ⟨b0, 0, none⟩)]] w fun e w' => e = .returned (.int .i64 (idxF p l 0)) ∧ Below w.heap.size w w' := by
  have HR := Aside0.mk hr
  have HP := Aside0.mk hp
  have HW := Aside0.mk hw
  have hm := Kd.C_max hr
  clear hr hp hw
  go_enter Try.func21, Try.ntmps21
  go_wp2
  go_loopw [8] (fun v8 wr => ∃ i : Nat, i ≤ l.length ∧ v8 = .int .i64 i ∧ Aside0 (idxF p l 0 = idxF p (l.drop i) i) ∧ Aside0 (Below w.heap.size w wr)) (fun v8 _ => l.length - (intOf v8).toNat)
  case atStart => exact ⟨0, Nat.zero_le _, rfl, ⟨rfl⟩, ⟨Below.refl _ _⟩⟩
  case round =>
    obtain ⟨i, hi, rfl, hall, HB⟩ := hrel
    by_cases hlt : i < l.length
    · obtain ⟨ad, rfl, h0, h1, h2, h3, h4⟩ := at_T24 (Kd.C_below HR.out HB.out) i (by omega) (by omega)
      rw [Int.toNat_natCast] at h0 h1 h2 h3 h4
      have hs := Aside0.mk (idxF_at (p := p) l i hlt)
      go_wp2_with fail
      refine (HP.out (rd_T24 l i) wr (below_then HW.out HW.out.size HB.out)).mono ?_
      rintro e w1 ⟨rfl, hb⟩
      have HB1 := Aside0.mk (below_then HB.out HB.out.size hb)
      clear hb h0 h1 h2 h3 h4
      by_cases ho : p (rd_T24 l i) = true
      · go_wp2
        go_ret
        exact ⟨ret_int (by rw [hall.out, hs.out, if_pos ho]), HB1.out⟩
      · have ho : p (rd_T24 l i) = false := by simpa using ho
        go_wp2
        go_roundw
        case rel => exact ⟨i + 1, by omega, by go_num, ⟨by rw [hall.out, hs.out, if_neg (by rw [ho]; simp)]⟩, HB1⟩
        case measure => simp [intOf]; omega
    · have hs := Aside0.mk (idxF_end (p := p) l i (by omega))
      go_wp2
      go_ret
      exact ⟨ret_int (by rw [hall.out, hs.out]), HB.out⟩
theorem contains_Agree (b0 : Nat) (p : S24 → Bool) (w0 : World) (hp : ∀ (x : S24) (W : World), Below w0.heap.size w0 W → Calls Try.prog 26 #[.agg #[.int .i64 x.f0, .int .i64 x.f1, .int .i64 x.f2, .int .i64 x.f3, .int .i64 x.f4], .pointer (some ⟨b0, 0, none⟩)] W fun e w' => e = .returned (.bool (p x)) ∧ Below W.heap.size W w')
    (A : Option Addr) (c : Nat) (l : List S24) (w : World) (hw : Below w0.heap.size w0 w) (hr : Kd.C k24 w A l.length l) (hc : l.length ≤ c) :
    Calls Try.prog 28 #[.slice A l.length c, .func (.func 26) #[] #[.pointer (some ⟨b0, 0, none⟩)]] w fun e w' => e = .returned (.bool (l.any p)) ∧ Below w.heap.size w w' := by
  go_enter Try.func28, Try.ntmps28
  go_wp2_with fail
  refine (index_Agree b0 p w0 hp A c l w hw hr hc).mono ?_
  rintro e w1 ⟨rfl, hb⟩
  have HB := Aside0.mk hb
  clear hb
  go_wp2
  go_ret
  exact ⟨ret_bool (idxF_any p l 0 (by omega)), HB.out⟩

set_option maxHeartbeats 1000000 in
theorem index_Within (b0 : Nat) (p : S24 → Bool) (w0 : World) (hp : ∀ (x : S24) (W : World), Below w0.heap.size w0 W → Calls Try.prog 29 #[.agg #[.int .i64 x.f0, .int .i64 x.f1, .int .i64 x.f2, .int .i64 x.f3, .int .i64 x.f4], .pointer (some ⟨b0, 0, none⟩)] W fun e w' => e = .returned (.bool (p x)) ∧ Below W.heap.size W w')
    (A : Option Addr) (c : Nat) (l : List S24) (w : World) (hw : Below w0.heap.size w0 w) (hr : Kd.C k24 w A l.length l) (hc : l.length ≤ c) :
    Calls Try.prog 21 #[.slice A l.length c, .func (.func 29) #[] #[.pointer (some ⟨b0, 0, none⟩)]] w fun e w' => e = .returned (.int .i64 (idxF p l 0)) ∧ Below w.heap.size w w' := by
  have HR := Aside0.mk hr
  have HP := Aside0.mk hp
  have HW := Aside0.mk hw
  have hm := Kd.C_max hr
  clear hr hp hw
  go_enter Try.func21, Try.ntmps21
  go_wp2
  go_loopw [8] (fun v8 wr => ∃ i : Nat, i ≤ l.length ∧ v8 = .int .i64 i ∧ Aside0 (idxF p l 0 = idxF p (l.drop i) i) ∧ Aside0 (Below w.heap.size w wr)) (fun v8 _ => l.length - (intOf v8).toNat)
  case atStart => exact ⟨0, Nat.zero_le _, rfl, ⟨rfl⟩, ⟨Below.refl _ _⟩⟩
  case round =>
    obtain ⟨i, hi, rfl, hall, HB⟩ := hrel
    by_cases hlt : i < l.length
    · obtain ⟨ad, rfl, h0, h1, h2, h3, h4⟩ := at_T24 (Kd.C_below HR.out HB.out) i (by omega) (by omega)
      rw [Int.toNat_natCast] at h0 h1 h2 h3 h4
      have hs := Aside0.mk (idxF_at (p := p) l i hlt)
      go_wp2_with fail
      refine (HP.out (rd_T24 l i) wr (below_then HW.out HW.out.size HB.out)).mono ?_
      rintro e w1 ⟨rfl, hb⟩
      have HB1 := Aside0.mk (below_then HB.out HB.out.size hb)
      clear hb h0 h1 h2 h3 h4
      by_cases ho : p (rd_T24 l i) = true
      · go_wp2
        go_ret
        exact ⟨ret_int (by rw [hall.out, hs.out, if_pos ho]), HB1.out⟩
      · have ho : p (rd_T24 l i) = false := by simpa using ho
        go_wp2
        go_roundw
        case rel => exact ⟨i + 1, by omega, by go_num, ⟨by rw [hall.out, hs.out, if_neg (by rw [ho]; simp)]⟩, HB1⟩
        case measure => simp [intOf]; omega
    · have hs := Aside0.mk (idxF_end (p := p) l i (by omega))
      go_wp2
      go_ret
      exact ⟨ret_int (by rw [hall.out, hs.out]), HB.out⟩
theorem contains_Within (b0 : Nat) (p : S24 → Bool) (w0 : World) (hp : ∀ (x : S24) (W : World), Below w0.heap.size w0 W → Calls Try.prog 29 #[.agg #[.int .i64 x.f0, .int .i64 x.f1, .int .i64 x.f2, .int .i64 x.f3, .int .i64 x.f4], .pointer (some ⟨b0, 0, none⟩)] W fun e w' => e = .returned (.bool (p x)) ∧ Below W.heap.size W w')
    (A : Option Addr) (c : Nat) (l : List S24) (w : World) (hw : Below w0.heap.size w0 w) (hr : Kd.C k24 w A l.length l) (hc : l.length ≤ c) :
    Calls Try.prog 28 #[.slice A l.length c, .func (.func 29) #[] #[.pointer (some ⟨b0, 0, none⟩)]] w fun e w' => e = .returned (.bool (l.any p)) ∧ Below w.heap.size w w' := by
  go_enter Try.func28, Try.ntmps28
  go_wp2_with fail
  refine (index_Within b0 p w0 hp A c l w hw hr hc).mono ?_
  rintro e w1 ⟨rfl, hb⟩
  have HB := Aside0.mk hb
  clear hb
  go_wp2
  go_ret
  exact ⟨ret_bool (idxF_any p l 0 (by omega)), HB.out⟩
end Go.Proofs.Ytpkcnifchggbnaa.HD
