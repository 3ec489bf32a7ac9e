/-
  SIGN, 30: what Parse reads, plainly: a text's words, a word's numbers; a row is read from its own text. No program is walked here.
-/
import Derived.Test.YtpkcnifchggbnaaDoorSpE
namespace Go.Proofs.YtpkcnifchggbnaaDoor.HI
open Go.RowKit Go.Proofs.YtpkcnifchggbnaaDoor.HD Go.Proofs.YtpkcnifchggbnaaDoor.HK Go.Proofs.YtpkcnifchggbnaaDoor.HU Go.Proofs.YtpkcnifchggbnaaDoorW.PrintWords Go.Proofs.YtpkcnifchggbnaaDoorW.PrintLast Go.Proofs.YtpkcnifchggbnaaDoorW.PrintMore
set_option linter.unusedVariables false
set_option linter.unusedSimpArgs false
/-! ### words -/
def splitL (c : UInt8) : List UInt8 → List (List UInt8)
  | [] => [[]]
  | b :: t => if b = c then [] :: splitL c t else (b :: (splitL c t).headD []) :: (splitL c t).tail
theorem splitL_cons {c b : UInt8} {t : List UInt8} {h : List UInt8} {r : List (List UInt8)} (hb : b ≠ c) (e : splitL c t = h :: r) : splitL c (b :: t) = (b :: h) :: r := by
  simp [splitL, hb, e]
theorem splitL_ne (c : UInt8) (l : List UInt8) : splitL c l ≠ [] := by
  cases l with
  | nil => simp [splitL]
  | cons b t => simp only [splitL]; split <;> simp
theorem splitL_no {c : UInt8} : ∀ {l : List UInt8}, c ∉ l → splitL c l = [l]
  | [], _ => rfl
  | b :: t, h => by
    have h1 : b ≠ c := fun e => h (by simp [e])
    have h2 : c ∉ t := fun e => h (by simp [e])
    exact splitL_cons h1 (splitL_no h2)
theorem splitL_at {c : UInt8} (t : List UInt8) : ∀ {a : List UInt8}, c ∉ a → splitL c (a ++ c :: t) = a :: splitL c t
  | [], _ => by simp [splitL]
  | b :: a, h => by
    have h1 : b ≠ c := fun e => h (by simp [e])
    have h2 : c ∉ a := fun e => h (by simp [e])
    exact splitL_cons h1 (splitL_at t h2)
theorem split_tail {c : UInt8} : ∀ (ws : List (List UInt8)) (w : List UInt8), c ∉ w → (∀ x ∈ ws, c ∉ x) → splitL c (w ++ Lib.joinTail [c] ws) = w :: ws
  | [], w, hw, _ => by simp [Lib.joinTail, splitL_no hw]
  | x :: t, w, hw, h => by
    have h1 := split_tail t x (h x (by simp)) (fun y hy => h y (by simp [hy]))
    rw [show w ++ Lib.joinTail [c] (x :: t) = w ++ c :: (x ++ Lib.joinTail [c] t) by simp [Lib.joinTail], splitL_at _ hw, h1]
theorem split_join {c : UInt8} {ws : List (List UInt8)} (hn : ws ≠ []) (h : ∀ x ∈ ws, c ∉ x) : splitL c (Lib.join ws [c]) = ws := by
  cases ws with
  | nil => exact absurd rfl hn
  | cons w t =>
    rw [Lib.join_cons]
    exact split_tail t w (h w (by simp)) (fun y hy => h y (by simp [hy]))
theorem split_none {c : UInt8} {l : List UInt8} (h : Lib.indexByte l c = -1) : splitL c l = [l] :=
  splitL_no fun hm => by
    obtain ⟨i, hi⟩ := List.mem_iff_getElem?.1 hm
    exact Lib.indexByte_none h i hi
theorem split_some {c : UInt8} {l : List UInt8} {o : Nat} (h : Lib.indexByte l c = o) : o < l.length ∧ splitL c l = l.take o :: splitL c (l.drop (o + 1)) := by
  obtain ⟨h1, h2⟩ := Lib.indexByte_some h
  obtain ⟨ho, he⟩ := List.getElem?_eq_some_iff.1 h1
  refine ⟨ho, ?_⟩
  have hl : l = l.take o ++ c :: l.drop (o + 1) := by
    rw [← he, ← List.drop_eq_getElem_cons ho, List.take_append_drop]
  have hn : c ∉ l.take o := fun hm => by
    obtain ⟨i, hi⟩ := List.mem_iff_getElem?.1 hm
    rw [List.getElem?_take] at hi
    split at hi
    · rename_i hlt
      exact h2 i hlt hi
    · cases hi
  conv => lhs; rw [hl]
  exact splitL_at _ hn
/-! ### numbers -/
def stp (st : List Int × Int) (c : UInt8) : List Int × Int := nst c.toNat st
theorem nfold_ascii (s : ByteArray) (ha : ∀ c ∈ s.data.toList, c.toNat < 128) : ∀ b pos st, s.size ≤ pos + b → nfold s b pos st = (s.data.toList.drop pos).foldl stp st := by
  intro b
  induction b with
  | zero =>
    intro pos st h
    rw [List.drop_eq_nil_of_le (by simpa using h)]
    rfl
  | succ b ih =>
    intro pos st h
    by_cases hp : pos < s.size
    · have hg : s.data.toList[pos]'(by simpa using hp) = s[pos]'hp := rfl
      have hc := ha (s[pos]'hp) (by rw [← hg]; exact List.getElem_mem _)
      rw [nfold, if_pos hp, decode_ascii s pos hp hc, ih _ _ (by omega), List.drop_eq_getElem_cons (show pos < s.data.toList.length by simpa using hp)]
      rfl
    · rw [nfold, if_neg hp, List.drop_eq_nil_of_le (by simp only [Array.length_toList, ByteArray.size_data]; omega)]
      rfl
theorem dig_rng : ∀ (u : Nat), ∀ c ∈ Lib.decDigits u, 48 ≤ c.toNat ∧ c.toNat ≤ 57 := by
  intro u
  induction u using Nat.strongRecOn with
  | _ u ih =>
    intro c hc
    rw [Lib.decDigits] at hc
    split at hc
    · rw [List.mem_singleton.1 hc, UInt8.toNat_ofNat']; omega
    · rcases List.mem_append.1 hc with hc | hc
      · exact ih (u / 10) (by omega) c hc
      · rw [List.mem_singleton.1 hc, UInt8.toNat_ofNat']; omega
theorem nst_digit (pre : List Int) (x sg : Int) (c : Nat) (h1 : 48 ≤ c) (h2 : c ≤ 57) (h3 : x < 1099511627776) (h4 : -1099511627776 < x) : nst c (pre ++ [x], sg) = (pre ++ [10 * x + sg * ((c : Int) - 48)], sg) := by
  have hg : (pre ++ [x]).getD ((pre ++ [x]).length - 1) 0 = x := by simp
  unfold nst
  rw [if_neg (by omega), if_neg (by omega)]
  simp only [hg]
  rw [if_pos ⟨h1, h2, h3, h4⟩]
  simp
theorem fold_digits (pre : List Int) (sg : Int) (hsg : sg = 1 ∨ sg = -1) : ∀ m : Nat, m ≤ 1099511627776 → (Lib.decDigits m).foldl stp (pre ++ [0], sg) = (pre ++ [sg * m], sg) := by
  intro m
  induction m using Nat.strongRecOn with
  | _ m ih =>
    intro hm
    rw [Lib.decDigits]
    split
    · rename_i h
      show nst _ (pre ++ [0], sg) = _
      have ht : (UInt8.ofNat (48 + m)).toNat = 48 + m := by rw [UInt8.toNat_ofNat']; omega
      rw [ht, nst_digit pre 0 sg (48 + m) (by omega) (by omega) (by omega) (by omega)]
      rw [show ((48 + m : Nat) : Int) - 48 = m by omega]
      simp
    · rename_i h
      rw [List.foldl_append, ih (m / 10) (by omega) (by omega)]
      show nst _ (pre ++ [sg * ((m / 10 : Nat) : Int)], sg) = _
      have ht : (UInt8.ofNat (48 + m % 10)).toNat = 48 + m % 10 := by rw [UInt8.toNat_ofNat']; omega
      rw [ht]
      rcases hsg with rfl | rfl
      · rw [nst_digit pre _ 1 (48 + m % 10) (by omega) (by omega) (by omega) (by omega)]
        rw [show 10 * (1 * ((m / 10 : Nat) : Int)) + 1 * (((48 + m % 10 : Nat) : Int) - 48) = 1 * (m : Int) by omega]
      · rw [nst_digit pre _ (-1) (48 + m % 10) (by omega) (by omega) (by omega) (by omega)]
        rw [show 10 * (-1 * ((m / 10 : Nat) : Int)) + -1 * (((48 + m % 10 : Nat) : Int) - 48) = -1 * (m : Int) by omega]
def Num (n : Int) : Prop := -1099511627776 ≤ n ∧ n ≤ 1099511627776
theorem fold_itoa (pre : List Int) (n : Int) (hn : Num n) : ∃ s', (Lib.itoa n).foldl stp (pre ++ [0], 1) = (pre ++ [n], s') := by
  obtain ⟨h1, h2⟩ := hn
  unfold Lib.itoa
  split
  · refine ⟨-1, ?_⟩
    rw [List.foldl_cons]
    have : stp (pre ++ [0], 1) 45 = (pre ++ [0], -1) := by simp [stp, nst]
    rw [this, fold_digits pre (-1) (.inr rfl) _ (by omega)]
    rw [show -1 * ((n.natAbs : Nat) : Int) = n by omega]
  · refine ⟨1, ?_⟩
    rw [fold_digits pre 1 (.inl rfl) _ (by omega)]
    rw [show 1 * ((n.toNat : Nat) : Int) = n by omega]
theorem fold_row : ∀ (ns : List Int) (pre : List Int) (x : Int), Num x → (∀ n ∈ ns, Num n) → ∃ s', (Lib.itoa x ++ Lib.joinTail [46] (ns.map Lib.itoa)).foldl stp (pre ++ [0], 1) = (pre ++ x :: ns, s')
  | [], pre, x, hx, _ => by
    obtain ⟨s', h⟩ := fold_itoa pre x hx
    exact ⟨s', by simpa [Lib.joinTail] using h⟩
  | y :: t, pre, x, hx, hn => by
    obtain ⟨s', h⟩ := fold_itoa pre x hx
    obtain ⟨s2, h2⟩ := fold_row t (pre ++ [x]) y (hn y (by simp)) (fun n hm => hn n (by simp [hm]))
    refine ⟨s2, ?_⟩
    rw [List.foldl_append, h, show Lib.joinTail [46] ((y :: t).map Lib.itoa) = 46 :: (Lib.itoa y ++ Lib.joinTail [46] (t.map Lib.itoa)) by simp [Lib.joinTail], List.foldl_cons]
    have : stp (pre ++ [x], s') 46 = (pre ++ [x] ++ [0], 1) := by simp [stp, nst]
    rw [this, h2]
    simp
theorem one_num {x : Cho} (h : oneB x = true) {n : Int} (hn : n ∈ row5 x) : Num n := by
  have h := of_decide_eq_true h
  unfold Num
  simp only [row5, List.mem_cons, List.not_mem_nil, or_false] at hn
  rcases hn with rfl | rfl | rfl | rfl | rfl <;> omega
/-- a number's bytes: digits, or a '-' ahead of them -/
theorem itoa_byte (n : Int) : ∀ c ∈ Lib.itoa n, c.toNat = 45 ∨ 48 ≤ c.toNat ∧ c.toNat ≤ 57 := by
  intro c hc
  unfold Lib.itoa at hc
  split at hc
  · rcases List.mem_cons.1 hc with rfl | hc
    · exact .inl rfl
    · exact .inr (dig_rng _ c hc)
  · exact .inr (dig_rng _ c hc)
theorem join_byte {sep : UInt8} {ws : List (List UInt8)} {c : UInt8} (h : c ∈ Lib.join ws [sep]) : c = sep ∨ ∃ w ∈ ws, c ∈ w := by
  cases ws with
  | nil => simp [Lib.join_nil] at h
  | cons w t =>
    rw [Lib.join_cons] at h
    rcases List.mem_append.1 h with h | h
    · exact .inr ⟨w, by simp, h⟩
    · simp only [Lib.joinTail, List.mem_flatten, List.mem_map] at h
      obtain ⟨y, ⟨x, hx, rfl⟩, hc⟩ := h
      rcases List.mem_append.1 hc with hc | hc
      · exact .inl (List.mem_singleton.1 hc)
      · exact .inr ⟨x, by simp [hx], hc⟩
theorem chB_byte (x : Cho) : ∀ c ∈ chB x, c.toNat = 45 ∨ c.toNat = 46 ∨ 48 ≤ c.toNat ∧ c.toNat ≤ 57 := by
  intro c hc
  rcases join_byte hc with rfl | ⟨w, hw, hc⟩
  · exact .inr (.inl rfl)
  · obtain ⟨n, hn, rfl⟩ := List.mem_map.1 hw
    rcases itoa_byte n c hc with h | h
    · exact .inl h
    · exact .inr (.inr h)
theorem chB_dot (x : Cho) : (46 : UInt8) ∈ chB x := by
  unfold chB row5
  simp [Lib.join_cons, Lib.joinTail]
theorem chB_sp (x : Cho) : (32 : UInt8) ∉ chB x := fun h => by
  have := chB_byte x 32 h
  simp at this
theorem bs_list (l : List UInt8) : (bs l).data.toList = l := rfl
theorem num_ch {x : Cho} (h : oneB x = true) : numL (bs (chB x)) = row5 x := by
  unfold numL
  rw [nfold_ascii (bs (chB x)) (fun c hc => by have := chB_byte x c hc; omega) _ _ _ (by omega), bs_list, List.drop_zero]
  obtain ⟨s', hs⟩ := fold_row [x.f1, x.f4, x.f2, x.f3] [] x.f0 (one_num h (by simp [row5])) (fun n hn => one_num h (by simp only [row5]; exact List.mem_cons_of_mem _ hn))
  have : chB x = Lib.itoa x.f0 ++ Lib.joinTail [46] ([x.f1, x.f4, x.f2, x.f3].map Lib.itoa) := by
    unfold chB row5
    rw [List.map_cons, Lib.join_cons]
  rw [this]
  rw [List.nil_append] at hs
  rw [hs]
  rfl
/-! ### Parse -/
def choN (n : List Int) : Cho := ⟨n.getD 0 0, n.getD 1 0, n.getD 3 0, n.getD 4 0, n.getD 2 0⟩
def readW : List (List UInt8) → Option (List Cho)
  | [] => some []
  | x :: t => if (numL (bs x)).length = 5 then (readW t).map (choN (numL (bs x)) :: ·) else none
def rawO (s : List UInt8) : Option (List Cho) := if s = [45] then some [] else readW (splitL 32 s)
def parseO (s : List UInt8) : Option (List Cho) := (rawO s).bind fun l => if mayL l = true ∧ textB l = s then some l else none
def parseE (s : List UInt8) : Int := if (parseO s).isSome then 0 else 240
theorem parse_some {s : List UInt8} {l : List Cho} (h : parseO s = some l) : mayL l = true ∧ textB l = s := by
  unfold parseO at h
  cases hr : rawO s with
  | none => rw [hr] at h; cases h
  | some m =>
    rw [hr, Option.bind_some] at h
    split at h
    · rename_i hm
      obtain rfl := Option.some.inj h
      exact hm
    · cases h
theorem readW_row : ∀ {l : List Cho}, (∀ x ∈ l, oneB x = true) → readW (l.map chB) = some l
  | [], _ => rfl
  | x :: t, h => by
    have h1 := num_ch (h x (by simp))
    rw [List.map_cons, readW, h1, if_pos (show (row5 x).length = 5 from rfl), readW_row (fun y hy => h y (by simp [hy]))]
    rfl
theorem text_ne {l : List Cho} (hl : l ≠ []) : textB l ≠ [45] := fun h => by
  cases l with
  | nil => exact hl rfl
  | cons x t =>
    have hm : (46 : UInt8) ∈ textB (x :: t) := by
      unfold textB
      rw [if_neg (by simp), List.map_cons, Lib.join_cons]
      exact List.mem_append_left _ (chB_dot x)
    rw [h] at hm
    simp at hm
theorem raw_text {l : List Cho} (hm : mayL l = true) : rawO (textB l) = some l := by
  unfold rawO
  by_cases hl : l = []
  · subst hl
    rfl
  · rw [if_neg (text_ne hl)]
    unfold textB
    rw [if_neg hl, split_join (by simpa using hl) (fun w hw => by
      obtain ⟨x, _, rfl⟩ := List.mem_map.1 hw
      exact chB_sp x)]
    exact readW_row (mayL_iff.1 hm).1
theorem parse_text {l : List Cho} (hm : mayL l = true) : parseO (textB l) = some l := by
  unfold parseO
  rw [raw_text hm, Option.bind_some, if_pos ⟨hm, rfl⟩]
end Go.Proofs.YtpkcnifchggbnaaDoor.HI
