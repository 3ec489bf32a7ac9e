/-
  CONTRACTS BY HAND (texts, 1): numbers with a dot ahead of each; a step's text; steps' text.
-/
import Derived.Test.YtfmlpcdbllpcaaaDoorShelf
import Derived.Test.YtfmlpcdbllpcaaaDoorHU
import Derived.Test.YtfmlpcdbllpcaaaDoorHK
import Derived.Test.YtfmlpcdbllpcaaaDoorHP
import Derived.Lib.ItoaLen
import Derived.Lib.LaidTab
import Derived.WalkSmall
import Derived.Lib.AppendIntMem
namespace Go.Proofs.YtfmlpcdbllpcaaaDoor.HX
open Go.Proofs.YtfmlpcdbllpcaaaDoor.HU Go.RowKit Go.Proofs.YtfmlpcdbllpcaaaDoor.HK Go.Proofs.YtfmlpcdbllpcaaaDoor.HP Go.Proofs.YtfmlpcdbllpcaaaDoorW.PrintWords Go.Proofs.YtfmlpcdbllpcaaaDoorW.PrintLast Go.Proofs.YtfmlpcdbllpcaaaDoorW.PrintMore
set_option linter.unusedVariables false
set_option linter.unusedSimpArgs false
/-- the library's table reads as its initialiser lays it -/
def Tab (W : World) : Prop := Lib.TabIs Tryd.prog W "internal/strconv.uint64pow10" .u64 Lib.pow10Tab ∧ 1 < W.heap.size
theorem gTab : Tryd.prog.globalNamed "internal/strconv.uint64pow10" = some 1 := by kernel_rfl
theorem Tab.below {W W' : World} (h : Tab W) {B : Nat} (hB : 1 < B) (hb : Below B W W') : Tab W' :=
  ⟨var?_below hb gTab hB h.1, Nat.lt_of_lt_of_le h.2 hb.size⟩
theorem Tab.after {W W' : World} (h : Tab W) (hb : Below W.heap.size W W') : Tab W' := h.below h.2 hb
/-- an int's range -/
def Rng (n : Int) : Prop := -9223372036854775808 ≤ n ∧ n ≤ 9223372036854775807
theorem itoa_c (n : Int) (w : World) (hn : Rng n) (ht : Tab w) : Calls Tryd.prog 35 #[.int .i64 n] w fun e w' => e = .returned (.string ⟨(Lib.itoa n).toArray⟩) ∧ Below w.heap.size w w' :=
  (Tryd.strconv_Itoa n hn.1 hn.2 w ht.1).mono fun e w' ⟨h, k, os, hw⟩ => ⟨h, hw ▸ Lib.below_grow _ _ (Nat.le_refl _) k os⟩
def Bd (b : Nat) (l : List UInt8) (W : World) : Prop := Lib.IsBuilder 70 5 b b (Lib.byteCells l) W
theorem Bd.keep {b : Nat} {l : List UInt8} {W W' : World} (h : Bd b l W) (hb : Below W.heap.size W W') : Bd b l W' := by
  have key : ∀ p, Lib.BuilderAt 70 5 b b p (Lib.byteCells l) W → Lib.BuilderAt 70 5 b b p (Lib.byteCells l) W' := fun p ⟨h0, v, h1, h2, h3⟩ =>
    ⟨h0, v, blk_below h1 hb, pw_own_below h2 hb, h3⟩
  exact h.elim (fun h => .inl (key _ h)) (fun h => .inr (key _ h))
def dotB (n : Int) : List UInt8 := 46 :: Lib.itoa n
def dotsB (l : List Int) : List UInt8 := (l.map dotB).flatten
theorem dotsB_snoc (l : List Int) (n : Int) : dotsB (l ++ [n]) = dotsB l ++ dotB n := by simp [dotsB]
theorem dotB_len {n : Int} (h : Rng n) : (dotB n).length ≤ 22 := by
  have := Lib.itoa_length_le n h.1 h.2
  simp only [dotB, List.length_cons]
  omega
theorem dotsB_len : ∀ (l : List Int), (∀ x ∈ l, Rng x) → (dotsB l).length ≤ 22 * l.length
  | [], _ => by simp [dotsB]
  | x :: t, h => by
    have h1 := dotsB_len t (fun y hy => h y (by simp [hy]))
    have h2 := dotB_len (h x (by simp))
    simp only [dotsB, List.map_cons, List.flatten_cons, List.length_append, List.length_cons] at *
    omega
theorem write_c (b : Nat) (l : List UInt8) (s : List UInt8) (w : World) (h : Bd b l w) (hl : l.length + s.length ≤ 140737488355328) (hb : b ≤ w.heap.size) :
    Calls Tryd.prog 31 #[.pointer (some ⟨b, 0, none⟩), .string ⟨s.toArray⟩] w fun e w' => e = .returned (.tuple #[.int .i64 s.length, .nilIface]) ∧ Bd b (l ++ s) w' ∧ Below b w w' := by
  refine (Tryd.Builder_WriteString b b (Lib.byteCells l) ⟨s.toArray⟩ w h (by simpa [Lib.byteCells, ByteArray.size] using hl) hb).mono ?_
  rintro e w' ⟨rfl, h1, h2⟩
  refine ⟨by simp [ByteArray.size], .inr ?_, h2⟩
  have : Lib.byteCells l ++ Lib.strCells ⟨s.toArray⟩ = Lib.byteCells (l ++ s) := by simp [Lib.byteCells, Lib.strCells]
  rw [this] at h1
  exact h1
theorem bytes_append (a b : List UInt8) : (⟨a.toArray⟩ : ByteArray) ++ ⟨b.toArray⟩ = ⟨(a ++ b).toArray⟩ := by
  apply ByteArray.ext
  simp [ByteArray.data_append]
set_option maxHeartbeats 2000000 in
theorem dots_c (A : Option Addr) (c : Nat) (l : List Int) (w : World) (hr : Kd.C (Kd.int .i64) w A l.length l) (hc : l.length ≤ c) (hl : l.length ≤ 1000) (hx : ∀ x ∈ l, Rng x) (ht : Tab w) :
    Calls Tryd.prog 29 #[.slice A l.length c] w fun e w' => e = .returned (.string ⟨(dotsB l).toArray⟩) ∧ Below w.heap.size w w' := by
  have HR := Aside0.mk hr
  have HX := Aside0.mk hx
  have HT := Aside0.mk ht
  clear hr hx ht
  go_enter Tryd.func29, Tryd.ntmps29
  go_wp2_with fail
  have HB0 := Aside0.mk (show Bd w.heap.size [] (w.alloc (.cells #[.pointer none, .slice none 0 0] 70)) from Lib.fresh_isBuilder _ _ w)
  have HL0 := Aside0.mk (below_alloc (Below.refl w.heap.size w) (.cells #[.pointer none, .slice none 0 0] 70))
  generalize w.alloc (.cells #[.pointer none, .slice none 0 0] 70) = w1 at HB0 HL0 ⊢
  go_loopw [8] (fun v8 wr => ∃ k : Nat, k ≤ l.length ∧ v8 = .int .i64 k ∧ Aside0 (Bd w.heap.size (dotsB (l.take k)) wr) ∧ Aside0 (Below w.heap.size w wr)) (fun v8 _ => l.length - (intOf v8).toNat)
  case atStart => exact ⟨0, by omega, rfl, ⟨by simpa [dotsB] using HB0.out⟩, HL0⟩
  case round =>
    clear HB0 HL0
    obtain ⟨k, hk, rfl, HB, HL⟩ := hrel
    obtain ⟨w2, rfl⟩ : ∃ w2 : World, w2 = wr := ⟨_, rfl⟩
    by_cases hkl : k < l.length
    · obtain ⟨ad, hA, e1⟩ := Kd.at_int (Kd.C_below HR.out HL.out) (k : Int) (by omega) (by omega)
      rw [Int.toNat_natCast, rd_lt hkl] at e1
      subst hA
      have HN := Aside0.mk (HX.out _ (List.getElem_mem hkl))
      have HTK := Aside0.mk (show l.take (k + 1) = l.take k ++ [l[k]] from List.take_succ_eq_append_getElem hkl)
      have HTL := Aside0.mk (dotsB_len (l.take k) (fun x hx => HX.out x (List.mem_of_mem_take hx)))
      have htl : (l.take k).length = k := by rw [List.length_take]; omega
      have HTN := Aside0.mk htl
      generalize l[k] = n at e1 HN HTK
      have hi64 : IntKind.i64.wrap ((k : Int) + 1) = (k : Int) + 1 := i64w (by omega) (by omega)
      clear htl
      go_wp2_with fail
      refine (itoa_c n w2 HN.out (HT.out.after HL.out)).mono ?_
      rintro e w3 ⟨rfl, hb⟩
      have HB3 := Aside0.mk (HB.out.keep hb)
      have HL3 := Aside0.mk (below_then HL.out HL.out.size hb)
      have hcat : ¬ 9223372036854775807 < 1 + (Lib.itoa n).length := by have := Lib.itoa_length_le n HN.out.1 HN.out.2; omega
      clear hb HB e1
      go_wp2_with fail
      rw [show (⟨#[46]⟩ : ByteArray) = ⟨[46].toArray⟩ from rfl, bytes_append]
      refine (write_c w.heap.size (dotsB (l.take k)) (dotB n) w3 HB3.out (by have := HTL.out; have := HTN.out; have := dotB_len HN.out; omega) HL3.out.size).mono ?_
      rintro e w4 ⟨rfl, hbd, hb⟩
      rw [← dotsB_snoc, ← HTK.out] at hbd
      have HB4 := Aside0.mk hbd
      have HL4 := Aside0.mk (HL3.out.trans hb)
      clear hb hbd HB3 HL3
      go_wp2
      refine ⟨⟨k + 1, by omega, by go_num, HB4, HL4⟩, ?_⟩
      simp [intOf]
      omega
    · obtain rfl : k = l.length := by omega
      have HB2 : Aside0 (Bd w.heap.size (dotsB l) w2) := ⟨by simpa using HB.out⟩
      go_wp2_with fail
      refine (Tryd.Builder_String_any w.heap.size w.heap.size (dotsB l) w2 HB2.out HL.out.size).mono ?_
      rintro e w3 ⟨rfl, hb⟩
      have HL3 := Aside0.mk (HL.out.trans hb)
      clear hb
      go_wp2
      go_ret
      exact ⟨rfl, HL3.out⟩
/-- a step -/
abbrev Sp := S51
def spL (s : Sp) : List Value := [.bool s.f0, .int .i64 s.f1, .int .i64 s.f2, .int .i64 s.f3.f0, .int .i64 s.f3.f1, .int .i64 s.f3.f2, .int .i64 s.f3.f3, .int .i64 s.f3.f4]
structure SpOk (s : Sp) : Prop where
  r1 : Rng s.f1
  r2 : Rng s.f2
  c0 : Rng s.f3.f0
  c1 : Rng s.f3.f1
  c2 : Rng s.f3.f2
  c3 : Rng s.f3.f3
  c4 : Rng s.f3.f4
def textB (s : Sp) : List UInt8 := if s.f0 = true then [111, 102, 102] ++ dotsB [s.f1, s.f2] else (dotsB [s.f3.f0, s.f3.f1, s.f3.f4, s.f3.f2, s.f3.f3]).drop 1
theorem C_row {w : World} {b t : Nat} {cells : Array Value} {xs : List Int} (hb : w.heap[b]? = some (.cells cells t (0, 0))) (he : cells = (xs.map (Value.int .i64)).toArray) (hl : xs.length ≤ 1000) : Kd.C (Kd.int .i64) w (some ⟨b, 0, none⟩) xs.length xs :=
  ⟨rfl, by omega, fun _ => ⟨_, rfl, fun j p hj => ⟨[.int .i64 p], rfl, rfl, fun i u hu => by
    match i, hu with
    | 0, hu =>
      obtain rfl : Value.int .i64 p = u := by simpa using hu
      show w.cell? ((⟨b, 0, none⟩ : Addr).add (j * 1 + 0)) = _
      rw [show (⟨b, 0, none⟩ : Addr).add (j * 1 + 0) = ⟨b, j, none⟩ by simp [Addr.add]; omega, blk_cell hb, he]
      simp [hj]⟩⟩⟩
theorem ret_str {a b : ByteArray} (h : a = b) : Ending.returned (.string a) = .returned (.string b) := by rw [h]
theorem bytes_drop (l : List UInt8) : (⟨l.toArray⟩ : ByteArray).extract 1 l.length = ⟨(l.drop 1).toArray⟩ := by
  apply ByteArray.ext
  simp
  rw [List.take_of_length_le (by simp)]
theorem blk_third (w : World) (a b c : Obj) : (((w.alloc a).alloc b).alloc c).heap[w.heap.size + 1 + 1]? = some c := by
  have h := blk_new ((w.alloc a).alloc b) c
  rwa [World.size_alloc, World.size_alloc] at h
set_option maxHeartbeats 2000000 in
theorem text_c (s : Sp) (w : World) (hs : SpOk s) (ht : Tab w) :
    Calls Tryd.prog 22 #[.agg (spL s).toArray] w fun e w' => e = .returned (.string ⟨(textB s).toArray⟩) ∧ Below w.heap.size w w' := by
  have HS := Aside0.mk hs
  have HT := Aside0.mk ht
  clear hs ht
  unfold spL
  cases h0 : s.f0 with
  | true =>
    have HE := Aside0.mk (show textB s = [111, 102, 102] ++ dotsB [s.f1, s.f2] by unfold textB; rw [if_pos h0])
    clear h0
    go_enter Tryd.func22, Tryd.ntmps22
    go_wp2_with fail
    have hc0 := C_row (xs := [s.f1, s.f2]) (blk_third w (.cells #[.bool true, .int .i64 s.f1, .int .i64 s.f2, .int .i64 s.f3.f0, .int .i64 s.f3.f1, .int .i64 s.f3.f2, .int .i64 s.f3.f3, .int .i64 s.f3.f4] 51) (.cells #[.int .i64 s.f3.f0, .int .i64 s.f3.f1, .int .i64 s.f3.f2, .int .i64 s.f3.f3, .int .i64 s.f3.f4] 49) (.cells #[.int .i64 s.f1, .int .i64 s.f2] 3)) rfl (by simp)
    have HL := Aside0.mk (below_alloc3 w (.cells #[.bool true, .int .i64 s.f1, .int .i64 s.f2, .int .i64 s.f3.f0, .int .i64 s.f3.f1, .int .i64 s.f3.f2, .int .i64 s.f3.f3, .int .i64 s.f3.f4] 51) (.cells #[.int .i64 s.f3.f0, .int .i64 s.f3.f1, .int .i64 s.f3.f2, .int .i64 s.f3.f3, .int .i64 s.f3.f4] 49) (.cells #[.int .i64 s.f1, .int .i64 s.f2] 3))
    have HC0 := Aside0.mk hc0
    clear hc0
    generalize ((w.alloc (.cells #[.bool true, .int .i64 s.f1, .int .i64 s.f2, .int .i64 s.f3.f0, .int .i64 s.f3.f1, .int .i64 s.f3.f2, .int .i64 s.f3.f3, .int .i64 s.f3.f4] 51)).alloc (.cells #[.int .i64 s.f3.f0, .int .i64 s.f3.f1, .int .i64 s.f3.f2, .int .i64 s.f3.f3, .int .i64 s.f3.f4] 49)).alloc (.cells #[.int .i64 s.f1, .int .i64 s.f2] 3) = w1 at HC0 HL ⊢
    refine (dots_c _ 2 [s.f1, s.f2] w1 HC0.out (by simp) (by simp) (fun x hx => by rcases List.mem_cons.1 hx with rfl | hx; exact HS.out.r1; rcases List.mem_cons.1 hx with rfl | hx; exact HS.out.r2; cases hx) (HT.out.after HL.out)).mono ?_
    rintro e w3 ⟨rfl, hb⟩
    have HB3 := Aside0.mk (below_then HL.out HL.out.size hb)
    have hdl := dotsB_len [s.f1, s.f2] (fun x hx => by rcases List.mem_cons.1 hx with rfl | hx; exact HS.out.r1; rcases List.mem_cons.1 hx with rfl | hx; exact HS.out.r2; cases hx)
    have hcat : ¬ 9223372036854775807 < 3 + (dotsB [s.f1, s.f2]).length := by simp only [List.length_cons, List.length_nil] at hdl; omega
    clear hb HC0 HL hdl
    go_wp2
    go_ret
    exact ⟨ret_str (by rw [HE.out, ← bytes_append]), HB3.out⟩
  | false =>
    have HE := Aside0.mk (show textB s = (dotsB [s.f3.f0, s.f3.f1, s.f3.f4, s.f3.f2, s.f3.f3]).drop 1 by unfold textB; rw [if_neg (by simp [h0])])
    clear h0
    go_enter Tryd.func22, Tryd.ntmps22
    go_wp2_with fail
    have hc0 := C_row (xs := [s.f3.f0, s.f3.f1, s.f3.f4, s.f3.f2, s.f3.f3]) (blk_third w (.cells #[.bool false, .int .i64 s.f1, .int .i64 s.f2, .int .i64 s.f3.f0, .int .i64 s.f3.f1, .int .i64 s.f3.f2, .int .i64 s.f3.f3, .int .i64 s.f3.f4] 51) (.cells #[.int .i64 s.f3.f0, .int .i64 s.f3.f1, .int .i64 s.f3.f2, .int .i64 s.f3.f3, .int .i64 s.f3.f4] 49) (.cells #[.int .i64 s.f3.f0, .int .i64 s.f3.f1, .int .i64 s.f3.f4, .int .i64 s.f3.f2, .int .i64 s.f3.f3] 3)) rfl (by simp)
    have HL := Aside0.mk (below_alloc3 w (.cells #[.bool false, .int .i64 s.f1, .int .i64 s.f2, .int .i64 s.f3.f0, .int .i64 s.f3.f1, .int .i64 s.f3.f2, .int .i64 s.f3.f3, .int .i64 s.f3.f4] 51) (.cells #[.int .i64 s.f3.f0, .int .i64 s.f3.f1, .int .i64 s.f3.f2, .int .i64 s.f3.f3, .int .i64 s.f3.f4] 49) (.cells #[.int .i64 s.f3.f0, .int .i64 s.f3.f1, .int .i64 s.f3.f4, .int .i64 s.f3.f2, .int .i64 s.f3.f3] 3))
    have HX5 : Aside0 (∀ x ∈ [s.f3.f0, s.f3.f1, s.f3.f4, s.f3.f2, s.f3.f3], Rng x) := ⟨fun x hx => by
      simp only [List.mem_cons, List.not_mem_nil, or_false] at hx
      rcases hx with rfl | rfl | rfl | rfl | rfl
      · exact HS.out.c0
      · exact HS.out.c1
      · exact HS.out.c4
      · exact HS.out.c2
      · exact HS.out.c3⟩
    have HC0 := Aside0.mk hc0
    clear hc0
    generalize ((w.alloc (.cells #[.bool false, .int .i64 s.f1, .int .i64 s.f2, .int .i64 s.f3.f0, .int .i64 s.f3.f1, .int .i64 s.f3.f2, .int .i64 s.f3.f3, .int .i64 s.f3.f4] 51)).alloc (.cells #[.int .i64 s.f3.f0, .int .i64 s.f3.f1, .int .i64 s.f3.f2, .int .i64 s.f3.f3, .int .i64 s.f3.f4] 49)).alloc (.cells #[.int .i64 s.f3.f0, .int .i64 s.f3.f1, .int .i64 s.f3.f4, .int .i64 s.f3.f2, .int .i64 s.f3.f3] 3) = w1 at HC0 HL ⊢
    refine (dots_c _ 5 [s.f3.f0, s.f3.f1, s.f3.f4, s.f3.f2, s.f3.f3] w1 HC0.out (by simp) (by simp) HX5.out (HT.out.after HL.out)).mono ?_
    rintro e w3 ⟨rfl, hb⟩
    have HB3 := Aside0.mk (below_then HL.out HL.out.size hb)
    have HDL := Aside0.mk (dotsB_len _ HX5.out)
    have HPOS : Aside0 (1 ≤ (dotsB [s.f3.f0, s.f3.f1, s.f3.f4, s.f3.f2, s.f3.f3]).length) := ⟨by simp [dotsB, dotB]⟩
    clear hb HC0 HL HX5
    generalize dotsB [s.f3.f0, s.f3.f1, s.f3.f4, s.f3.f2, s.f3.f3] = db at HDL HPOS HE ⊢
    have hpos := HPOS.out
    go_wp2
    go_ret
    exact ⟨ret_str (by rw [HE.out]; exact bytes_drop db), HB3.out⟩
/-- steps' text -/
def textsB (l : List Sp) : List UInt8 := if l = [] then [45] else Lib.join (l.map textB) [32]
def bs (l : List UInt8) : ByteArray := ⟨l.toArray⟩
theorem infoS : (Tryd.prog.info? 9).map (fun i => (i.zero, i.size, i.bytes)) = some (some (.string .empty), 1, 16) := by kernel_rfl
theorem textB_len {s : Sp} (h : SpOk s) : (textB s).length ≤ 110 := by
  unfold textB
  split
  · have := dotsB_len [s.f1, s.f2] (fun x hx => by rcases List.mem_cons.1 hx with rfl | hx; exact h.r1; rcases List.mem_cons.1 hx with rfl | hx; exact h.r2; cases hx)
    simp only [List.length_append, List.length_cons, List.length_nil] at *
    omega
  · have := dotsB_len [s.f3.f0, s.f3.f1, s.f3.f4, s.f3.f2, s.f3.f3] (fun x hx => by
      simp only [List.mem_cons, List.not_mem_nil, or_false] at hx
      rcases hx with rfl | rfl | rfl | rfl | rfl
      · exact h.c0
      · exact h.c1
      · exact h.c4
      · exact h.c2
      · exact h.c3)
    simp only [List.length_drop, List.length_cons, List.length_nil] at *
    omega
theorem tail_len (sep : List UInt8) : ∀ (l : List Sp), (∀ x ∈ l, SpOk x) → (Lib.joinTail sep (l.map textB)).length ≤ (110 + sep.length) * l.length
  | [], _ => by simp [Lib.joinTail]
  | x :: t, h => by
    have h1 := tail_len sep t (fun y hy => h y (by simp [hy]))
    have h2 := textB_len (h x (by simp))
    simp only [Lib.joinTail, List.map_cons, List.flatten_cons, List.length_append, List.length_cons] at *
    rw [Nat.mul_add]
    omega
theorem join_len (l : List Sp) (h : ∀ x ∈ l, SpOk x) (hl : l.length ≤ 3000) : (Lib.join (l.map textB) [32]).length ≤ 400000 := by
  match l, h, hl with
  | [], _, _ => simp [Lib.join_nil]
  | x :: t, h, hl =>
    have h1 := tail_len [32] t (fun y hy => h y (by simp [hy]))
    have h2 := textB_len (h x (by simp))
    rw [List.map_cons, Lib.join_cons]
    simp only [List.length_append, List.length_cons, List.length_nil] at *
    omega
set_option maxHeartbeats 4000000 in
theorem texts_c (A : Option Addr) (c : Nat) (l : List Sp) (w : World) (hr : Kd.C k51 w A l.length l) (hc : l.length ≤ c) (hl : l.length ≤ 3000) (hx : ∀ x ∈ l, SpOk x) (ht : Tab w) :
    Calls Tryd.prog 7 #[.slice A l.length c] w fun e w' => e = .returned (.string (bs (textsB l))) ∧ Below w.heap.size w w' := by
  have HR := Aside0.mk hr
  have HX := Aside0.mk hx
  have HT := Aside0.mk ht
  clear hr hx ht
  go_enter Tryd.func7, Tryd.ntmps7
  by_cases hz : l.length = 0
  · have hnil := List.eq_nil_of_length_eq_zero hz
    subst hnil
    clear HR HX hz
    go_wp2
    go_ret
    exact ⟨rfl, Below.refl _ _⟩
  · have d0 : ((l.length : Int) == 0) = false := by simpa using hz
    have d1 : decide (l.length = 0) = false := decide_eq_false hz
    go_wp2_with fail
    go_loopw [3, 11] (fun v3 v11 wr => ∃ k : Nat, k ≤ l.length ∧ v11 = .int .i64 k ∧ Aside0 (Kd.R Kd.string 9 wr w.heap.size (fun _ => True) v3 ((l.take k).map (fun s => bs (textB s)))) ∧ Aside0 (Below w.heap.size w wr)) (fun _ v11 _ => l.length - (intOf v11).toNat)
    case atStart => exact ⟨0, by omega, rfl, ⟨Kd.R_nil _ _ _ _ _⟩, ⟨Below.refl _ _⟩⟩
    case round =>
      obtain ⟨k, hk, rfl, HP, HL⟩ := hrel
      obtain ⟨w2, rfl⟩ : ∃ w2 : World, w2 = wr := ⟨_, rfl⟩
      obtain ⟨Ap, cp, hup, hcp, _⟩ := Kd.R_reads HP.out
      subst hup
      by_cases hkl : k < l.length
      · obtain ⟨ad, hA, g0, g1, g2, g3, g4, g5, g6, g7⟩ := at_T51 (Kd.C_below HR.out HL.out) (k : Int) (by omega) (by omega)
        rw [Int.toNat_natCast] at g0 g1 g2 g3 g4 g5 g6 g7
        subst hA
        have hrd : rd_T51 l (k : Int) = l[k] := by simp [rd_T51, hkl]
        rw [hrd] at g0 g1 g2 g3 g4 g5 g6 g7
        have HSP := Aside0.mk (HX.out _ (List.getElem_mem hkl))
        have HTK := Aside0.mk (show (l.take (k + 1)).map (fun s => bs (textB s)) = (l.take k).map (fun s => bs (textB s)) ++ [bs (textB l[k])] by rw [List.take_succ_eq_append_getElem hkl, List.map_append]; rfl)
        have hml : ((l.take k).map (fun s => bs (textB s))).length = k := by rw [List.length_map, List.length_take]; omega
        have HML := Aside0.mk hml
        rw [hml] at hcp ⊢
        generalize l[k] = s at g0 g1 g2 g3 g4 g5 g6 g7 HSP HTK
        have hi64 : IntKind.i64.wrap ((k : Int) + 1) = (k : Int) + 1 := i64w (by omega) (by omega)
        clear hrd hml
        go_wp2_with fail
        have HL3 := Aside0.mk (below_then HL.out HL.out.size (below_alloc (Below.refl w2.heap.size w2) (.cells #[.bool s.f0, .int .i64 s.f1, .int .i64 s.f2, .int .i64 s.f3.f0, .int .i64 s.f3.f1, .int .i64 s.f3.f2, .int .i64 s.f3.f3, .int .i64 s.f3.f4] 51)))
        have hp3 := Kd.R_below HP.out (below_alloc (Below.refl w2.heap.size w2) (.cells #[.bool s.f0, .int .i64 s.f1, .int .i64 s.f2, .int .i64 s.f3.f0, .int .i64 s.f3.f1, .int .i64 s.f3.f2, .int .i64 s.f3.f3, .int .i64 s.f3.f4] 51))
        rw [HML.out] at hp3
        have HP3 := Aside0.mk hp3
        clear hp3 HP g0 g1 g2 g3 g4 g5 g6 g7
        generalize w2.alloc (.cells #[.bool s.f0, .int .i64 s.f1, .int .i64 s.f2, .int .i64 s.f3.f0, .int .i64 s.f3.f1, .int .i64 s.f3.f2, .int .i64 s.f3.f3, .int .i64 s.f3.f4] 51) = w3 at HL3 HP3 ⊢
        refine (text_c s w3 HSP.out (HT.out.after HL3.out)).mono ?_
        rintro e w4 ⟨rfl, hb⟩
        have HL4 := Aside0.mk (below_then HL3.out HL3.out.size hb)
        have HP4 := Aside0.mk (Kd.R_below HP3.out hb)
        have hz := HL4.out.size
        have hk16 : (((l.take k).map (fun s => bs (textB s))).length + 1) * 16 ≤ 140737488355328 := by rw [HML.out]; omega
        clear hb HL3 HP3
        rw [show (⟨(textB s).toArray⟩ : ByteArray) = bs (textB s) from rfl]
        go_wp2_with (at_builtin; refine Kd.R_append Kd.string (w0 := w) w.heap.size rfl (.tmp 15) (.tmp 18) 53 9 (.string .empty) 16 rfl Tryd.underlying53 infoS rfl (by decide) (by decide) (.slice Ap k cp) ((l.take k).map (fun s => bs (textB s))) (bs (textB s)) [.string (bs (textB s))] (fun _ => True) (fun _ => False) rfl rfl rfl (fun _ h => h.elim) (fun _ _ => trivial) HP4.out HL4.out hz hk16 ?_; intro v1 w5 ho hbl hgr hat)
        rw [← HTK.out] at ho
        refine ⟨⟨k + 1, by omega, by go_num, ⟨ho⟩, ⟨hbl⟩⟩, ?_⟩
        simp [intOf]
        omega
      · obtain rfl : k = l.length := by omega
        have hp2 := HP.out
        rw [List.take_length] at hp2
        have hml : (l.map (fun s => bs (textB s))).length = l.length := List.length_map ..
        obtain ⟨bk, cu, hav, hbk, _, _⟩ := Kd.R_form hp2 (by rw [hml]; omega)
        injection hav with h1 h2 h3
        subst h1
        have hcl := (Kd.R_reads' hp2).2.2
        have hcells : ∀ (j : Nat) x, (l.map (fun s => bs (textB s)))[j]? = some x → w2.cell? ⟨bk, 0 + j, none⟩ = some (.string x) := fun j x hj => by
          obtain ⟨hj0, hjx⟩ := List.getElem?_eq_some_iff.1 hj
          obtain ⟨ad2, ha2, he2⟩ := Kd.at_string hcl (j : Int) (by omega) (by omega)
          injection ha2 with ha2
          subst ha2
          rw [Int.toNat_natCast, show (⟨bk, 0, none⟩ : Addr).add j = ⟨bk, 0 + j, none⟩ by simp [Addr.add]; omega] at he2
          have hj1 : j < l.length := by rw [hml] at hj0; exact hj0
          rw [he2, ← hjx]
          simp [rdOf, hj1]
        have hbl : bk < w2.heap.size := World.block_lt_of_cell? w2 _ (hcells 0 _ (List.getElem?_eq_getElem (by rw [hml]; omega)))
        have hjn := join_len l HX.out hl
        have hmm : (l.map (fun s => bs (textB s))).map (·.data.toList) = l.map textB := by simp [bs]
        have HJ := Aside0.mk (Tryd.strings_Join bk 0 cp (l.map (fun s => bs (textB s))) ⟨#[32]⟩ w2 hcells hbl (by rw [hml]; omega) (by rw [List.take_length] at hcp; exact hcp) (by rw [hmm]; exact Nat.le_trans hjn (by decide)))
        rw [hml, hmm] at HJ
        have HTB := Aside0.mk (show bs (textsB l) = ⟨(Lib.join (l.map textB) [32]).toArray⟩ by unfold textsB bs; rw [if_neg (fun h => hz (by rw [h]; rfl))])
        rw [List.take_length, hml]
        clear hcells hcl hp2 hbl hjn hmm hml h2 h3 HP
        go_wp2_with fail
        refine HJ.out.mono ?_
        rintro e w3 ⟨rfl, hb⟩
        have HL3 := Aside0.mk (below_then HL.out HL.out.size hb)
        clear hb HJ
        go_wp2
        go_ret
        exact ⟨ret_str HTB.out.symm, HL3.out⟩
end Go.Proofs.YtfmlpcdbllpcaaaDoor.HX
