/-
  CONTRACTS BY HAND (sign, 22): Text.
-/
import Derived.Test.YtpkcnifchggbnaaDoorSpC
import Derived.Test.YtpkcnifchggbnaaDoorShelf
import Derived.Lib.ItoaLen
import Derived.Lib.LaidTab
import Derived.WalkSmall
import Derived.Lib.AppendIntMem
namespace Go.Proofs.YtpkcnifchggbnaaDoor.HI
open Go.RowKit Go.Proofs.YtpkcnifchggbnaaDoor.HD Go.Proofs.YtpkcnifchggbnaaDoor.HK Go.Proofs.YtpkcnifchggbnaaDoor.HU Go.Proofs.YtpkcnifchggbnaaDoorW.PrintWords Go.Proofs.YtpkcnifchggbnaaDoorW.PrintLast Go.Proofs.YtpkcnifchggbnaaDoorW.PrintMore
set_option linter.unusedVariables false
set_option linter.unusedSimpArgs false
/-- the library's table reads as its initialiser lays it -/
def Tab (W : World) : Prop := Lib.TabIs Tryd.prog W "internal/strconv.uint64pow10" .u64 Lib.pow10Tab ∧ 0 < W.heap.size
theorem gTab : Tryd.prog.globalNamed "internal/strconv.uint64pow10" = some 0 := by kernel_rfl
theorem Tab.below {W W' : World} (h : Tab W) {B : Nat} (hB : 0 < B) (hb : Below B W W') : Tab W' :=
  ⟨var?_below hb gTab hB h.1, Nat.lt_of_lt_of_le h.2 hb.size⟩
theorem Tab.after {W W' : World} (h : Tab W) (hb : Below W.heap.size W W') : Tab W' := h.below h.2 hb
/-- an int's range -/
def Rng (n : Int) : Prop := -9223372036854775808 ≤ n ∧ n ≤ 9223372036854775807
theorem itoa_c (n : Int) (w : World) (hn : Rng n) (ht : Tab w) : Calls Tryd.prog 33 #[.int .i64 n] w fun e w' => e = .returned (.string ⟨(Lib.itoa n).toArray⟩) ∧ Below w.heap.size w w' :=
  (Tryd.strconv_Itoa n hn.1 hn.2 w ht.1).mono fun e w' ⟨h, k, os, hw⟩ => ⟨h, hw ▸ Lib.below_grow _ _ (Nat.le_refl _) k os⟩
def bs (l : List UInt8) : ByteArray := ⟨l.toArray⟩
theorem infoSt : (Tryd.prog.info? 9).map (fun i => (i.zero, i.size, i.bytes)) = some (some (.string .empty), 1, 16) := by kernel_rfl
/-- a choice's numbers, in the order in which they count -/
def row5 (x : Cho) : List Int := [x.f0, x.f1, x.f4, x.f2, x.f3]
def chB (x : Cho) : List UInt8 := Lib.join ((row5 x).map Lib.itoa) [46]
def textB (l : List Cho) : List UInt8 := if l = [] then [45] else Lib.join (l.map chB) [32]
theorem tailLen (sep : List UInt8) (m : Nat) : ∀ (l : List (List UInt8)), (∀ x ∈ l, x.length ≤ m) → (Lib.joinTail sep l).length ≤ (m + sep.length) * l.length
  | [], _ => by simp [Lib.joinTail]
  | x :: t, h => by
    have h1 := tailLen sep m t (fun y hy => h y (by simp [hy]))
    have h2 := h x (by simp)
    simp only [Lib.joinTail, List.map_cons, List.flatten_cons, List.length_append, List.length_cons] at *
    rw [Nat.mul_add]
    omega
theorem joinLen (sep : List UInt8) (m : Nat) (l : List (List UInt8)) (h : ∀ x ∈ l, x.length ≤ m) : (Lib.join l sep).length ≤ (m + sep.length) * (l.length + 1) := by
  match l, h with
  | [], _ => simp [Lib.join_nil]
  | x :: t, h =>
    have h1 := tailLen sep m t (fun y hy => h y (by simp [hy]))
    have h2 := h x (by simp)
    rw [Lib.join_cons]
    simp only [List.length_append, List.length_cons] at *
    rw [Nat.mul_add, Nat.mul_add]
    omega
theorem chB_len {x : Cho} (h : ∀ n ∈ row5 x, Rng n) : (chB x).length ≤ 132 := by
  have := joinLen [46] 21 ((row5 x).map Lib.itoa) (fun y hy => by
    obtain ⟨n, hn, rfl⟩ := List.mem_map.1 hy
    exact Lib.itoa_length_le n (h n hn).1 (h n hn).2)
  simpa [chB, row5] using this
theorem one_rng {x : Cho} (h : oneB x = true) {n : Int} (hn : n ∈ row5 x) : Rng n := by
  have h := of_decide_eq_true h
  unfold Rng
  simp only [row5, List.mem_cons, List.not_mem_nil, or_false] at hn
  rcases hn with rfl | rfl | rfl | rfl | rfl <;> omega
theorem idx5_0 (v0 v1 v2 v3 v4 : Int) (w : World) : (Instr.index 56 (.agg #[.int .i64 v0, .int .i64 v1, .int .i64 v2, .int .i64 v3, .int .i64 v4]) (.int .i64 0)).run Tryd.prog w = .ok (.int .i64 v0) w := by kernel_rfl
theorem idx5_1 (v0 v1 v2 v3 v4 : Int) (w : World) : (Instr.index 56 (.agg #[.int .i64 v0, .int .i64 v1, .int .i64 v2, .int .i64 v3, .int .i64 v4]) (.int .i64 1)).run Tryd.prog w = .ok (.int .i64 v1) w := by kernel_rfl
theorem idx5_2 (v0 v1 v2 v3 v4 : Int) (w : World) : (Instr.index 56 (.agg #[.int .i64 v0, .int .i64 v1, .int .i64 v2, .int .i64 v3, .int .i64 v4]) (.int .i64 2)).run Tryd.prog w = .ok (.int .i64 v2) w := by kernel_rfl
theorem idx5_3 (v0 v1 v2 v3 v4 : Int) (w : World) : (Instr.index 56 (.agg #[.int .i64 v0, .int .i64 v1, .int .i64 v2, .int .i64 v3, .int .i64 v4]) (.int .i64 3)).run Tryd.prog w = .ok (.int .i64 v3) w := by kernel_rfl
theorem idx5_4 (v0 v1 v2 v3 v4 : Int) (w : World) : (Instr.index 56 (.agg #[.int .i64 v0, .int .i64 v1, .int .i64 v2, .int .i64 v3, .int .i64 v4]) (.int .i64 4)).run Tryd.prog w = .ok (.int .i64 v4) w := by kernel_rfl
attribute [local go_sem] idx5_0 idx5_1 idx5_2 idx5_3 idx5_4
theorem join_c (base : Nat) (xs : List (List UInt8)) (sep : List UInt8) (v : Value) (w : World) (hR : Kd.R Kd.string 9 w base (fun _ => True) v (xs.map bs)) (h0 : 0 < xs.length) (hl : xs.length ≤ 100000) (hj : (Lib.join xs sep).length ≤ 140737488355328) :
    Calls Tryd.prog 34 #[v, .string (bs sep)] w fun e w' => e = .returned (.string (bs (Lib.join xs sep))) ∧ Below w.heap.size w w' := by
  have hml : (xs.map bs).length = xs.length := List.length_map ..
  obtain ⟨bk, cu, hav, hbk, _, _⟩ := Kd.R_form hR (by rw [hml]; exact h0)
  subst hav
  obtain ⟨_, cu', he, hcu, hcl⟩ := Kd.R_reads hR
  injection he with e1 e2 e3
  subst e1 e3
  have hcells : ∀ (j : Nat) x, (xs.map bs)[j]? = some x → w.cell? ⟨bk, 0 + j, none⟩ = some (.string x) := fun j x hj => by
    obtain ⟨hj0, hjx⟩ := List.getElem?_eq_some_iff.1 hj
    obtain ⟨ad2, ha2, he2⟩ := Kd.at_string hcl (j : Int) (by omega) (by omega)
    injection ha2 with ha2
    subst ha2
    rw [Int.toNat_natCast, show (⟨bk, 0, none⟩ : Addr).add j = ⟨bk, 0 + j, none⟩ by simp [Addr.add]; omega] at he2
    have hj1 : j < xs.length := by rw [hml] at hj0; exact hj0
    rw [he2, ← hjx]
    simp [rdOf, hj1]
  have hbl : bk < w.heap.size := World.block_lt_of_cell? w _ (hcells 0 _ (List.getElem?_eq_getElem (by rw [hml]; exact h0)))
  have hmm : (xs.map bs).map (·.data.toList) = xs := by simp [bs, Function.comp_def]
  have HJ := Tryd.strings_Join bk 0 cu (xs.map bs) (bs sep) w hcells hbl (by rw [hml]; omega) hcu (by rw [hmm]; exact hj)
  rw [hmm] at HJ
  exact HJ
set_option maxHeartbeats 4000000 in
set_option maxRecDepth 100000 in
theorem text_no (A : Option Addr) (c : Nat) (l : List Cho) (w : World) (hr : Kd.C k40 w A l.length l) (hc : l.length ≤ c) (hm : mayL l = false) :
    Calls Tryd.prog 15 #[.slice A l.length c] w fun e w' => e = .returned (.tuple #[.string ⟨#[]⟩, .int .i64 2]) ∧ Below w.heap.size w w' := by
  have HMY := Aside0.mk (may_c A c l w hr hc)
  rw [hm] at HMY
  clear hr hm
  go_enter Tryd.func15, Tryd.ntmps15
  go_wp2_with fail
  refine HMY.out.mono ?_
  rintro e w1 ⟨rfl, hb⟩
  have HB1 := Aside0.mk hb
  clear hb HMY
  go_wp2
  go_ret2
  exact ⟨rfl, HB1.out⟩
set_option maxHeartbeats 4000000 in
set_option maxRecDepth 100000 in
theorem text_ok (A : Option Addr) (c : Nat) (l : List Cho) (w : World) (hr : Kd.C k40 w A l.length l) (hc : l.length ≤ c) (hl : l.length ≤ 50000) (hm : mayL l = true) (ht : Tab w) :
    Calls Tryd.prog 15 #[.slice A l.length c] w fun e w' => e = .returned (.tuple #[.string (bs (textB l)), .int .i64 0]) ∧ Below w.heap.size w w' := by
  have HR := Aside0.mk hr
  have HT := Aside0.mk ht
  have HMY := Aside0.mk (may_c A c l w hr hc)
  have hone := (mayL_iff.1 hm).1
  rw [hm] at HMY
  have HON := Aside0.mk (fun x hx n (hn : n ∈ row5 x) => one_rng (hone x hx) hn)
  clear hr ht hm hone
  go_enter Tryd.func15, Tryd.ntmps15
  go_wp2_with fail
  refine HMY.out.mono ?_
  rintro e w1 ⟨rfl, hb⟩
  have HB1 := Aside0.mk hb
  have HR1 := Aside0.mk (Kd.C_below HR.out hb)
  clear hb HMY
  by_cases hz : l.length = 0
  · have hnil := List.eq_nil_of_length_eq_zero hz
    subst hnil
    go_wp2
    go_ret2
    exact ⟨rfl, HB1.out⟩
  · have d0 : ((l.length : Int) == 0) = false := by simpa using hz
    have d1 : decide (l.length = 0) = false := decide_eq_false hz
    go_wp2_with fail
    go_loopw [4, 18] (fun v4 v18 wr => ∃ k : Nat, k ≤ l.length ∧ v18 = .int .i64 k ∧ Aside0 (Kd.R Kd.string 9 wr w1.heap.size (fun _ => True) v4 (((l.take k).map chB).map bs)) ∧ Aside0 (Below w1.heap.size w1 wr)) (fun _ v18 _ => l.length - (intOf v18).toNat)
    case atStart => exact ⟨0, by omega, rfl, ⟨Kd.R_nil _ _ _ _ _⟩, ⟨Below.refl _ _⟩⟩
    case round =>
      obtain ⟨k, hk, rfl, HP, HL⟩ := hrel
      obtain ⟨w2, rfl⟩ : ∃ w2 : World, w2 = wr := ⟨_, rfl⟩
      by_cases hkl : k < l.length
      · obtain ⟨ad, hA, g0, g1, g2, g3, g4⟩ := at_T40 (Kd.C_below HR1.out HL.out) (k : Int) (by omega) (by omega)
        rw [Int.toNat_natCast] at g0 g1 g2 g3 g4
        subst hA
        have hrd : rd_T40 l (k : Int) = l[k] := by simp [rd_T40, hkl]
        rw [hrd] at g0 g1 g2 g3 g4
        have HRG := Aside0.mk (HON.out _ (List.getElem_mem hkl))
        have HTK := Aside0.mk (show ((l.take (k + 1)).map chB).map bs = ((l.take k).map chB).map bs ++ [bs (chB l[k])] by rw [List.take_succ_eq_append_getElem hkl, List.map_append, List.map_append]; rfl)
        have hml : (((l.take k).map chB).map bs).length = k := by rw [List.length_map, List.length_map, List.length_take]; omega
        have HML := Aside0.mk hml
        generalize l[k] = x at g0 g1 g2 g3 g4 HRG HTK
        have hi64 : IntKind.i64.wrap ((k : Int) + 1) = (k : Int) + 1 := i64w (by omega) (by omega)
        have hki : (k : Int) < (l.length : Int) := by omega
        have HK1 := Aside0.mk (show k + 1 ≤ l.length by omega)
        have HMM : Aside0 (l.length - (k + 1) < l.length - k) := ⟨by omega⟩
        clear hrd hml
        go_upto_region 9 with fail
        have hba := below_alloc (Below.refl w2.heap.size w2) (.cells #[.int .i64 x.f0, .int .i64 x.f1, .int .i64 x.f2, .int .i64 x.f3, .int .i64 x.f4] 40)
        have hbn := blk_new w2 (.cells #[.int .i64 x.f0, .int .i64 x.f1, .int .i64 x.f2, .int .i64 x.f3, .int .i64 x.f4] 40)
        have HP3 := Aside0.mk (Kd.R_below HP.out hba)
        have HL3 := Aside0.mk (below_then HL.out HL.out.size hba)
        obtain ⟨x0, x1, x2, x3, x4⟩ := cells_c hbn
        clear hba hbn HP HL g0 g1 g2 g3 g4
        generalize w2.alloc (.cells #[.int .i64 x.f0, .int .i64 x.f1, .int .i64 x.f2, .int .i64 x.f3, .int .i64 x.f4] 40) = w3 at HP3 HL3 x0 x1 x2 x3 x4 ⊢
        generalize w2.heap.size = bx at x0 x1 x2 x3 x4 ⊢
        go_wp2_with fail
        go_loopw [7, 33] (fun v7 v33 wr => ∃ j : Nat, j ≤ 5 ∧ v33 = .int .i64 j ∧ Aside0 (Kd.R Kd.string 9 wr w3.heap.size (fun _ => True) v7 ((((row5 x).take j).map Lib.itoa).map bs)) ∧ Aside0 (Below w3.heap.size w3 wr)) (fun _ v33 _ => 5 - (intOf v33).toNat)
        case atStart => exact ⟨0, by omega, rfl, ⟨Kd.R_nil _ _ _ _ _⟩, ⟨Below.refl _ _⟩⟩
        case round =>
          obtain ⟨j, hj, rfl, HQ, HLQ⟩ := hrel
          obtain ⟨w4, rfl⟩ : ∃ w4 : World, w4 = wr := ⟨_, rfl⟩
          have HT4 := Aside0.mk (HT.out.after (below_then HB1.out HB1.out.size (below_then HL3.out HL3.out.size HLQ.out)))
          by_cases hj5 : j < 5
          · rcases (by omega : j = 0 ∨ j = 1 ∨ j = 2 ∨ j = 3 ∨ j = 4) with rfl | rfl | rfl | rfl | rfl
            · obtain ⟨Ap, cp, hup, hcp, _⟩ := Kd.R_reads HQ.out
              have hup : u7 = .slice Ap 0 cp := hup
              subst hup
              have hcp : 0 ≤ cp := hcp
              have HTJ : Aside0 (((((row5 x).take (0 + 1)).map Lib.itoa).map bs) = ((((row5 x).take 0).map Lib.itoa).map bs) ++ [bs (Lib.itoa x.f0)]) := ⟨rfl⟩
              go_wp2_with fail
              refine (itoa_c x.f0 w4 (HRG.out _ (by simp [row5])) HT4.out).mono ?_
              rintro e w5 ⟨rfl, hb⟩
              have HQ5 := Aside0.mk (Kd.R_below HQ.out hb)
              have HL5 := Aside0.mk (below_then HLQ.out HLQ.out.size hb)
              have hz5 := HL5.out.size
              clear hb HQ HLQ HT4
              rw [show (⟨(Lib.itoa x.f0).toArray⟩ : ByteArray) = bs (Lib.itoa x.f0) from rfl]
              go_wp2_with (at_builtin; refine Kd.R_append Kd.string (w0 := w3) w3.heap.size rfl (.tmp 36) (.tmp 39) 55 9 (.string .empty) 16 rfl Tryd.underlying55 infoSt rfl (by decide) (by decide) (.slice Ap 0 cp) ((((row5 x).take 0).map Lib.itoa).map bs) (bs (Lib.itoa x.f0)) [.string (bs (Lib.itoa x.f0))] (fun _ => True) (fun _ => False) rfl rfl rfl (fun _ h => h.elim) (fun _ _ => trivial) HQ5.out HL5.out hz5 (by show (0 + 1) * 16 ≤ _; decide) ?_; intro v1 w6 ho hbl hgr hat)
              rw [← HTJ.out] at ho
              exact ⟨⟨0 + 1, by omega, by go_num, ⟨ho⟩, ⟨hbl⟩⟩, by simp [intOf]⟩
            · obtain ⟨Ap, cp, hup, hcp, _⟩ := Kd.R_reads HQ.out
              have hup : u7 = .slice Ap 1 cp := hup
              subst hup
              have hcp : 1 ≤ cp := hcp
              have HTJ : Aside0 (((((row5 x).take (1 + 1)).map Lib.itoa).map bs) = ((((row5 x).take 1).map Lib.itoa).map bs) ++ [bs (Lib.itoa x.f1)]) := ⟨rfl⟩
              go_wp2_with fail
              refine (itoa_c x.f1 w4 (HRG.out _ (by simp [row5])) HT4.out).mono ?_
              rintro e w5 ⟨rfl, hb⟩
              have HQ5 := Aside0.mk (Kd.R_below HQ.out hb)
              have HL5 := Aside0.mk (below_then HLQ.out HLQ.out.size hb)
              have hz5 := HL5.out.size
              clear hb HQ HLQ HT4
              rw [show (⟨(Lib.itoa x.f1).toArray⟩ : ByteArray) = bs (Lib.itoa x.f1) from rfl]
              go_wp2_with (at_builtin; refine Kd.R_append Kd.string (w0 := w3) w3.heap.size rfl (.tmp 36) (.tmp 39) 55 9 (.string .empty) 16 rfl Tryd.underlying55 infoSt rfl (by decide) (by decide) (.slice Ap 1 cp) ((((row5 x).take 1).map Lib.itoa).map bs) (bs (Lib.itoa x.f1)) [.string (bs (Lib.itoa x.f1))] (fun _ => True) (fun _ => False) rfl rfl rfl (fun _ h => h.elim) (fun _ _ => trivial) HQ5.out HL5.out hz5 (by show (1 + 1) * 16 ≤ _; decide) ?_; intro v1 w6 ho hbl hgr hat)
              rw [← HTJ.out] at ho
              exact ⟨⟨1 + 1, by omega, by go_num, ⟨ho⟩, ⟨hbl⟩⟩, by simp [intOf]⟩
            · obtain ⟨Ap, cp, hup, hcp, _⟩ := Kd.R_reads HQ.out
              have hup : u7 = .slice Ap 2 cp := hup
              subst hup
              have hcp : 2 ≤ cp := hcp
              have HTJ : Aside0 (((((row5 x).take (2 + 1)).map Lib.itoa).map bs) = ((((row5 x).take 2).map Lib.itoa).map bs) ++ [bs (Lib.itoa x.f4)]) := ⟨rfl⟩
              go_wp2_with fail
              refine (itoa_c x.f4 w4 (HRG.out _ (by simp [row5])) HT4.out).mono ?_
              rintro e w5 ⟨rfl, hb⟩
              have HQ5 := Aside0.mk (Kd.R_below HQ.out hb)
              have HL5 := Aside0.mk (below_then HLQ.out HLQ.out.size hb)
              have hz5 := HL5.out.size
              clear hb HQ HLQ HT4
              rw [show (⟨(Lib.itoa x.f4).toArray⟩ : ByteArray) = bs (Lib.itoa x.f4) from rfl]
              go_wp2_with (at_builtin; refine Kd.R_append Kd.string (w0 := w3) w3.heap.size rfl (.tmp 36) (.tmp 39) 55 9 (.string .empty) 16 rfl Tryd.underlying55 infoSt rfl (by decide) (by decide) (.slice Ap 2 cp) ((((row5 x).take 2).map Lib.itoa).map bs) (bs (Lib.itoa x.f4)) [.string (bs (Lib.itoa x.f4))] (fun _ => True) (fun _ => False) rfl rfl rfl (fun _ h => h.elim) (fun _ _ => trivial) HQ5.out HL5.out hz5 (by show (2 + 1) * 16 ≤ _; decide) ?_; intro v1 w6 ho hbl hgr hat)
              rw [← HTJ.out] at ho
              exact ⟨⟨2 + 1, by omega, by go_num, ⟨ho⟩, ⟨hbl⟩⟩, by simp [intOf]⟩
            · obtain ⟨Ap, cp, hup, hcp, _⟩ := Kd.R_reads HQ.out
              have hup : u7 = .slice Ap 3 cp := hup
              subst hup
              have hcp : 3 ≤ cp := hcp
              have HTJ : Aside0 (((((row5 x).take (3 + 1)).map Lib.itoa).map bs) = ((((row5 x).take 3).map Lib.itoa).map bs) ++ [bs (Lib.itoa x.f2)]) := ⟨rfl⟩
              go_wp2_with fail
              refine (itoa_c x.f2 w4 (HRG.out _ (by simp [row5])) HT4.out).mono ?_
              rintro e w5 ⟨rfl, hb⟩
              have HQ5 := Aside0.mk (Kd.R_below HQ.out hb)
              have HL5 := Aside0.mk (below_then HLQ.out HLQ.out.size hb)
              have hz5 := HL5.out.size
              clear hb HQ HLQ HT4
              rw [show (⟨(Lib.itoa x.f2).toArray⟩ : ByteArray) = bs (Lib.itoa x.f2) from rfl]
              go_wp2_with (at_builtin; refine Kd.R_append Kd.string (w0 := w3) w3.heap.size rfl (.tmp 36) (.tmp 39) 55 9 (.string .empty) 16 rfl Tryd.underlying55 infoSt rfl (by decide) (by decide) (.slice Ap 3 cp) ((((row5 x).take 3).map Lib.itoa).map bs) (bs (Lib.itoa x.f2)) [.string (bs (Lib.itoa x.f2))] (fun _ => True) (fun _ => False) rfl rfl rfl (fun _ h => h.elim) (fun _ _ => trivial) HQ5.out HL5.out hz5 (by show (3 + 1) * 16 ≤ _; decide) ?_; intro v1 w6 ho hbl hgr hat)
              rw [← HTJ.out] at ho
              exact ⟨⟨3 + 1, by omega, by go_num, ⟨ho⟩, ⟨hbl⟩⟩, by simp [intOf]⟩
            · obtain ⟨Ap, cp, hup, hcp, _⟩ := Kd.R_reads HQ.out
              have hup : u7 = .slice Ap 4 cp := hup
              subst hup
              have hcp : 4 ≤ cp := hcp
              have HTJ : Aside0 (((((row5 x).take (4 + 1)).map Lib.itoa).map bs) = ((((row5 x).take 4).map Lib.itoa).map bs) ++ [bs (Lib.itoa x.f3)]) := ⟨rfl⟩
              go_wp2_with fail
              refine (itoa_c x.f3 w4 (HRG.out _ (by simp [row5])) HT4.out).mono ?_
              rintro e w5 ⟨rfl, hb⟩
              have HQ5 := Aside0.mk (Kd.R_below HQ.out hb)
              have HL5 := Aside0.mk (below_then HLQ.out HLQ.out.size hb)
              have hz5 := HL5.out.size
              clear hb HQ HLQ HT4
              rw [show (⟨(Lib.itoa x.f3).toArray⟩ : ByteArray) = bs (Lib.itoa x.f3) from rfl]
              go_wp2_with (at_builtin; refine Kd.R_append Kd.string (w0 := w3) w3.heap.size rfl (.tmp 36) (.tmp 39) 55 9 (.string .empty) 16 rfl Tryd.underlying55 infoSt rfl (by decide) (by decide) (.slice Ap 4 cp) ((((row5 x).take 4).map Lib.itoa).map bs) (bs (Lib.itoa x.f3)) [.string (bs (Lib.itoa x.f3))] (fun _ => True) (fun _ => False) rfl rfl rfl (fun _ h => h.elim) (fun _ _ => trivial) HQ5.out HL5.out hz5 (by show (4 + 1) * 16 ≤ _; decide) ?_; intro v1 w6 ho hbl hgr hat)
              rw [← HTJ.out] at ho
              exact ⟨⟨4 + 1, by omega, by go_num, ⟨ho⟩, ⟨hbl⟩⟩, by simp [intOf]⟩
          · obtain rfl : j = 5 := by omega
            have HJ := Aside0.mk (join_c w3.heap.size ((row5 x).map Lib.itoa) [46] u7 w4 HQ.out (by show 0 < 5; decide) (by show 5 ≤ _; decide) (by have := chB_len HRG.out; unfold chB at this; omega))
            have HCH := Aside0.mk (show Lib.join ((row5 x).map Lib.itoa) [46] = chB x from rfl)
            rw [HCH.out] at HJ
            have HP4 := Aside0.mk (Kd.R_below HP3.out HLQ.out)
            have HL4 := Aside0.mk (below_then HL3.out HL3.out.size HLQ.out)
            obtain ⟨Ap, cp, hup, hcp, _⟩ := Kd.R_reads HP3.out
            rw [HML.out] at hup hcp
            subst hup
            clear HQ HLQ HP3 HL3 HT4 x0 x1 x2 x3 x4
            go_wp2_with fail
            refine HJ.out.mono ?_
            rintro e w5 ⟨rfl, hb⟩
            have HP5 := Aside0.mk (Kd.R_below HP4.out hb)
            have HL5 := Aside0.mk (below_then HL4.out HL4.out.size hb)
            have hz5 := HL5.out.size
            have hk16 : ((((l.take k).map chB).map bs).length + 1) * 16 ≤ 140737488355328 := by rw [HML.out]; omega
            clear hb HP4 HL4 HJ
            go_wp2_with (at_builtin; refine Kd.R_append Kd.string (w0 := w1) w1.heap.size rfl (.tmp 42) (.tmp 45) 55 9 (.string .empty) 16 rfl Tryd.underlying55 infoSt rfl (by decide) (by decide) (.slice Ap k cp) (((l.take k).map chB).map bs) (bs (chB x)) [.string (bs (chB x))] (fun _ => True) (fun _ => False) rfl rfl rfl (fun _ h => h.elim) (fun _ _ => trivial) HP5.out HL5.out hz5 hk16 ?_; intro v1 w6 ho hbl hgr hat)
            rw [← HTK.out] at ho
            exact ⟨⟨k + 1, HK1.out, by go_num, ⟨ho⟩, ⟨hbl⟩⟩, by simp [intOf]; have := HMM.out; omega⟩
      · obtain rfl : k = l.length := by omega
        rw [List.take_length] at HP
        have hjl := joinLen [32] 132 (l.map chB) (fun y hy => by
          obtain ⟨z, hz, rfl⟩ := List.mem_map.1 hy
          exact chB_len (HON.out z hz))
        have HJ := Aside0.mk (join_c w1.heap.size (l.map chB) [32] u4 w2 HP.out (by rw [List.length_map]; omega) (by rw [List.length_map]; omega) (by rw [List.length_map] at hjl; simp at hjl; omega))
        have HTB := Aside0.mk (show textB l = Lib.join (l.map chB) [32] by unfold textB; rw [if_neg (fun h => hz (by rw [h]; rfl))])
        clear hjl
        go_wp2_with fail
        refine HJ.out.mono ?_
        rintro e w3 ⟨rfl, hb⟩
        have HL3 := Aside0.mk (below_then HB1.out HB1.out.size (below_then HL.out HL.out.size hb))
        clear hb HJ
        go_wp2
        go_ret2
        exact ⟨by rw [← HTB.out]; rfl, HL3.out⟩
end Go.Proofs.YtpkcnifchggbnaaDoor.HI
