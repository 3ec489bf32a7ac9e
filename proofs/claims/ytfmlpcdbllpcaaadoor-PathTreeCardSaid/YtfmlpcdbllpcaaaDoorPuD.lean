/-
  CONTRACTS BY HAND (paths, 8): a level's step, Steps, Left, Copy: what is answered; what was there stays.
-/
import Derived.Test.YtfmlpcdbllpcaaaDoorPuC
namespace Go.Proofs.YtfmlpcdbllpcaaaDoor.HQ
open Go.Proofs.YtfmlpcdbllpcaaaDoor.HD Go.Proofs.YtfmlpcdbllpcaaaDoor.HU Go.RowKit Go.Proofs.YtfmlpcdbllpcaaaDoor.HK Go.Proofs.YtfmlpcdbllpcaaaDoor.HP Go.Proofs.YtfmlpcdbllpcaaaDoorW.PrintWords Go.Proofs.YtfmlpcdbllpcaaaDoorW.PrintLast Go.Proofs.YtfmlpcdbllpcaaaDoorW.PrintMore
set_option linter.unusedVariables false
set_option linter.unusedSimpArgs false
abbrev Sp := S51
/-- a level's step -/
def stepOf (x : Lv) : Sp := if x.f2 = (x.f0.f2.length : Int) then ⟨true, x.f0.f0, x.f0.f1, z49⟩ else ⟨false, x.f0.f0, x.f0.f1, rd_T49 x.f0.f2 x.f2⟩
def spL (s : Sp) : List Value := [.bool s.f0, .int .i64 s.f1, .int .i64 s.f2, .int .i64 s.f3.f0, .int .i64 s.f3.f1, .int .i64 s.f3.f2, .int .i64 s.f3.f3, .int .i64 s.f3.f4]
set_option maxHeartbeats 2000000 in
theorem step_x (x : Lv) (A : Option Addr) (c : Nat) (w : World) (hr : Kd.C k49 w A x.f0.f2.length x.f0.f2) (hc : x.f0.f2.length ≤ c) (hf : x.f0.f2.length ≤ 1000) (h0 : 0 ≤ x.f2) (h1 : x.f2 ≤ x.f0.f2.length) :
    Calls Tryd.prog 25 #[.agg #[.int .i64 x.f0.f0, .int .i64 x.f0.f1, .slice A x.f0.f2.length c, .bool x.f1, .int .i64 x.f2]] w fun e w' => e = .returned (.agg (spL (stepOf x)).toArray) ∧ Below w.heap.size w w' := by
  by_cases he : x.f2 = (x.f0.f2.length : Int)
  · have hd : (x.f2 == (x.f0.f2.length : Int)) = true := by simpa using he
    have HE := Aside0.mk he
    clear he hr
    go_enter Tryd.func25, Tryd.ntmps25
    go_wp2
    refine bodyPost_ret (results_single rfl (.cell (w.heap.size + 1) 51 _ (0, 0) _ rfl (blk_mid _ _ _ _) Tryd.underlying51 rfl (by kernel_rfl) .nil)) rfl ?_
    exact ⟨by unfold stepOf; rw [if_pos HE.out]; rfl, below_alloc3 _ _ _ _⟩
  · have hd : (x.f2 == (x.f0.f2.length : Int)) = false := by simpa using he
    have HE := Aside0.mk he
    have hlt : x.f2 < x.f0.f2.length := by omega
    obtain ⟨ad, rfl, g0, g1, g2, g3, g4⟩ := at_T49 hr x.f2 h0 (by omega)
    have g0 := cell_alloc3 g0
    have g1 := cell_alloc3 g1
    have g2 := cell_alloc3 g2
    have g3 := cell_alloc3 g3
    have g4 := cell_alloc3 g4
    clear he hr h1
    go_enter Tryd.func25, Tryd.ntmps25
    go_wp2
    refine bodyPost_ret (results_single rfl (.cell (w.heap.size + 1) 51 _ (0, 0) _ rfl (blk_mid _ _ _ _) Tryd.underlying51 rfl (by kernel_rfl) .nil)) rfl ?_
    exact ⟨by unfold stepOf; rw [if_neg HE.out]; rfl, below_alloc3 _ _ _ _⟩
/-- how many steps are left -/
def leftI : List Lv → Int
  | [] => 0
  | x :: t => (manyI x - x.f2 - 1) + leftI t
theorem leftI_append (a b : List Lv) : leftI (a ++ b) = leftI a + leftI b := by
  induction a with
  | nil => simp [leftI]
  | cons x t ih => simp only [List.cons_append, leftI, ih]; omega
theorem leftI_bd {l : List Lv} (h : ∀ x ∈ l, Fit x) : 0 ≤ leftI l ∧ leftI l ≤ 1001 * l.length := by
  induction l with
  | nil => simp [leftI]
  | cons x t ih =>
    have h1 := ih (fun y hy => h y (by simp [hy]))
    have h2 := many_of (h x (by simp))
    have h3 := (h x (by simp)).2.1
    simp only [leftI, List.length_cons]
    omega
theorem take_snoc {α : Type} {l : List α} {i : Nat} {x : α} (h : l[i]? = some x) : l.take (i + 1) = l.take i ++ [x] := by
  obtain ⟨hi, rfl⟩ := List.getElem?_eq_some_iff.1 h
  exact List.take_succ_eq_append_getElem hi
set_option maxHeartbeats 2000000 in
theorem left_ok (base : Nat) (ok : Nat → Prop) (g : Nat) (v : Value) (ls : List Lv) (w : World) (h : Sq w base ok g v ls) (hf : ∀ x ∈ ls, Fit x) (hn : ls.length ≤ 2000) :
    Calls Tryd.prog 21 #[.pointer (some ⟨g, 0, none⟩)] w fun e w' => e = .returned (.int .i64 (leftI ls)) ∧ Below w.heap.size w w' := by
  have HS := Aside0.mk h
  have HF := Aside0.mk hf
  clear h hf
  go_enter Tryd.func21, Tryd.ntmps21
  go_wp2_with fail
  refine (depth_calls base ok g v ls w HS.out).mono ?_
  rintro e w1 ⟨rfl, rfl⟩
  go_wp2
  go_loopw [3, 7] (fun v3 v7 wr => ∃ i : Nat, i ≤ ls.length ∧ v3 = .int .i64 (leftI (ls.take i)) ∧ v7 = .int .i64 i ∧ Aside0 (Below w.heap.size w wr)) (fun _ v7 _ => ls.length - (intOf v7).toNat)
  case atStart => exact ⟨0, by omega, by rfl, rfl, ⟨Below.refl _ _⟩⟩
  case round =>
    obtain ⟨i, hi, rfl, rfl, HB⟩ := hrel
    by_cases hlt : i < ls.length
    · obtain ⟨x, hx⟩ : ∃ x, ls[i]? = some x := ⟨ls[i], by simp [hlt]⟩
      have HFx := HF.out x (List.mem_of_getElem? hx)
      have HT := Aside0.mk (take_snoc hx)
      have hbd := leftI_bd (l := ls.take i) (fun y hy => HF.out y (List.mem_of_mem_take hy))
      have hlen : (ls.take i).length ≤ 2000 := by rw [List.length_take]; omega
      obtain ⟨q0, q1, q2, q3, q4⟩ := many_of HFx
      have q5 := HFx.2.1
      obtain ⟨b, o, cap, hv'⟩ := HS.out.form (by omega)
      subst hv'
      have HS1 := Aside0.mk (HS.out.below HB.out)
      obtain ⟨A, c, hbb, hblt, hbg, hn1, hcap, c0, c1, c2, c3, c4, f4, hlc, hC, hset⟩ := Sq_lev HS1.out i x hx
      have hg1 : wr.cell? ⟨g, 1, none⟩ = some (.slice (some ⟨b, o, none⟩) ls.length cap) := (blk_cell HS1.out.blk 1).trans rfl
      have HC := Aside0.mk hC
      clear hset hC f4 hn1 HFx hx hbg
      obtain ⟨L, hL⟩ : ∃ L, leftI (ls.take i) = L := ⟨_, rfl⟩
      have HL := Aside0.mk hL
      rw [hL] at hbd ⊢
      clear hL
      have hL0 : 0 ≤ L := hbd.1
      have hL1 : L ≤ 2002000 := by omega
      have hl8 := Int.toNat_natCast i
      clear hbd hlen
      go_wp2_with fail
      go_region_held3 (fun W => W.cell? ⟨g, 1, none⟩ = some (.slice (some ⟨b, o, none⟩) ls.length cap) ∧ W.cell? ⟨b, o + i * 5, none⟩ = some (.int .i64 x.f0.f0) ∧ W.cell? ⟨b, o + i * 5 + 1, none⟩ = some (.int .i64 x.f0.f1) ∧ W.cell? ⟨b, o + i * 5 + 2, none⟩ = some (.slice A x.f0.f2.length c) ∧ W.cell? ⟨b, o + i * 5 + 3, none⟩ = some (.bool x.f1) ∧ W.cell? ⟨b, o + i * 5 + 4, none⟩ = some (.int .i64 x.f2))
        (first | go_keep | (refine ⟨?_, ?_, ?_, ?_, ?_, ?_⟩ <;> with_reducible exact keep_call hb (by assumption)))
        (first | (go_at_call 28; refine (many_x x _ A c _ (Kd.C_below HC.out (below_drew (Below.refl _ _))) hlc q4).mono ?_; rintro e w' ⟨rfl, hb⟩))
      have hb := below_of_drew hb
      have HB3 := Aside0.mk (below_then HB.out HB.out.size hb)
      go_wp2
      go_roundw
      case rel =>
        have he : leftI (ls.take (i + 1)) = L + (manyI x - x.f2 - 1) := by rw [HT.out, leftI_append, HL.out]; simp [leftI]
        exact ⟨i + 1, by omega, by rw [he, i64w (x := manyI x - x.f2) (by omega) (by omega), i64w (x := manyI x - x.f2 - 1) (by omega) (by omega), i64w (by omega) (by omega)], by go_num, HB3⟩
      case measure => simp [intOf]; omega
    · obtain rfl : i = ls.length := by omega
      go_wp2
      go_ret
      exact ⟨ret_int (by rw [List.take_length]), HB.out⟩
end Go.Proofs.YtfmlpcdbllpcaaaDoor.HQ
