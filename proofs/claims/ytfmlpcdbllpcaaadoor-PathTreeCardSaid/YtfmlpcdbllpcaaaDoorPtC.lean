/-
  CONTRACTS BY HAND (paths, 3): the methods of a stack that nobody made; Push where it takes nothing: what is answered; nothing that was there is changed.
-/
import Derived.Test.YtfmlpcdbllpcaaaDoorPtB
import Derived.WalkMore
namespace Go.Proofs.YtfmlpcdbllpcaaaDoor.HD
open Go.RowKit Go.Proofs.YtfmlpcdbllpcaaaDoor.HK Go.Proofs.YtfmlpcdbllpcaaaDoor.HP Go.Proofs.YtfmlpcdbllpcaaaDoorW.PrintWords Go.Proofs.YtfmlpcdbllpcaaaDoorW.PrintLast Go.Proofs.YtfmlpcdbllpcaaaDoorW.PrintMore
set_option linter.unusedVariables false
set_option linter.unusedSimpArgs false
theorem below_alloc0 (w : World) (o : Obj) : Below w.heap.size w (w.alloc o) := below_alloc (Below.refl _ _) o
/-- no stack, or one that nobody made -/
def NoSt (W : World) (v : Value) : Prop := v = .pointer none ∨ ∃ b, v = .pointer (some ⟨b, 0, none⟩) ∧ W.cell? ⟨b, 0, none⟩ = some (.bool false) ∧ W.cell? ⟨b, 1, none⟩ = some (.slice none 0 0)
theorem NoSt.below {w w' : World} {v : Value} (h : NoSt w v) (b : Below w.heap.size w w') : NoSt w' v := by
  rcases h with rfl | ⟨b', rfl, h, h'⟩
  · exact .inl rfl
  · exact .inr ⟨b', rfl, pw_cell_below b h, pw_cell_below b h'⟩
theorem NoSt.drew {w : World} {v : Value} (h : NoSt w v) : NoSt w.drew v := h
theorem push_no (v : Value) (r q : Int) (A : Option Addr) (n c : Nat) (off : Bool) (w : World) (h : NoSt w v) :
    Calls Tryd.prog 14 #[v, .agg #[.int .i64 r, .int .i64 q, .slice A n c], .bool off] w fun e w' => e = .returned (.int .i64 1) ∧ Below w.heap.size w w' := by
  have h := h.below (below_alloc0 w (.cells #[.int .i64 r, .int .i64 q, .slice A n c] 38))
  rcases h with rfl | ⟨b, rfl, h0, h1⟩
  · go_enter Tryd.func14, Tryd.ntmps14
    go_wp2
    go_ret
    exact ⟨rfl, below_alloc0 _ _⟩
  · go_enter Tryd.func14, Tryd.ntmps14
    go_wp2
    go_ret
    exact ⟨rfl, below_alloc0 _ _⟩
theorem depth_no (v : Value) (w : World) (h : NoSt w v) : Calls Tryd.prog 16 #[v] w fun e w' => e = .returned (.int .i64 0) ∧ w = w' := by
  rcases h with rfl | ⟨b, rfl, h0, h1⟩
  · go_enter Tryd.func16, Tryd.ntmps16
    go_wp2
    go_ret
    exact ⟨rfl, rfl⟩
  · go_enter Tryd.func16, Tryd.ntmps16
    go_wp2
    go_ret
    exact ⟨rfl, rfl⟩
theorem left_no (v : Value) (w : World) (h : NoSt w v) : Calls Tryd.prog 21 #[v] w fun e w' => e = .returned (.int .i64 0) ∧ w = w' := by
  go_enter Tryd.func21, Tryd.ntmps21
  go_wp2_with fail
  refine (depth_no v w h).mono ?_
  rintro e w1 ⟨rfl, rfl⟩
  go_wp2
  go_loop [3, 7] (fun v3 v7 => v3 = .int .i64 0 ∧ v7 = .int .i64 0) (fun _ _ => 0)
  case atStart => exact ⟨rfl, rfl⟩
  case round =>
    obtain ⟨rfl, rfl⟩ := hrel
    go_wp2
    go_ret
    exact ⟨rfl, rfl⟩
theorem steps_no (v : Value) (w : World) (h : NoSt w v) : Calls Tryd.prog 13 #[v] w fun e w' => e = .returned (.slice none 0 0) ∧ w = w' := by
  go_enter Tryd.func13, Tryd.ntmps13
  go_wp2_with fail
  refine (depth_no v w h).mono ?_
  rintro e w1 ⟨rfl, rfl⟩
  go_wp2
  go_loop [3, 8] (fun v3 v8 => v3 = .slice none 0 0 ∧ v8 = .int .i64 0) (fun _ _ => 0)
  case atStart => exact ⟨rfl, rfl⟩
  case round =>
    obtain ⟨rfl, rfl⟩ := hrel
    go_wp2
    go_ret
    exact ⟨rfl, rfl⟩
theorem next_no (v : Value) (w : World) (h : NoSt w v) : Calls Tryd.prog 18 #[v] w fun e w' => e = .returned (.bool false) ∧ w = w' := by
  go_enter Tryd.func18, Tryd.ntmps18
  go_wp2_with fail
  go_step3
  go_wp2_with fail
  go_step3
  go_wp2_with fail
  go_loop [3] (fun _ => True) (fun _ => 0)
  case atStart => trivial
  case round =>
    go_wp2_with fail
    refine (depth_no v w h).mono ?_
    rintro e w1 ⟨rfl, rfl⟩
    go_wp2_with fail
    refine (depth_no v w h).mono ?_
    rintro e w1 ⟨rfl, rfl⟩
    go_wp2
    try rw [Exit.noGoto_ret]
    go_ret
    exact ⟨rfl, rfl⟩
theorem push_full (base : Nat) (ok : Nat → Prop) (g : Nat) (v : Value) (ls : List Lv) (r q : Int) (A : Option Addr) (c : Nat) (l : List Ch) (off : Bool) (w : World) (h : St w base ok g v ls)
    (hr : Kd.C k49 w A l.length l) (hc : l.length ≤ c) (hm : mayP r q l = true) (hn : ls.length = 2000) :
    Calls Tryd.prog 14 #[.pointer (some ⟨g, 0, none⟩), .agg #[.int .i64 r, .int .i64 q, .slice A l.length c], .bool off] w fun e w' => e = .returned (.int .i64 4) ∧ Below w.heap.size w w' := by
  have hg0 := (blk_cell h.blk 0).trans rfl
  have HR := Aside0.mk hr
  have HS := Aside0.mk h
  obtain ⟨Av, cv, hve, hlv, hrv⟩ := Kd.R_reads h.row
  have HV := Aside0.mk hve
  have hgl := blk_lt h.blk
  have hg1 := (blk_cell h.blk 1).trans rfl
  clear hr h hve hrv
  go_enter Tryd.func14, Tryd.ntmps14
  go_wp2_with fail
  have hb1 := below_alloc (Below.refl w.heap.size w) (.cells #[.int .i64 r, .int .i64 q, .slice A l.length c] 38)
  refine (may_c r q A c l _ (Kd.C_below HR.out hb1) hc).mono ?_
  rintro e w1 ⟨rfl, hbx⟩
  have HB := Aside0.mk (below_then hb1 hb1.size hbx)
  have hg0 := pw_cell_below HB.out hg0
  have hg1 := pw_cell_below HB.out hg1
  clear hb1 hbx
  rw [hm]
  have hlen : ((ls.length : Int) == 2000) = true := by simp; omega
  rw [HV.out] at hg1
  go_wp2
  go_ret
  exact ⟨rfl, HB.out⟩
end Go.Proofs.YtfmlpcdbllpcaaaDoor.HD
