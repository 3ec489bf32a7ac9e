/-
  CONTRACTS BY HAND (sign, 2): At, Within: what is answered; nothing that was there is changed.
-/
import Derived.Test.YtpkcnifchggbnaaSgA
import Derived.Test.YtpkcnifchggbnaaQsbasex3
import Derived.Test.YtpkcnifchggbnaaQsbasex4
import Derived.Test.YtpkcnifchggbnaaQsbasex2
namespace Go.Proofs.Ytpkcnifchggbnaa.HD
open Go.RowKit Go.Proofs.Ytpkcnifchggbnaa.HK Go.Proofs.YtpkcnifchggbnaaW.PrintWords Go.Proofs.YtpkcnifchggbnaaW.PrintLast Go.Proofs.YtpkcnifchggbnaaW.PrintMore
set_option linter.unusedVariables false
set_option linter.unusedSimpArgs false

/-- is a choice at a point? -/
def isAt (rank call : Int) (x : S24) : Bool := (x.f0 == rank) && (x.f1 == call)
set_option maxHeartbeats 1000000 in
theorem at1_calls (b0 b1 : Nat) (rank call : Int) (x : S24) (W : World) (h0 : W.cell? ⟨b0, 0, none⟩ = some (.int .i64 rank)) (h1 : W.cell? ⟨b1, 0, none⟩ = some (.int .i64 call)) :
    Calls Try.prog 20 #[.agg #[.int .i64 x.f0, .int .i64 x.f1, .int .i64 x.f2, .int .i64 x.f3, .int .i64 x.f4], .pointer (some ⟨b0, 0, none⟩), .pointer (some ⟨b1, 0, none⟩)] W fun e w' =>
      e = .returned (.bool (isAt rank call x)) ∧ Below W.heap.size W w' := by
  have g0 := pw_cell_below (below_alloc (Below.refl W.heap.size W) (.cells #[.int .i64 x.f0, .int .i64 x.f1, .int .i64 x.f2, .int .i64 x.f3, .int .i64 x.f4] 24)) h0
  have g1 := pw_cell_below (below_alloc (Below.refl W.heap.size W) (.cells #[.int .i64 x.f0, .int .i64 x.f1, .int .i64 x.f2, .int .i64 x.f3, .int .i64 x.f4] 24)) h1
  clear h0 h1
  by_cases hr : x.f0 = rank
  · have hd : (x.f0 == rank) = true := by simpa using hr
    have HE := Aside0.mk hd
    clear hr
    go_enter Try.func20, Try.ntmps20
    go_wp2
    go_ret
    exact ⟨ret_bool (by unfold isAt; rw [HE.out]; rfl), below_alloc (Below.refl _ _) _⟩
  · have hd : (x.f0 == rank) = false := by simpa using hr
    have HE := Aside0.mk hd
    clear hr
    go_enter Try.func20, Try.ntmps20
    go_wp2
    go_ret
    exact ⟨ret_bool (by unfold isAt; rw [HE.out]; rfl), below_alloc (Below.refl _ _) _⟩

/-- a struct of five cells, stored -/
theorem blk5 {w : World} {g : Nat} {T : TypeId} {a b c d e v0 v1 v2 v3 v4 : Value} (h : w.heap[g]? = some (.cells #[a, b, c, d, e] T (0, 0))) :
    (((((w.setCell ⟨g, 0, none⟩ v0).setCell ⟨g, 1, none⟩ v1).setCell ⟨g, 2, none⟩ v2).setCell ⟨g, 3, none⟩ v3).setCell ⟨g, 4, none⟩ v4).heap[g]? = some (.cells #[v0, v1, v2, v3, v4] T (0, 0)) :=
  blk_put (cs := #[v0, v1, v2, v3, e]) (blk_put (cs := #[v0, v1, v2, d, e]) (blk_put (cs := #[v0, v1, c, d, e]) (blk_put (cs := #[v0, b, c, d, e]) (blk_put (cs := #[a, b, c, d, e]) h 0 _ rfl) 1 _ rfl) 2 _ rfl) 3 _ rfl) 4 _ rfl
theorem below5 {B : Nat} {w0 w : World} {g : Nat} (h : Below B w0 w) (hg : B ≤ g) (v0 v1 v2 v3 v4 : Value) : Below B w0 (((((w.setCell ⟨g, 0, none⟩ v0).setCell ⟨g, 1, none⟩ v1).setCell ⟨g, 2, none⟩ v2).setCell ⟨g, 3, none⟩ v3).setCell ⟨g, 4, none⟩ v4) :=
  ((((h.setCell (p := ⟨g, 0, none⟩) hg _).setCell (p := ⟨g, 1, none⟩) hg _).setCell (p := ⟨g, 2, none⟩) hg _).setCell (p := ⟨g, 3, none⟩) hg _).setCell (p := ⟨g, 4, none⟩) hg _

/-- the choice at a point, and whether there is one -/
def atF (l : List S24) (rank call : Int) : S24 × Bool := if idxF (isAt rank call) l 0 < 0 then (z24, false) else (rd_T24 l (idxF (isAt rank call) l 0), true)
def sign_At.f (l : List S24) (rank call : Int) : Option (Int × Int × Int × Int × Int × Bool) :=
  some ((atF l rank call).1.f0, (atF l rank call).1.f1, (atF l rank call).1.f2, (atF l rank call).1.f3, (atF l rank call).1.f4, (atF l rank call).2)
set_option maxHeartbeats 1000000 in
theorem at_calls (A : Option Addr) (c : Nat) (l : List S24) (rank call : Int) (w : World) (hr : Kd.C k24 w A l.length l) (hc : l.length ≤ c) :
    Calls Try.prog 5 #[.slice A l.length c, .int .i64 rank, .int .i64 call] w fun e w' => e = .returned (.tuple #[.agg #[.int .i64 (atF l rank call).1.f0, .int .i64 (atF l rank call).1.f1, .int .i64 (atF l rank call).1.f2, .int .i64 (atF l rank call).1.f3, .int .i64 (atF l rank call).1.f4], .bool (atF l rank call).2]) ∧ Below w.heap.size w w' := by
  have HR := Aside0.mk hr
  clear hr
  go_enter Try.func5, Try.ntmps5
  go_wp2_with fail
  have e1 : (w.alloc (.cells #[.int .i64 rank] 3)).heap.size = w.heap.size + 1 := by simp
  have e2 : ((w.alloc (.cells #[.int .i64 rank] 3)).alloc (.cells #[.int .i64 call] 3)).heap.size = w.heap.size + 1 + 1 := by simp
  have b1 := blk_new w (.cells #[.int .i64 rank] 3)
  have b2 := blk_new (w.alloc (.cells #[.int .i64 rank] 3)) (.cells #[.int .i64 call] 3)
  have b3 := blk_new ((w.alloc (.cells #[.int .i64 rank] 3)).alloc (.cells #[.int .i64 call] 3)) (.cells #[.int .i64 0, .int .i64 0, .int .i64 0, .int .i64 0, .int .i64 0] 24)
  rw [e1] at b2
  rw [e2] at b3
  have b1 := blk_alloc (blk_alloc b1 (.cells #[.int .i64 call] 3)) (.cells #[.int .i64 0, .int .i64 0, .int .i64 0, .int .i64 0, .int .i64 0] 24)
  have b2 := blk_alloc b2 (.cells #[.int .i64 0, .int .i64 0, .int .i64 0, .int .i64 0, .int .i64 0] 24)
  have hb := below_alloc (below_alloc (below_alloc (Below.refl w.heap.size w) (.cells #[.int .i64 rank] 3)) (.cells #[.int .i64 call] 3)) (.cells #[.int .i64 0, .int .i64 0, .int .i64 0, .int .i64 0, .int .i64 0] 24)
  generalize ((w.alloc (.cells #[.int .i64 rank] 3)).alloc (.cells #[.int .i64 call] 3)).alloc (.cells #[.int .i64 0, .int .i64 0, .int .i64 0, .int .i64 0, .int .i64 0] 24) = W3 at b1 b2 b3 hb ⊢
  clear e1 e2
  refine (index_At w.heap.size (w.heap.size + 1) (isAt rank call) W3 (fun x W hW => at1_calls _ _ rank call x W ((blk_cell (blk_below b1 hW) 0).trans rfl) ((blk_cell (blk_below b2 hW) 0).trans rfl)) A c l W3 (Below.refl _ _) (Kd.C_below HR.out hb) hc).mono ?_
  rintro e w1 ⟨rfl, hb1⟩
  have HB := Aside0.mk (below_then hb hb.size hb1)
  have HZ := Aside0.mk (blk_below b3 hb1)
  clear b1 b2 b3 hb hb1
  have hle := idxF_le (isAt rank call) l 0 (by omega)
  by_cases hi : idxF (isAt rank call) l 0 < 0
  · have hd : decide (idxF (isAt rank call) l 0 < 0) = true := by simpa using hi
    have c0 := (blk_cell HZ.out 0).trans rfl
    have c1 := (blk_cell HZ.out 1).trans rfl
    have c2 := (blk_cell HZ.out 2).trans rfl
    have c3 := (blk_cell HZ.out 3).trans rfl
    have c4 := (blk_cell HZ.out 4).trans rfl
    have f0 := blk_frozen HZ.out 0
    have f1 := blk_frozen HZ.out 1
    have f2 := blk_frozen HZ.out 2
    have f3 := blk_frozen HZ.out 3
    have f4 := blk_frozen HZ.out 4
    go_wp2
    refine bodyPost_ret (results_ct rfl _ _ (w.heap.size + 1 + 1) 24 #[.int .i64 0, .int .i64 0, .int .i64 0, .int .i64 0, .int .i64 0] (0, 0) _ rfl (blk5 HZ.out) Try.underlying24 rfl (by kernel_rfl)) rfl ?_
    refine ⟨?_, below5 HB.out (by omega) _ _ _ _ _⟩
    unfold atF
    rw [if_pos hi]
    rfl
  · have hd : decide (idxF (isAt rank call) l 0 < 0) = false := by simpa using hi
    obtain ⟨n, hn⟩ : ∃ n : Nat, idxF (isAt rank call) l 0 = (n : Int) := ⟨_, (Int.toNat_of_nonneg (by omega)).symm⟩
    have hat : atF l rank call = (rd_T24 l (n : Int), true) := by unfold atF; rw [if_neg hi, hn]
    have HAT := Aside0.mk hat
    clear hat
    rw [hn] at hd hle ⊢
    have hm := Kd.C_max HR.out
    obtain ⟨ad, rfl, h0, h1, h2, h3, h4⟩ := at_T24 (Kd.C_below HR.out HB.out) n (by omega) (by omega)
    rw [Int.toNat_natCast] at h0 h1 h2 h3 h4
    have c0 := (blk_cell HZ.out 0).trans rfl
    have c1 := (blk_cell HZ.out 1).trans rfl
    have c2 := (blk_cell HZ.out 2).trans rfl
    have c3 := (blk_cell HZ.out 3).trans rfl
    have c4 := (blk_cell HZ.out 4).trans rfl
    have f0 := blk_frozen HZ.out 0
    have f1 := blk_frozen HZ.out 1
    have f2 := blk_frozen HZ.out 2
    have f3 := blk_frozen HZ.out 3
    have f4 := blk_frozen HZ.out 4
    go_wp2
    refine bodyPost_ret (results_ct rfl _ _ (w.heap.size + 1 + 1) 24 #[.int .i64 (rd_T24 l (n : Int)).f0, .int .i64 (rd_T24 l (n : Int)).f1, .int .i64 (rd_T24 l (n : Int)).f2, .int .i64 (rd_T24 l (n : Int)).f3, .int .i64 (rd_T24 l (n : Int)).f4] (0, 0) _ rfl (blk5 HZ.out) Try.underlying24 rfl (by kernel_rfl)) rfl ?_
    refine ⟨?_, below5 HB.out (by omega) _ _ _ _ _⟩
    rw [HAT.out]
    rfl
end Go.Proofs.Ytpkcnifchggbnaa.HD
