/-
  CONTRACTS BY HAND (paths, 17): the program's stack and the document's, side by side: what is done to one leaves the other. No program is walked here but Push where it takes nothing.
-/
import Derived.Test.YtfmlpcdbllpcaaaRfE
import Derived.Test.YtfmlpcdbllpcaaaPuE
import Derived.Test.YtfmlpcdbllpcaaaPuF
namespace Go.Proofs.Ytfmlpcdbllpcaaa.HQ
open Go.Proofs.Ytfmlpcdbllpcaaa.HD Go.Proofs.Ytfmlpcdbllpcaaa.HU Go.RowKit Go.Proofs.Ytfmlpcdbllpcaaa.HK Go.Proofs.Ytfmlpcdbllpcaaa.HP Go.Proofs.YtfmlpcdbllpcaaaW.PrintWords Go.Proofs.YtfmlpcdbllpcaaaW.PrintLast Go.Proofs.YtfmlpcdbllpcaaaW.PrintMore
set_option linter.unusedVariables false
set_option linter.unusedSimpArgs false
theorem push_bad (base : Nat) (ok : Nat → Prop) (g : Nat) (v : Value) (ls : List Lv) (r q : Int) (A : Option Addr) (c : Nat) (l : List Ch) (off : Bool) (w : World) (h : Sq w base ok g v ls)
    (hr : Kd.C k43 w A l.length l) (hc : l.length ≤ c) (hm : mayP r q l = false) :
    Calls Try.prog 7 #[.pointer (some ⟨g, 0, none⟩), .agg #[.int .i64 r, .int .i64 q, .slice A l.length c], .bool off] w fun e w' => e = .returned (.int .i64 2) ∧ Below w.heap.size w w' := by
  have hg0 : w.cell? ⟨g, 0, none⟩ = some (.bool true) := (blk_cell h.blk 0).trans rfl
  have HR := Aside0.mk hr
  have hgl := blk_lt h.blk
  clear hr h
  go_enter Try.func7, Try.ntmps7
  go_wp2_with fail
  have hb1 := below_alloc (Below.refl w.heap.size w) (.cells #[.int .i64 r, .int .i64 q, .slice A l.length c] 34)
  refine (may_c r q A c l _ (Kd.C_below HR.out hb1) hc).mono ?_
  rintro e w1 ⟨rfl, hbx⟩
  have HB := Aside0.mk (below_then hb1 hb1.size hbx)
  clear hb1 hbx
  rw [hm]
  go_wp2
  go_ret
  exact ⟨rfl, HB.out⟩
theorem mayP_pos {r q : Int} {l : List Ch} (h : mayP r q l = true) : 0 < l.length := by
  unfold mayP at h
  simp only [Bool.and_eq_true, decide_eq_true_eq] at h
  exact h.2
theorem fit_new {r q : Int} {l : List Ch} {off : Bool} (h : mayP r q l = true) (hl : l.length ≤ 1000) : Fit (⟨⟨r, q, l⟩, off, 0⟩ : Lv) := by
  have := mayP_pos h
  refine ⟨Int.le_refl _, ?_, hl⟩
  unfold manyI
  show (0 : Int) < _
  split
  · show (0 : Int) < (l.length : Int) + 1
    omega
  · show (0 : Int) < (l.length : Int)
    omega
theorem nextR_le : ∀ (l : List Lv), (nextR l).length ≤ l.length
  | [] => Nat.le_refl _
  | x :: t => by
    unfold nextR
    split
    · simp
    · have := nextR_le t
      simp only [List.length_cons]
      omega
theorem nextF_le (l : List Lv) : (nextF l).length ≤ l.length := by
  unfold nextF
  have := nextR_le l.reverse
  rw [List.length_reverse] at this ⊢
  exact this
theorem nextR_fit : ∀ (l : List Lv), (∀ x ∈ l, Fit x) → ∀ x ∈ nextR l, Fit x
  | [], h => h
  | x :: t, h => by
    unfold nextR
    split
    · rename_i hlt
      intro y hy
      rcases List.mem_cons.1 hy with rfl | hy
      · obtain ⟨h0, h1, h2⟩ := h x (by simp)
        refine ⟨?_, hlt, h2⟩
        show 0 ≤ x.f2 + 1
        omega
      · exact h y (by simp [hy])
    · exact nextR_fit t (fun y hy => h y (by simp [hy]))
theorem nextF_fit {l : List Lv} (h : ∀ x ∈ l, Fit x) : ∀ x ∈ nextF l, Fit x := by
  intro x hx
  unfold nextF at hx
  exact nextR_fit l.reverse (fun y hy => h y (by simpa using hy)) x (by simpa using hx)
/-- the blocks that the program's stack writes -/
def WrS (g : Nat) (v : Value) (k : Nat) : Prop := k = g ∨ some k = v.ownBlock
section
variable {w W W' : World} {base : Nat} {ok ok' : Nat → Prop} {g g2 : Nat} {v vp vo va : Value} {ls ls2 : List Lv}
theorem Sq.mono (h : Sq W base ok g v ls) (hok : ∀ k, ok k → ok' k) : Sq W base ok' g v ls := ⟨h.blk, h.hg, Kd.Q_mono h.row hok⟩
theorem Rf.mono (h : Rf W base ok g vp vo va ls) (hok : ∀ k, ok k → ok' k) : Rf W base ok' g vp vo va ls := ⟨h.blk, h.hg, Kd.Q_mono h.rp hok, Kd.Q_mono h.ro hok, Kd.Q_mono h.ra hok⟩
theorem Sq.bound (h : Sq W base ok g v ls) : Sq W base (fun k => ok k ∧ k < W.heap.size) g v ls := ⟨h.blk, h.hg, Kd.Q_mono (Kd.Q_bound h.row) (fun k hk => ⟨hk.1, hk.2.2.1⟩)⟩
theorem Rf.bound (h : Rf W base ok g vp vo va ls) : Rf W base (fun k => ok k ∧ k < W.heap.size) g vp vo va ls := ⟨h.blk, h.hg, Kd.Q_mono (Kd.Q_bound h.rp) (fun k hk => ⟨hk.1, hk.2.2.1⟩), Kd.Q_mono (Kd.Q_bound h.ro) (fun k hk => ⟨hk.1, hk.2.2.1⟩), Kd.Q_mono (Kd.Q_bound h.ra) (fun k hk => ⟨hk.1, hk.2.2.1⟩)⟩
/-- the program's stack is written: a row of other types stays -/
theorem q_keep_s {α : Type} {d : Kd α} {e base2 : Nat} {u : Value} {xs : List α} (h : d.Q e W base2 ok u xs) (hs : Sq W base ok' g v ls) (h1 : ∀ q, q ∈ e :: d.E → q ≠ 52) (h2 : ∀ q, q ∈ e :: d.E → q ≠ 58) (hk : Kept W W' (WrS g v)) : d.Q e W' base2 ok u xs :=
  Kd.Q_mono (Kd.Q_kept (Kd.Q_types (Kd.Q_apart' h (Kd.Q_typed hs.row) h2) hs.blk h1) hk (fun k hk hw => hw.elim hk.2 hk.1.2)) (fun _ hk => hk.1.1)
theorem blk_keep_s {t : Nat} {cells : Array Value} {b : Nat} (hb : W.heap[b]? = some (.cells cells t (0, 0))) (hs : Sq W base ok' g v ls) (h1 : t ≠ 52) (h2 : t ≠ 58) (hk : Kept W W' (WrS g v)) : W'.heap[b]? = some (.cells cells t (0, 0)) := by
  refine blk_kept hb hk (fun hw => ?_)
  rcases hw with rfl | hw
  · have := hs.blk
    rw [hb] at this
    injection this with this
    injection this with _ h
    exact h1 h
  · obtain ⟨c2, hc⟩ := Kd.Q_typed hs.row b hw.symm
    rw [hb] at hc
    injection hc with hc
    injection hc with _ h
    exact h2 h
theorem Rf.keep_s (h : Rf W base ok g2 vp vo va ls2) (hs : Sq W base ok' g v ls) (hk : Kept W W' (WrS g v)) : Rf W' base ok g2 vp vo va ls2 :=
  ⟨blk_keep_s h.blk hs (by decide) (by decide) hk, h.hg, q_keep_s h.rp hs (by decide) (by decide) hk, q_keep_s h.ro hs (by decide) (by decide) hk, q_keep_s h.ra hs (by decide) (by decide) hk⟩
/-- the document's stack is written: a row of other types stays -/
theorem q_keep_r {α : Type} {d : Kd α} {e base2 : Nat} {u : Value} {xs : List α} (h : d.Q e W base2 ok u xs) (hs : Rf W base ok' g2 vp vo va ls2) (h1 : ∀ q, q ∈ e :: d.E → q ≠ 31) (h2 : ∀ q, q ∈ e :: d.E → q ≠ 34) (h3 : ∀ q, q ∈ e :: d.E → q ≠ 4) (h4 : ∀ q, q ∈ e :: d.E → q ≠ 3) (hk : Kept W W' (WrR g2 vp vo va)) : d.Q e W' base2 ok u xs :=
  Kd.Q_mono (Kd.Q_kept (Kd.Q_types (Kd.Q_apart' (Kd.Q_apart' (Kd.Q_apart' h (Kd.Q_typed hs.rp) h2) (Kd.Q_typed hs.ro) h3) (Kd.Q_typed hs.ra) h4) hs.blk h1) hk
    (fun k hk hw => hw.elim hk.2 (fun hw => hw.elim hk.1.1.1.2 (fun hw => hw.elim hk.1.1.2 hk.1.2)))) (fun _ hk => hk.1.1.1.1)
theorem blk_keep_r {t : Nat} {cells : Array Value} {b : Nat} (hb : W.heap[b]? = some (.cells cells t (0, 0))) (hs : Rf W base ok' g2 vp vo va ls2) (h1 : t ≠ 31) (h2 : t ≠ 34) (h3 : t ≠ 4) (h4 : t ≠ 3) (hk : Kept W W' (WrR g2 vp vo va)) : W'.heap[b]? = some (.cells cells t (0, 0)) := by
  have no : ∀ {b2 t2 : Nat} {c2 : Array Value}, W.heap[b2]? = some (.cells c2 t2 (0, 0)) → b = b2 → t = t2 := by
    rintro b2 t2 c2 hc rfl
    rw [hb] at hc
    injection hc with hc
    injection hc with _ h
  refine blk_kept hb hk (fun hw => ?_)
  rcases hw with hw | hw | hw | hw
  · exact h1 (no hs.blk hw)
  · obtain ⟨c2, hc⟩ := Kd.Q_typed hs.rp b hw.symm
    exact h2 (no hc rfl)
  · obtain ⟨c2, hc⟩ := Kd.Q_typed hs.ro b hw.symm
    exact h3 (no hc rfl)
  · obtain ⟨c2, hc⟩ := Kd.Q_typed hs.ra b hw.symm
    exact h4 (no hc rfl)
theorem Sq.keep_r (h : Sq W base ok g v ls) (hs : Rf W base ok' g2 vp vo va ls2) (hk : Kept W W' (WrR g2 vp vo va)) : Sq W' base ok g v ls :=
  ⟨blk_keep_r h.blk hs (by decide) (by decide) (by decide) (by decide) hk, h.hg, q_keep_r h.row hs (by decide) (by decide) (by decide) (by decide) hk⟩
/-- the elder stack is written: its copy stays -/
theorem Sq.keep_old {g' n : Nat} {v' v2 : Value} (h : Sq W base (okC ok v n) g' v' ls2) (hs : Sq W base ok' g v2 ls) (hgn : g < n) (hvn : ∀ k, v.ownBlock = some k → k < n) (hg' : n ≤ g') (hk : Kept W W' (WrS g v)) : Sq W' base (okC ok v n) g' v' ls2 := by
  refine ⟨blk_kept h.blk hk (fun hw => ?_), h.hg, Kd.Q_mono (Kd.Q_kept (Kd.Q_types h.row hs.blk (by decide)) hk (fun k hk hw => ?_)) (fun _ hk => hk.1)⟩
  · rcases hw with rfl | hw
    · omega
    · have := hvn g' hw.symm
      omega
  · rcases hw with rfl | hw
    · exact hk.2 rfl
    · rcases hk.1 with h1 | h1
      · exact h1.2 hw
      · have := hvn k hw.symm
        omega
/-- a row of whatever kind, apart from what is written -/
theorem Sq.keep_set {S : Nat → Prop} (h : Sq W base ok g v ls) (hk : Kept W W' S) (hg : ¬ S g) (hok : ∀ k, ok k → ¬ S k) : Sq W' base ok g v ls := ⟨blk_kept h.blk hk hg, h.hg, Kd.Q_kept h.row hk hok⟩
theorem Rf.keep_set {S : Nat → Prop} (h : Rf W base ok g2 vp vo va ls) (hk : Kept W W' S) (hg : ¬ S g2) (hok : ∀ k, ok k → ¬ S k) : Rf W' base ok g2 vp vo va ls := ⟨blk_kept h.blk hk hg, h.hg, Kd.Q_kept h.rp hk hok, Kd.Q_kept h.ro hk hok, Kd.Q_kept h.ra hk hok⟩
end
end Go.Proofs.Ytfmlpcdbllpcaaa.HQ
