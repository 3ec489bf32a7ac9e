/-
  CONTRACTS BY HAND (groups, 14): the program's table and the document's, side by side: what is done to one leaves the other. No program is walked here.
-/
import Derived.Test.YtkifmhfgplhabaaGrD
namespace Go.Proofs.Ytkifmhfgplhabaa.HQ
open Go.Proofs.Ytkifmhfgplhabaa.HU Go.RowKit Go.Proofs.Ytkifmhfgplhabaa.HK Go.Proofs.Ytkifmhfgplhabaa.HP Go.Proofs.YtkifmhfgplhabaaW.PrintWords Go.Proofs.YtkifmhfgplhabaaW.PrintLast Go.Proofs.YtkifmhfgplhabaaW.PrintMore
set_option linter.unusedVariables false
set_option linter.unusedSimpArgs false
section
variable {w W W' : World} {base : Nat} {ok ok' : Nat → Prop} {g g2 : Nat} {v vg vo : Value} {ls ls2 : List Sl} {S S' : Nat → Prop}
theorem kept_mono (h : Kept W W' S) (hs : ∀ k, S k → S' k) : Kept W W' S' := ⟨h.1, fun i hi hn => h.2 i hi (fun h' => hn (hs i h'))⟩
theorem Gs.mono (h : Gs W base ok g v ls) (hok : ∀ k, ok k → ok' k) : Gs W base ok' g v ls := ⟨h.blk, h.hg, Kd.Q_mono h.row hok⟩
theorem Gr.mono (h : Gr W base ok g vg vo ls) (hok : ∀ k, ok k → ok' k) : Gr W base ok' g vg vo ls := ⟨h.blk, h.hg, Kd.Q_mono h.rg hok, Kd.Q_mono h.ro hok⟩
theorem Gs.bound (h : Gs W base ok g v ls) : Gs W base (fun k => k < W.heap.size) g v ls := ⟨h.blk, h.hg, Kd.Q_mono (Kd.Q_bound h.row) (fun k hk => hk.2.2.1)⟩
theorem Gr.bound (h : Gr W base ok g vg vo ls) : Gr W base (fun k => k < W.heap.size) g vg vo ls := ⟨h.blk, h.hg, Kd.Q_mono (Kd.Q_bound h.rg) (fun k hk => hk.2.2.1), Kd.Q_mono (Kd.Q_bound h.ro) (fun k hk => hk.2.2.1)⟩
/-- the program's table is written: a row of other types stays -/
theorem q_keep_s {α : Type} {d : Kd α} {e base2 : Nat} {u : Value} {xs : List α} (h : d.Q e W base2 ok u xs) (hs : Gs W base ok' g v ls) (h1 : ∀ q, q ∈ e :: d.E → q ≠ 29) (h2 : ∀ q, q ∈ e :: d.E → q ≠ 62) (hk : Kept W W' (WrG g v)) : d.Q e W' base2 ok u xs :=
  Kd.Q_mono (Kd.Q_kept (Kd.Q_types (Kd.Q_apart' h (Kd.Q_typed hs.row) h2) hs.blk h1) hk (fun k hk hw => hw.elim hk.2 hk.1.2)) (fun _ hk => hk.1.1)
theorem blk_keep_s {t : Nat} {cells : Array Value} {b : Nat} (hb : W.heap[b]? = some (.cells cells t (0, 0))) (hs : Gs W base ok' g v ls) (h1 : t ≠ 29) (h2 : t ≠ 62) (hk : Kept W W' (WrG g v)) : W'.heap[b]? = some (.cells cells t (0, 0)) := by
  refine blk_kept hb hk (fun hw => ?_)
  rcases hw with rfl | hw
  · have := hs.blk
    rw [hb] at this
    injection this with this
    injection this with _ h
    exact h1 h
  · obtain ⟨c2, hc⟩ := Kd.Q_typed hs.row b hw.symm
    rw [hb] at hc
    injection hc with hc
    injection hc with _ h
    exact h2 h
theorem Gr.keep_s (h : Gr W base ok g2 vg vo ls2) (hs : Gs W base ok' g v ls) (hk : Kept W W' (WrG g v)) : Gr W' base ok g2 vg vo ls2 :=
  ⟨blk_keep_s h.blk hs (by decide) (by decide) hk, h.hg, q_keep_s h.rg hs (by decide) (by decide) hk, q_keep_s h.ro hs (by decide) (by decide) hk⟩
/-- the document's table is written: a row of other types stays -/
theorem q_keep_r {α : Type} {d : Kd α} {e base2 : Nat} {u : Value} {xs : List α} (h : d.Q e W base2 ok u xs) (hs : Gr W base ok' g2 vg vo ls2) (h1 : ∀ q, q ∈ e :: d.E → q ≠ 58) (h2 : ∀ q, q ∈ e :: d.E → q ≠ 24) (h3 : ∀ q, q ∈ e :: d.E → q ≠ 4) (hk : Kept W W' (WrO g2 vg vo)) : d.Q e W' base2 ok u xs :=
  Kd.Q_mono (Kd.Q_kept (Kd.Q_types (Kd.Q_apart' (Kd.Q_apart' h (Kd.Q_typed hs.rg) h2) (Kd.Q_typed hs.ro) h3) hs.blk h1) hk
    (fun k hk hw => hw.elim hk.2 (fun hw => hw.elim hk.1.1.2 hk.1.2))) (fun _ hk => hk.1.1.1)
theorem blk_keep_r {t : Nat} {cells : Array Value} {b : Nat} (hb : W.heap[b]? = some (.cells cells t (0, 0))) (hs : Gr W base ok' g2 vg vo ls2) (h1 : t ≠ 58) (h2 : t ≠ 24) (h3 : t ≠ 4) (hk : Kept W W' (WrO g2 vg vo)) : W'.heap[b]? = some (.cells cells t (0, 0)) := by
  have no : ∀ {b2 t2 : Nat} {c2 : Array Value}, W.heap[b2]? = some (.cells c2 t2 (0, 0)) → b = b2 → t = t2 := by
    rintro b2 t2 c2 hc rfl
    rw [hb] at hc
    injection hc with hc
    injection hc with _ h
  refine blk_kept hb hk (fun hw => ?_)
  rcases hw with hw | hw | hw
  · exact h1 (no hs.blk hw)
  · obtain ⟨c2, hc⟩ := Kd.Q_typed hs.rg b hw.symm
    exact h2 (no hc rfl)
  · obtain ⟨c2, hc⟩ := Kd.Q_typed hs.ro b hw.symm
    exact h3 (no hc rfl)
theorem Gs.keep_r (h : Gs W base ok g v ls) (hs : Gr W base ok' g2 vg vo ls2) (hk : Kept W W' (WrO g2 vg vo)) : Gs W' base ok g v ls :=
  ⟨blk_keep_r h.blk hs (by decide) (by decide) (by decide) hk, h.hg, q_keep_r h.row hs (by decide) (by decide) (by decide) hk⟩
/-- the elder table is written: its copy stays -/
theorem Gs.keep_old {g' n : Nat} {v' v2 : Value} (h : Gs W base (okC ok v n) g' v' ls2) (hs : Gs W base ok' g v2 ls) (hgn : g < n) (hvn : ∀ k, v.ownBlock = some k → k < n) (hg' : n ≤ g') (hk : Kept W W' (WrG g v)) : Gs W' base (okC ok v n) g' v' ls2 := by
  refine ⟨blk_kept h.blk hk (fun hw => ?_), h.hg, Kd.Q_mono (Kd.Q_kept (Kd.Q_types h.row hs.blk (by decide)) hk (fun k hk hw => ?_)) (fun _ hk => hk.1)⟩
  · rcases hw with rfl | hw
    · omega
    · have := hvn g' hw.symm
      omega
  · rcases hw with rfl | hw
    · exact hk.2 rfl
    · rcases hk.1 with h1 | h1
      · exact h1.2 hw
      · have := hvn k hw.symm
        omega
/-- what is written is none of theirs -/
theorem Gs.keep_set (h : Gs W base ok g v ls) (hk : Kept W W' S) (hg : ¬ S g) (hok : ∀ k, ok k → ¬ S k) : Gs W' base ok g v ls := ⟨blk_kept h.blk hk hg, h.hg, Kd.Q_kept h.row hk hok⟩
theorem Gr.keep_set (h : Gr W base ok g2 vg vo ls) (hk : Kept W W' S) (hg : ¬ S g2) (hok : ∀ k, ok k → ¬ S k) : Gr W' base ok g2 vg vo ls := ⟨blk_kept h.blk hk hg, h.hg, Kd.Q_kept h.rg hk hok, Kd.Q_kept h.ro hk hok⟩
end
/-- groups that are gone through -/
def Fits (ls : List Sl) : Prop := 0 < ls.length ∧ ls.length ≤ 32 ∧ ∀ x ∈ ls, x.f0.f1.length ≤ 80
theorem Fits.one {s : ByteArray} {l : List Int} (h : l.length ≤ 80) : Fits [⟨⟨s, l⟩, false⟩] := by
  refine ⟨by simp, by simp, fun x hx => ?_⟩
  rw [List.mem_singleton.1 hx]
  exact h
theorem Fits.add {s : ByteArray} {l : List Int} {ls : List Sl} (h : Fits ls) (hl : l.length ≤ 80) : Fits (addL s l ls) := by
  unfold addL
  split
  · split
    · exact h
    · rename_i h32
      refine ⟨by simp, ?_, fun x hx => ?_⟩
      · have := h.2.1
        simp
        omega
      · rcases List.mem_append.1 hx with hx | hx
        · exact h.2.2 x hx
        · rw [List.mem_singleton.1 hx]
          exact hl
  · exact h
theorem Fits.free {k : Int} {ls : List Sl} (h : Fits ls) : Fits (freeL k ls) := by
  unfold freeL
  split
  · rename_i x hx
    have hm := List.mem_of_getElem? (getH_some hx).2.2.1
    refine ⟨by simpa using h.1, by simpa using h.2.1, fun y hy => ?_⟩
    rcases List.mem_or_eq_of_mem_set hy with hy | rfl
    · exact h.2.2 y hy
    · exact h.2.2 x hm
  · exact h
/-- the two tables -/
def Both (b0 : Nat) (W : World) (sv wv : Value) (ls : List Sl) : Prop :=
  ∃ g v g2 vg vo, sv = .pointer (some ⟨g, 0, none⟩) ∧ wv = .pointer (some ⟨g2, 0, none⟩) ∧ Gs W b0 (fun _ => True) g v ls ∧ Gr W b0 (fun _ => True) g2 vg vo ls ∧ Fits ls
theorem Both.below {b0 : Nat} {W W' : World} {sv wv : Value} {ls : List Sl} (h : Both b0 W sv wv ls) (hb : Below W.heap.size W W') : Both b0 W' sv wv ls := by
  obtain ⟨g, v, g2, vg, vo, e1, e2, hs, hr, hf⟩ := h
  exact ⟨g, v, g2, vg, vo, e1, e2, hs.below hb, hr.below hb, hf⟩
/-- another's numbers are written: both stay -/
theorem Both.nums {b0 : Nat} {W W1 W' : World} {sv wv u : Value} {ls : List Sl} (h : Both b0 W sv wv ls) (hb : Below W.heap.size W W1) (hk : Kept W1 W' (fun k => some k = u.ownBlock)) (hu : ∀ k, u.ownBlock = some k → W.heap.size ≤ k) : Both b0 W' sv wv ls := by
  obtain ⟨g, v, g2, vg, vo, e1, e2, hs, hr, hf⟩ := h
  have h1 := blk_lt hs.blk
  have h2 := blk_lt hr.blk
  have hno : ∀ k, k < W.heap.size → ¬ some k = u.ownBlock := fun k hk he => by have := hu k he.symm; omega
  exact ⟨g, v, g2, vg, vo, e1, e2, ((hs.bound.below hb).keep_set hk (hno g h1) hno).mono (fun _ _ => trivial), ((hr.bound.below hb).keep_set hk (hno g2 h2) hno).mono (fun _ _ => trivial), hf⟩
end Go.Proofs.Ytkifmhfgplhabaa.HQ
