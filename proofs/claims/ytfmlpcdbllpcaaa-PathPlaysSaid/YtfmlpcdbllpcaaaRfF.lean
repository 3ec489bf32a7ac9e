/-
  CONTRACTS BY HAND (paths, 16): the document's stack: Copy: a stack of its own; what was there stays.
-/
import Derived.Test.YtfmlpcdbllpcaaaRfE
import Derived.Test.YtfmlpcdbllpcaaaPuF
namespace Go.Proofs.Ytfmlpcdbllpcaaa.HQ
open Go.Proofs.Ytfmlpcdbllpcaaa.HD Go.Proofs.Ytfmlpcdbllpcaaa.HU Go.RowKit Go.Proofs.Ytfmlpcdbllpcaaa.HK Go.Proofs.Ytfmlpcdbllpcaaa.HP Go.Proofs.YtfmlpcdbllpcaaaW.PrintWords Go.Proofs.YtfmlpcdbllpcaaaW.PrintLast Go.Proofs.YtfmlpcdbllpcaaaW.PrintMore
set_option linter.unusedVariables false
set_option linter.unusedSimpArgs false
theorem bw1 (w : World) (a : Obj) : Below w.heap.size w (w.drew.alloc a) := below_alloc (below_drew (Below.refl _ _)) a
theorem bw2 (w : World) (a b : Obj) : Below w.heap.size w ((w.drew.alloc a).alloc b) := below_alloc (bw1 w a) b
theorem bw3 (w : World) (a b c : Obj) : Below w.heap.size w (((w.drew.alloc a).alloc b).alloc c) := below_alloc (bw2 w a b) c
theorem bx1 {n : Nat} {w w1 : World} (h : Below n w w1) (hn : n ≤ w1.heap.size) (a : Obj) : Below n w (w1.alloc a) := h.alloc hn a
theorem bx2 {n : Nat} {w w1 : World} (h : Below n w w1) (hn : n ≤ w1.heap.size) (a b : Obj) : Below n w ((w1.alloc a).alloc b) := (h.alloc hn a).alloc (by simp; omega) b
/-- a row made stays where another block is written -/
theorem q_keep_blk {α : Type} {d : Kd α} {e base b t : Nat} {ok : Nat → Prop} {W W1 : World} {v : Value} {xs : List α} {cells : Array Value} (h : d.Q e W base ok v xs) (hb : W.heap[b]? = some (.cells cells t (0, 0))) (ht : ∀ q, q ∈ e :: d.E → q ≠ t) (hk : Kept W W1 (fun k => k = b)) : d.Q e W1 base ok v xs :=
  Kd.Q_mono (Kd.Q_kept (Kd.Q_types h hb ht) hk (fun k hk => hk.2)) (fun _ hk => hk.1)
theorem atOr_fresh {v : Value} {b n m : Nat} (h : AtOr v b n) (hb : m ≤ b) (hn : m ≤ n) : ∀ k, v.ownBlock = some k → m ≤ k := by
  intro k hk
  rcases h with h | ⟨b', h, hle⟩
  · rw [hk] at h
    injection h with h
    omega
  · rw [hk] at h
    injection h with h
    omega
theorem c1_0 (w : World) (a : Obj) : (w.alloc a).heap[w.heap.size]? = some a := blk_new w a
theorem c2_0 (w : World) (a b : Obj) : ((w.alloc a).alloc b).heap[w.heap.size]? = some a := blk_alloc (blk_new w a) b
theorem c2_1 (w : World) (a b : Obj) : ((w.alloc a).alloc b).heap[w.heap.size + 1]? = some b := blk_second w a b
theorem c3_0 (w : World) (a b c : Obj) : (((w.alloc a).alloc b).alloc c).heap[w.heap.size]? = some a := blk_alloc (c2_0 w a b) c
theorem c3_1 (w : World) (a b c : Obj) : (((w.alloc a).alloc b).alloc c).heap[w.heap.size + 1]? = some b := blk_alloc (c2_1 w a b) c
theorem c3_2 (w : World) (a b c : Obj) : (((w.alloc a).alloc b).alloc c).heap[w.heap.size + 2]? = some c := by
  have := blk_second (w.alloc a) b c
  rwa [World.size_alloc] at this
theorem rr_keep {α : Type} {d : Kd α} {w W : World} {A : Option Addr} {n : Nat} {xs : List α} (h : d.C w A n xs) (hb : Below w.heap.size w W) : ReadsRow (d.K w) d.sz W A n xs := ReadsRow.imp_ h hb (fun _ _ hp => hp)
theorem blk_keptb {W W1 : World} {b c : Nat} {o : Obj} (hb : W.heap[c]? = some o) (hk : Kept W W1 (fun k => k = b)) (hne : c ≠ b) : W1.heap[c]? = some o := blk_kept hb hk hne
theorem E34b : ∀ q, q ∈ 34 :: (k34).E → q ≠ 4 := by decide
theorem cp_bel {n b : Nat} {w W w1 : World} (hW : Below n w W) (hbl : Below b W w1) (hn : n ≤ b) : Below n w w1 := hW.trans (hbl.mono hn)
theorem cp_fr {b : Nat} {w W : World} {v : Value} (hW : Below w.heap.size w W) (hat : AtOr v b W.heap.size) (hb : w.heap.size ≤ b) : ∀ k, v.ownBlock = some k → w.heap.size ≤ k := atOr_fresh hat hb hW.size
theorem cp_sz {w W : World} {k : Nat} (hW : Below w.heap.size w W) (hk : W.heap.size ≤ k) : w.heap.size ≤ k := Nat.le_trans hW.size hk
set_option maxHeartbeats 40000000 in
theorem rcopy_ok (base : Nat) (ok : Nat → Prop) (g : Nat) (vp vo va : Value) (ls : List Lv) (w : World) (h : Rf w base ok g vp vo va ls) (hb : base ≤ w.heap.size) (hn : ls.length ≤ 2000) :
    Calls Try.prog 12 #[.pointer (some ⟨g, 0, none⟩)] w fun e w' => ∃ g' vp' vo' va', e = .returned (.pointer (some ⟨g', 0, none⟩)) ∧ Rf w' base (okC ok vp w.heap.size) g' vp' vo' va' ls ∧ w.heap.size ≤ g' ∧
      (∀ k, vp'.ownBlock = some k → w.heap.size ≤ k) ∧ (∀ k, vo'.ownBlock = some k → w.heap.size ≤ k) ∧ (∀ k, va'.ownBlock = some k → w.heap.size ≤ k) ∧ Below w.heap.size w w' := by
  have HS := Aside0.mk h
  have HB := Aside0.mk hb
  obtain ⟨A0, c0, A1, c1, A2, c2, rfl, rfl, rfl, hl0, hl1, hl2⟩ := h.forms
  have hg0 : w.cell? ⟨g, 0, none⟩ = some (.slice A0 ls.length c0) := (blk_cell h.blk 0).trans rfl
  have hg1 : w.cell? ⟨g, 1, none⟩ = some (.slice A1 ls.length c1) := (blk_cell h.blk 1).trans rfl
  have hg2 : w.cell? ⟨g, 2, none⟩ = some (.slice A2 ls.length c2) := (blk_cell h.blk 2).trans rfl
  have hgl := blk_lt h.blk
  have HM : Aside0 (ReadsRow (Kd.M k34 w base (fun k => (ok k ∧ some k ≠ (Value.slice A0 ls.length c0).ownBlock) ∧ k < w.heap.size)) (k34).sz w A0 (ls.map (·.f0)).length (ls.map (·.f0))) := by
    have := Q_rowsM h.rp
    rw [List.length_map]
    exact ⟨this⟩
  have HO : Aside0 (Kd.C Kd.bool w A1 (ls.map (·.f1)).length (ls.map (·.f1))) := ⟨(Kd.Q_reads' h.ro).2.2⟩
  have HA : Aside0 (Kd.C (Kd.int .i64) w A2 (ls.map (·.f2)).length (ls.map (·.f2))) := ⟨(Kd.Q_reads' h.ra).2.2⟩
  have hl3 : (ls.map (·.f0)).length = ls.length := by simp
  have hl4 : (ls.map (·.f1)).length = ls.length := by simp
  have hl5 : (ls.map (·.f2)).length = ls.length := by simp
  rw [hl3] at HM
  rw [hl4] at HO
  rw [hl5] at HA
  have hbr := below_drew (Below.refl w.heap.size w)
  clear h hb hl3 hl4 hl5
  go_enter Try.func12, Try.ntmps12
  go_wp2_with fail
  go_region_held3 (fun W => W.cell? ⟨g, 0, none⟩ = some (.slice A0 ls.length c0) ∧ W.cell? ⟨g, 1, none⟩ = some (.slice A1 ls.length c1) ∧ W.cell? ⟨g, 2, none⟩ = some (.slice A2 ls.length c2))
    (first | exact ⟨z0, z1, z2⟩ | exact ⟨y0, y1, y2⟩ | exact ⟨cell_alloc1 y0 _, cell_alloc1 y1 _, cell_alloc1 y2 _⟩ | exact ⟨x0, x1, x2⟩ | exact ⟨cell_alloc1 x0 _, cell_alloc1 x1 _, cell_alloc1 x2 _⟩ | exact ⟨cell_alloc2 x0 _ _, cell_alloc2 x1 _ _, cell_alloc2 x2 _ _⟩ | exact ⟨cell_alloc3 x0 _ _ _, cell_alloc3 x1 _ _ _, cell_alloc3 x2 _ _ _⟩ | exact ⟨hg0, hg1, hg2⟩ | exact ⟨cell_alloc1 hg0 _, cell_alloc1 hg1 _, cell_alloc1 hg2 _⟩ | exact ⟨cell_alloc2 hg0 _ _, cell_alloc2 hg1 _ _, cell_alloc2 hg2 _ _⟩ | exact ⟨cell_alloc3 hg0 _ _ _, cell_alloc3 hg1 _ _ _, cell_alloc3 hg2 _ _ _⟩ | go_keep)
    (first | (refine app_new_step (Rr := Kd.M k34 w base (fun k => (ok k ∧ some k ≠ (Value.slice A0 ls.length c0).ownBlock) ∧ k < w.heap.size)) k34 base _ (by rfl) (.tmp 3) (.tmp 7) 27 34 (.agg #[.int .i64 0, .int .i64 0, .slice none 0 0]) 40 (by rfl) (by rfl) Try.underlying27 infoPt (by rfl) (by decide) (by omega) (ls.map (·.f0)) A0 ls.length c0 (okC ok (.slice A0 ls.length c0) w.heap.size) (fun k => (ok k ∧ some k ≠ (Value.slice A0 ls.length c0).ownBlock) ∧ k < w.heap.size) (by rfl) (by rfl) (by first | exact c1_0 w.drew _ | exact c2_0 w.drew _ _ | exact c2_1 w.drew _ _ | exact c3_0 w.drew _ _ _ | exact c3_1 w.drew _ _ _ | exact c3_2 w.drew _ _ _) (by have := HB.out; omega) (.inr (by omega)) (ReadsRow.imp_ HM.out (by first | exact bw1 _ _ | exact bw2 _ _ _ | exact bw3 _ _ _ _) (fun _ _ hp => hp)) (fun _ _ hp => Kd.M_below hp (by first | exact bw1 _ _ | exact bw2 _ _ _ | exact bw3 _ _ _ _)) (fun k hk => ⟨.inl hk.1, by have := hk.2; omega⟩) (fun k hk => .inr (cp_sz (by first | exact bw1 _ _ | exact bw2 _ _ _ | exact bw3 _ _ _ _) hk)) (by omega) ?_; intro v1 w1 hr hat hbl hkp; obtain ⟨P1, p1, rfl, hlp1, _⟩ := Kd.R_reads hr; (first | have e4_0 : w1.heap[w.heap.size]? = some (.cells #[] 4 (0, 0)) := blk_keptb (by first | exact c1_0 w.drew _ | exact c2_0 w.drew _ _ | exact c2_1 w.drew _ _ | exact c3_0 w.drew _ _ _ | exact c3_1 w.drew _ _ _ | exact c3_2 w.drew _ _ _) hkp (by omega) | have e4_0 := True.intro); (first | have e4_1 : w1.heap[w.heap.size + 1]? = some (.cells #[] 4 (0, 0)) := blk_keptb (by first | exact c1_0 w.drew _ | exact c2_0 w.drew _ _ | exact c2_1 w.drew _ _ | exact c3_0 w.drew _ _ _ | exact c3_1 w.drew _ _ _ | exact c3_2 w.drew _ _ _) hkp (by omega) | have e4_1 := True.intro); (first | have e4_2 : w1.heap[w.heap.size + 2]? = some (.cells #[] 4 (0, 0)) := blk_keptb (by first | exact c1_0 w.drew _ | exact c2_0 w.drew _ _ | exact c2_1 w.drew _ _ | exact c3_0 w.drew _ _ _ | exact c3_1 w.drew _ _ _ | exact c3_2 w.drew _ _ _) hkp (by omega) | have e4_2 := True.intro); (first | have e3_0 : w1.heap[w.heap.size]? = some (.cells #[] 3 (0, 0)) := blk_keptb (by first | exact c1_0 w.drew _ | exact c2_0 w.drew _ _ | exact c2_1 w.drew _ _ | exact c3_0 w.drew _ _ _ | exact c3_1 w.drew _ _ _ | exact c3_2 w.drew _ _ _) hkp (by omega) | have e3_0 := True.intro); (first | have e3_1 : w1.heap[w.heap.size + 1]? = some (.cells #[] 3 (0, 0)) := blk_keptb (by first | exact c1_0 w.drew _ | exact c2_0 w.drew _ _ | exact c2_1 w.drew _ _ | exact c3_0 w.drew _ _ _ | exact c3_1 w.drew _ _ _ | exact c3_2 w.drew _ _ _) hkp (by omega) | have e3_1 := True.intro); (first | have e3_2 : w1.heap[w.heap.size + 2]? = some (.cells #[] 3 (0, 0)) := blk_keptb (by first | exact c1_0 w.drew _ | exact c2_0 w.drew _ _ | exact c2_1 w.drew _ _ | exact c3_0 w.drew _ _ _ | exact c3_1 w.drew _ _ _ | exact c3_2 w.drew _ _ _) hkp (by omega) | have e3_2 := True.intro); have B1 := cp_bel (n := w.heap.size) (w := w) (by first | exact bw1 _ _ | exact bw2 _ _ _ | exact bw3 _ _ _ _) hbl (by omega); have fr1 := Aside0.mk (cp_fr (w := w) (by first | exact bw1 _ _ | exact bw2 _ _ _ | exact bw3 _ _ _ _) hat (by omega)); have Q1 := Aside0.mk (Kd.Q_of_R hr); have x0 := pw_cell_below B1 hg0; have x1 := pw_cell_below B1 hg1; have x2 := pw_cell_below B1 hg2; have HB1 := Aside0.mk B1; have hz1 := B1.size; clear hr hat hbl hkp) | (refine app_new_step (Rr := Kd.K Kd.bool w) Kd.bool base _ (by rfl) (.tmp 9) (.tmp 13) 28 4 (.bool false) 1 (by rfl) (by rfl) Try.underlying28 infoB (by rfl) (by decide) (by omega) (ls.map (·.f1)) A1 ls.length c1 (okC ok (.slice A0 ls.length c0) w.heap.size) (fun _ => False) (by rfl) (by rfl) (by first | exact c1_0 w1 _ | exact c2_0 w1 _ _ | exact c2_1 w1 _ _ | exact e4_0 | exact e4_1 | exact e4_2 | exact blk_alloc e4_0 _ | exact blk_alloc e4_1 _ | exact blk_alloc e4_2 _) (by have := HB.out; omega) (.inr (by omega)) (rr_keep HO.out (by first | exact HB1.out | exact bx1 HB1.out hz1 _ | exact bx2 HB1.out hz1 _ _)) (fun _ _ h => h) (fun _ h => h.elim) (fun k hk => .inr (cp_sz (by first | exact HB1.out | exact bx1 HB1.out hz1 _ | exact bx2 HB1.out hz1 _ _) hk)) (by omega) ?_; intro v2 w2 hr hat hbl hkp; obtain ⟨P2, p2, rfl, hlp2, _⟩ := Kd.R_reads hr; (first | have f3_0 : w2.heap[w.heap.size]? = some (.cells #[] 3 (0, 0)) := blk_keptb (by first | exact e3_0 | exact blk_alloc e3_0 _) hkp (by have := blk_lt e3_0; omega) | have f3_0 := True.intro); (first | have f3_1 : w2.heap[w.heap.size + 1]? = some (.cells #[] 3 (0, 0)) := blk_keptb (by first | exact e3_1 | exact blk_alloc e3_1 _) hkp (by have := blk_lt e3_1; omega) | have f3_1 := True.intro); (first | have f3_2 : w2.heap[w.heap.size + 2]? = some (.cells #[] 3 (0, 0)) := blk_keptb (by first | exact e3_2 | exact blk_alloc e3_2 _) hkp (by have := blk_lt e3_2; omega) | have f3_2 := True.intro); (first | have f3_3 : w2.heap[w1.heap.size]? = some (.cells #[] 3 (0, 0)) := blk_keptb (by first | exact c1_0 w1 _ | exact c2_0 w1 _ _ | exact c2_1 w1 _ _) hkp (by first | omega | (have := blk_lt e4_0; omega) | (have := blk_lt e4_1; omega) | (have := blk_lt e4_2; omega)) | have f3_3 := True.intro); (first | have f3_4 : w2.heap[w1.heap.size + 1]? = some (.cells #[] 3 (0, 0)) := blk_keptb (by first | exact c1_0 w1 _ | exact c2_0 w1 _ _ | exact c2_1 w1 _ _) hkp (by first | omega | (have := blk_lt e4_0; omega) | (have := blk_lt e4_1; omega) | (have := blk_lt e4_2; omega)) | have f3_4 := True.intro); have B2 := cp_bel (n := w.heap.size) (w := w) (by first | exact HB1.out | exact bx1 HB1.out hz1 _ | exact bx2 HB1.out hz1 _ _) hbl (by omega); have fr2 := Aside0.mk (cp_fr (w := w) (by first | exact HB1.out | exact bx1 HB1.out hz1 _ | exact bx2 HB1.out hz1 _ _) hat (by omega)); have Q2 := Aside0.mk (Kd.Q_of_R hr); have Q1b := Aside0.mk (q_keep_blk (by first | exact Q1.out | exact Kd.Q_alloc Q1.out _ | exact Kd.Q_alloc (Kd.Q_alloc Q1.out _) _) (by first | exact c1_0 w1 _ | exact c2_0 w1 _ _ | exact c2_1 w1 _ _ | exact e4_0 | exact e4_1 | exact e4_2 | exact blk_alloc e4_0 _ | exact blk_alloc e4_1 _ | exact blk_alloc e4_2 _) E34b hkp); have y0 := pw_cell_below B2 hg0; have y1 := pw_cell_below B2 hg1; have y2 := pw_cell_below B2 hg2; have HB2 := Aside0.mk B2; have hz2 := B2.size; clear hr hat hbl hkp) | (refine app_new_step (Rr := Kd.K (Kd.int .i64) w) (Kd.int .i64) base _ (by rfl) (.tmp 15) (.tmp 19) 29 3 (.int .i64 0) 8 (by rfl) (by rfl) Try.underlying29 infoI (by rfl) (by decide) (by omega) (ls.map (·.f2)) A2 ls.length c2 (okC ok (.slice A0 ls.length c0) w.heap.size) (fun _ => False) (by rfl) (by rfl) (by first | exact c1_0 w2 _ | exact f3_0 | exact f3_1 | exact f3_2 | exact f3_3 | exact f3_4) (by have := HB.out; omega) (.inr (by omega)) (rr_keep HA.out (by first | exact HB2.out | exact bx1 HB2.out hz2 _)) (fun _ _ h => h) (fun _ h => h.elim) (fun k hk => .inr (cp_sz (by first | exact HB2.out | exact bx1 HB2.out hz2 _) hk)) (by omega) ?_; intro v3 w3 hr hat hbl hkp; obtain ⟨P3, p3, rfl, hlp3, _⟩ := Kd.R_reads hr; have B3 := cp_bel (n := w.heap.size) (w := w) (by first | exact HB2.out | exact bx1 HB2.out hz2 _) hbl (by omega); have fr3 := Aside0.mk (cp_fr (w := w) (by first | exact HB2.out | exact bx1 HB2.out hz2 _) hat (by omega)); have Q3 := Aside0.mk (Kd.Q_of_R hr); have Q1c := Aside0.mk (q_keep_blk (by first | exact Q1b.out | exact Kd.Q_alloc Q1b.out _) (by first | exact c1_0 w2 _ | exact f3_0 | exact f3_1 | exact f3_2 | exact f3_3 | exact f3_4) E34a hkp); have Q2c := Aside0.mk (q_keep_blk (by first | exact Q2.out | exact Kd.Q_alloc Q2.out _) (by first | exact c1_0 w2 _ | exact f3_0 | exact f3_1 | exact f3_2 | exact f3_3 | exact f3_4) E4a hkp); have z0 := pw_cell_below B3 hg0; have z1 := pw_cell_below B3 hg1; have z2 := pw_cell_below B3 hg2; have HB3 := Aside0.mk B3; clear hr hat hbl hkp))
  all_goals (
    simp only [List.length_map] at Q1c Q2c Q3 fr1 fr2 fr3
    have hz3 := HB3.out.size
    have hbs := HB.out
    clear z0 z1 z2 y0 y1 y2 x0 x1 x2 hg0 hg1 hg2 B1 B2 B3 Q1 Q1b Q2 HB1 HB2
    go_wp2
    go_ret
    exact ⟨_, _, _, _, rfl, ⟨blk_new _ _, by omega, Kd.Q_alloc Q1c.out _, Kd.Q_alloc Q2c.out _, Kd.Q_alloc Q3.out _⟩, hz3, fr1.out, fr2.out, fr3.out, below_alloc HB3.out _⟩)
end Go.Proofs.Ytfmlpcdbllpcaaa.HQ
