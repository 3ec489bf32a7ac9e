/-
  CONTRACTS BY HAND (groups, 13): the document's Add, whatever it takes; its Copy.
-/
import Derived.Test.YtkifmhfgplhabaaGrC
import Derived.Test.YtkifmhfgplhabaaGpH
namespace Go.Proofs.Ytkifmhfgplhabaa.HQ
open Go.Proofs.Ytkifmhfgplhabaa.HU Go.RowKit Go.Proofs.Ytkifmhfgplhabaa.HK Go.Proofs.Ytkifmhfgplhabaa.HP Go.Proofs.YtkifmhfgplhabaaW.PrintWords Go.Proofs.YtkifmhfgplhabaaW.PrintLast Go.Proofs.YtkifmhfgplhabaaW.PrintMore
set_option linter.unusedVariables false
set_option linter.unusedSimpArgs false
theorem radd_bad (base : Nat) (ok : Nat → Prop) (g : Nat) (vg vo : Value) (ls : List Sl) (s : ByteArray) (A : Option Addr) (c : Nat) (l : List Int) (w : World)
    (hr : Kd.C (Kd.int .i64) w A l.length l) (hc : l.length ≤ c) (hm : mayB l = false) :
    Calls Try.prog 13 #[.pointer (some ⟨g, 0, none⟩), .agg #[.string s, .slice A l.length c]] w fun e w' => e = .returned (.tuple #[.int .i64 0, .int .i64 2]) ∧ Below w.heap.size w w' := by
  have HR := Aside0.mk hr
  have hb1 := below_alloc (Below.refl w.heap.size w) (.cells #[.string s, .slice A l.length c] 24)
  clear hr
  go_enter Try.func13, Try.ntmps13
  go_wp2_with fail
  refine (rmay_c s A c l _ (Kd.C_below HR.out hb1) hc).mono ?_
  rintro e w1 ⟨rfl, hbx⟩
  have HB := Aside0.mk (below_then hb1 hb1.size hbx)
  clear hb1 hbx
  rw [hm]
  go_wp2
  go_ret2
  exact ⟨rfl, HB.out⟩
theorem radd_full (base : Nat) (ok : Nat → Prop) (g : Nat) (vg vo : Value) (ls : List Sl) (s : ByteArray) (A : Option Addr) (c : Nat) (l : List Int) (w : World) (h : Gr w base ok g vg vo ls)
    (hr : Kd.C (Kd.int .i64) w A l.length l) (hc : l.length ≤ c) (hm : mayB l = true) (hn : ls.length = 32) :
    Calls Try.prog 13 #[.pointer (some ⟨g, 0, none⟩), .agg #[.string s, .slice A l.length c]] w fun e w' => e = .returned (.tuple #[.int .i64 0, .int .i64 4]) ∧ Below w.heap.size w w' := by
  have HR := Aside0.mk hr
  have hb1 := below_alloc (Below.refl w.heap.size w) (.cells #[.string s, .slice A l.length c] 24)
  obtain ⟨Av, cv, Ao, co, rfl, rfl, hlv, hlo⟩ := h.forms
  have hg0 : w.cell? ⟨g, 0, none⟩ = some (.slice Av 32 cv) := (blk_cell h.blk 0).trans (by rw [hn]; rfl)
  clear hr h
  go_enter Try.func13, Try.ntmps13
  go_wp2_with fail
  refine (rmay_c s A c l _ (Kd.C_below HR.out hb1) hc).mono ?_
  rintro e w1 ⟨rfl, hbx⟩
  have HB := Aside0.mk (below_then hb1 hb1.size hbx)
  have hg0 := pw_cell_below HB.out hg0
  clear hb1 hbx
  rw [hm]
  go_wp2
  go_ret2
  exact ⟨rfl, HB.out⟩
theorem radd_any (base : Nat) (ok : Nat → Prop) (g : Nat) (vg vo : Value) (ls : List Sl) (s : ByteArray) (A : Option Addr) (c : Nat) (l : List Int) (w : World) (h : Gr w base ok g vg vo ls) (hb : base ≤ w.heap.size) (hok : ∀ k, w.heap.size ≤ k → ok k)
    (hr : Kd.C (Kd.int .i64) w A l.length l) (hc : l.length ≤ c) (hl : l.length ≤ 1000) (hn : ls.length ≤ 32) :
    Calls Try.prog 13 #[.pointer (some ⟨g, 0, none⟩), .agg #[.string s, .slice A l.length c]] w fun e w' => e = .returned (.tuple #[.int .i64 (addN l ls), .int .i64 (addE l ls)]) ∧ (∃ vg' vo', Gr w' base ok g vg' vo' (addL s l ls)) ∧ Kept w w' (WrO g vg vo) ∧ Below base w w' := by
  unfold addN addE addL
  by_cases hm : mayB l = true
  · rw [if_pos hm, if_pos hm, if_pos hm]
    by_cases h32 : ls.length = 32
    · rw [if_pos h32, if_pos h32, if_pos h32]
      refine (radd_full base ok g vg vo ls s A c l w h hr hc hm h32).mono ?_
      rintro e w' ⟨rfl, hbl⟩
      exact ⟨rfl, ⟨vg, vo, h.below hbl⟩, Kept.of_below hbl _, hbl.mono hb⟩
    · rw [if_neg h32, if_neg h32, if_neg h32]
      exact radd_fits base ok g vg vo ls s A c l w h hb hok hr hc hl hm (by omega)
  · rw [if_neg hm, if_neg hm, if_neg hm]
    refine (radd_bad base ok g vg vo ls s A c l w hr hc (by simpa using hm)).mono ?_
    rintro e w' ⟨rfl, hbl⟩
    exact ⟨rfl, ⟨vg, vo, h.below hbl⟩, Kept.of_below hbl _, hbl.mono hb⟩
theorem bw1 (w : World) (a : Obj) : Below w.heap.size w (w.drew.alloc a) := below_alloc (below_drew (Below.refl _ _)) a
theorem bw2 (w : World) (a b : Obj) : Below w.heap.size w ((w.drew.alloc a).alloc b) := below_alloc (bw1 w a) b
theorem bx1 {n : Nat} {w w1 : World} (h : Below n w w1) (hn : n ≤ w1.heap.size) (a : Obj) : Below n w (w1.alloc a) := h.alloc hn a
/-- a row made stays where another block is written -/
theorem q_keep_blk {α : Type} {d : Kd α} {e base b t : Nat} {ok : Nat → Prop} {W W1 : World} {v : Value} {xs : List α} {cells : Array Value} (h : d.Q e W base ok v xs) (hb : W.heap[b]? = some (.cells cells t (0, 0))) (ht : ∀ q, q ∈ e :: d.E → q ≠ t) (hk : Kept W W1 (fun k => k = b)) : d.Q e W1 base ok v xs :=
  Kd.Q_mono (Kd.Q_kept (Kd.Q_types h hb ht) hk (fun k hk => hk.2)) (fun _ hk => hk.1)
theorem atOr_fresh {v : Value} {b n m : Nat} (h : AtOr v b n) (hb : m ≤ b) (hn : m ≤ n) : ∀ k, v.ownBlock = some k → m ≤ k := by
  intro k hk
  rcases h with h | ⟨b', h, hle⟩
  · rw [hk] at h
    injection h with h
    omega
  · rw [hk] at h
    injection h with h
    omega
theorem c1_0 (w : World) (a : Obj) : (w.alloc a).heap[w.heap.size]? = some a := blk_new w a
theorem c2_0 (w : World) (a b : Obj) : ((w.alloc a).alloc b).heap[w.heap.size]? = some a := blk_alloc (blk_new w a) b
theorem c2_1 (w : World) (a b : Obj) : ((w.alloc a).alloc b).heap[w.heap.size + 1]? = some b := blk_second w a b
theorem rr_keep {α : Type} {d : Kd α} {w W : World} {A : Option Addr} {n : Nat} {xs : List α} (h : d.C w A n xs) (hb : Below w.heap.size w W) : ReadsRow (d.K w) d.sz W A n xs := ReadsRow.imp_ h hb (fun _ _ hp => hp)
theorem blk_keptb {W W1 : World} {b c : Nat} {o : Obj} (hb : W.heap[c]? = some o) (hk : Kept W W1 (fun k => k = b)) (hne : c ≠ b) : W1.heap[c]? = some o := blk_kept hb hk hne
theorem cp_bel {n b : Nat} {w W w1 : World} (hW : Below n w W) (hbl : Below b W w1) (hn : n ≤ b) : Below n w w1 := hW.trans (hbl.mono hn)
theorem cp_fr {b : Nat} {w W : World} {v : Value} (hW : Below w.heap.size w W) (hat : AtOr v b W.heap.size) (hb : w.heap.size ≤ b) : ∀ k, v.ownBlock = some k → w.heap.size ≤ k := atOr_fresh hat hb hW.size
theorem cp_sz {w W : World} {k : Nat} (hW : Below w.heap.size w W) (hk : W.heap.size ≤ k) : w.heap.size ≤ k := Nat.le_trans hW.size hk
theorem cell_old {n : Nat} {W W' : World} {p : Addr} {v : Value} (hb : Below n W W') (hl : p.block < n) (h : W.cell? p = some v) : W'.cell? p = some v := (hb.cell hl).trans h
set_option maxHeartbeats 8000000 in
theorem rcopy_ok (base : Nat) (ok : Nat → Prop) (g : Nat) (vg vo : Value) (ls : List Sl) (w : World) (h : Gr w base ok g vg vo ls) (hb : base ≤ w.heap.size) (hn : ls.length ≤ 32) :
    Calls Try.prog 17 #[.pointer (some ⟨g, 0, none⟩)] w fun e w' => (∃ g' vg' vo', e = .returned (.pointer (some ⟨g', 0, none⟩)) ∧ Gr w' base (okC ok vg w.heap.size) g' vg' vo' ls ∧ w.heap.size ≤ g') ∧ Below w.heap.size w w' := by
  have HB := Aside0.mk hb
  obtain ⟨A0, c0, A1, c1, rfl, rfl, hl0, hl1⟩ := h.forms
  have hg0 : w.cell? ⟨g, 0, none⟩ = some (.slice A0 ls.length c0) := (blk_cell h.blk 0).trans rfl
  have hg1 : w.cell? ⟨g, 1, none⟩ = some (.slice A1 ls.length c1) := (blk_cell h.blk 1).trans rfl
  have hgl := blk_lt h.blk
  have HM : Aside0 (ReadsRow (Kd.M k24 w base (fun k => (ok k ∧ some k ≠ (Value.slice A0 ls.length c0).ownBlock) ∧ k < w.heap.size)) (k24).sz w A0 (ls.map (·.f0)).length (ls.map (·.f0))) := by
    have := Q_rowsM h.rg
    rw [List.length_map]
    exact ⟨this⟩
  have HO : Aside0 (Kd.C Kd.bool w A1 (ls.map (·.f1)).length (ls.map (·.f1))) := ⟨(Kd.Q_reads' h.ro).2.2⟩
  have hl3 : (ls.map (·.f0)).length = ls.length := by simp
  have hl4 : (ls.map (·.f1)).length = ls.length := by simp
  rw [hl3] at HM
  rw [hl4] at HO
  clear h hb hl3 hl4
  go_enter Try.func17, Try.ntmps17
  go_upto_region 1 with (fail)
  refine HU.region_T (S := (fun W => W.cell? ⟨g, 0, none⟩ = some (.slice A0 ls.length c0) ∧ W.cell? ⟨g, 1, none⟩ = some (.slice A1 ls.length c1))) (T := (fun k => decide (100 ≤ k))) (by kernel_rfl) ?_
  have hSw : (fun W => W.cell? ⟨g, 0, none⟩ = some (.slice A0 ls.length c0) ∧ W.cell? ⟨g, 1, none⟩ = some (.slice A1 ls.length c1)) w.drew := ⟨hg0, hg1⟩
  refine takeP (i := 1) (v := ?va1) rfl (by kernel_rfl) (by kernel_rfl) (by kernel_rfl) (by rfl) (fun _ _ _ h => h) (Or.inl ⟨by rfl, ?ha1⟩) (by assumption) ?ra1
  case ha1 => ((intro w hSw'); (try dsimp only at hSw'); go_simp; (try with_reducible rfl))
  try simp only [Act.put, List.setIfInBounds_toArray, List.set_cons_zero, List.set_cons_succ]
  refine takeP (i := 2) (v := ?va2) rfl (by kernel_rfl) (by kernel_rfl) (by kernel_rfl) (by rfl) (fun _ _ _ h => h) (Or.inl ⟨by rfl, ?ha2⟩) (by assumption) ?ra2
  case ha2 => ((intro w hSw'); (try dsimp only at hSw'); go_simp; (try with_reducible rfl))
  try simp only [Act.put, List.setIfInBounds_toArray, List.set_cons_zero, List.set_cons_succ]
  refine takeP (i := 3) (v := ?va3) rfl (by kernel_rfl) (by kernel_rfl) (by kernel_rfl) (by rfl) (fun _ _ _ h => h) (Or.inl ⟨by rfl, ?ha3⟩) (by assumption) ?ra3
  case ha3 => ((intro w hSw'); (try dsimp only at hSw'); go_simp; (try with_reducible rfl))
  try simp only [Act.put, List.setIfInBounds_toArray, List.set_cons_zero, List.set_cons_succ]
  refine takeT (i := 4) (v := ?va4) rfl (by kernel_rfl) (by kernel_rfl) (by kernel_rfl) (by kernel_rfl) (by rfl) (by kernel_rfl) (fun _ _ _ h => h) (Or.inl ⟨by rfl, ?ha4⟩) (by assumption) ?ra4
  case ha4 => ((intro w hSw'); (try dsimp only at hSw'); go_simp; (try with_reducible rfl))
  try simp only [Act.put, List.setIfInBounds_toArray, List.set_cons_zero, List.set_cons_succ]
  refine takeP (i := 7) (v := ?va5) rfl (by kernel_rfl) (by kernel_rfl) (by kernel_rfl) (by rfl) (fun _ _ _ h => h) (Or.inl ⟨by rfl, ?ha5⟩) (by assumption) ?ra5
  case ha5 => ((intro w hSw'); (try dsimp only at hSw'); go_simp; (try with_reducible rfl))
  try simp only [Act.put, List.setIfInBounds_toArray, List.set_cons_zero, List.set_cons_succ]
  refine takeP (i := 8) (v := ?va6) rfl (by kernel_rfl) (by kernel_rfl) (by kernel_rfl) (by rfl) (fun _ _ _ h => h) (Or.inl ⟨by rfl, ?ha6⟩) (by assumption) ?ra6
  case ha6 => ((intro w hSw'); (try dsimp only at hSw'); go_simp; (try with_reducible rfl))
  try simp only [Act.put, List.setIfInBounds_toArray, List.set_cons_zero, List.set_cons_succ]
  refine takeP (i := 9) (v := ?va7) rfl (by kernel_rfl) (by kernel_rfl) (by kernel_rfl) (by rfl) (fun _ _ _ h => h) (Or.inl ⟨by rfl, ?ha7⟩) (by assumption) ?ra7
  case ha7 => ((intro w hSw'); (try dsimp only at hSw'); go_simp; (try with_reducible rfl))
  try simp only [Act.put, List.setIfInBounds_toArray, List.set_cons_zero, List.set_cons_succ]
  refine takeT (i := 10) (v := ?va8) rfl (by kernel_rfl) (by kernel_rfl) (by kernel_rfl) (by kernel_rfl) (by rfl) (by kernel_rfl) (fun _ _ _ h => h) (Or.inl ⟨by rfl, ?ha8⟩) (by assumption) ?ra8
  case ha8 => ((intro w hSw'); (try dsimp only at hSw'); go_simp; (try with_reducible rfl))
  try simp only [Act.put, List.setIfInBounds_toArray, List.set_cons_zero, List.set_cons_succ]
  refine anyT_all (rs := [0, 6]) (by kernel_rfl) (by simp) (consT rfl (fun K hK => ?ba10) (consT rfl (fun K hK => ?ba9) AllT.nil))
  case ba10 =>
    go_simp
    refine hK.out _ _ ?sa10 (fun hSw => ?ta10)
    case sa10 => (first | exact ⟨y0, y1⟩ | exact ⟨cell_alloc1 y0 _, cell_alloc1 y1 _⟩ | exact ⟨x0, x1⟩ | exact ⟨cell_alloc1 x0 _, cell_alloc1 x1 _⟩ | exact ⟨hg0, hg1⟩ | exact ⟨cell_alloc1 hg0 _, cell_alloc1 hg1 _⟩ | exact ⟨cell_alloc2 hg0 _ _, cell_alloc2 hg1 _ _⟩)
    clear hK K
    try simp only [Act.put, List.setIfInBounds_toArray, List.set_cons_zero, List.set_cons_succ]
    refine anyT_all (rs := [5, 6]) (by kernel_rfl) (by simp) (consT rfl (fun K hK => ?ba12) (consT rfl (fun K hK => ?ba11) AllT.nil))
    case ba12 =>
      refine app_new_step (Rr := Kd.M k24 w base (fun k => (ok k ∧ some k ≠ (Value.slice A0 ls.length c0).ownBlock) ∧ k < w.heap.size)) k24 base _ (by rfl) (.tmp 3) (.tmp 7) 55 24 (.agg #[.string ⟨#[]⟩, .slice none 0 0]) 40 (by rfl) (by rfl) Try.underlying55 infoGp (by rfl) (by decide) (by omega) (ls.map (·.f0)) A0 ls.length c0 (okC ok (.slice A0 ls.length c0) w.heap.size) (fun k => (ok k ∧ some k ≠ (Value.slice A0 ls.length c0).ownBlock) ∧ k < w.heap.size) (by rfl) (by rfl) (by first | exact c1_0 w.drew _ | exact c2_0 w.drew _ _ | exact c2_1 w.drew _ _) (by have hh : base ≤ w.heap.size := HB.out; first | exact hh | (simp; done) | (simp; omega) | omega) (.inr (by simp)) (ReadsRow.imp_ HM.out (by first | exact bw1 _ _ | exact bw2 _ _ _) (fun _ _ hp => hp)) (fun _ _ hp => Kd.M_below hp (by first | exact bw1 _ _ | exact bw2 _ _ _)) (fun k hk => ⟨.inl hk.1, by have := hk.2; simp at *; omega⟩) (fun k hk => .inr (cp_sz (by first | exact bw1 _ _ | exact bw2 _ _ _) hk)) (by omega) ?_; intro v1 w1 hr hat hbl hkp; obtain ⟨P1, p1, rfl, hlp1, _⟩ := Kd.R_reads hr; have B1 := Aside0.mk (cp_bel (w := w) (n := w.heap.size) (by first | exact bw1 _ _ | exact bw2 _ _ _) hbl (by simp)); have Q1 := Aside0.mk (Kd.Q_of_R hr); (first | have e0 : w1.heap[w.heap.size]? = some (.cells #[] 4 (0, 0)) := blk_keptb (by first | exact c1_0 w.drew _ | exact c2_0 w.drew _ _ | exact c2_1 w.drew _ _) hkp (by simp) | have e0 := True.intro); (first | have e1 : w1.heap[w.heap.size + 1]? = some (.cells #[] 4 (0, 0)) := blk_keptb (by first | exact c1_0 w.drew _ | exact c2_0 w.drew _ _ | exact c2_1 w.drew _ _) hkp (by simp) | have e1 := True.intro); have x0 := cell_old (p := ⟨g, 0, none⟩) B1.out hgl hg0; have x1 := cell_old (p := ⟨g, 1, none⟩) B1.out hgl hg1; clear hr hat hbl hkp
      refine hK.out _ _ ?sa12 (fun hSw => ?ta12)
      case sa12 => (first | exact ⟨y0, y1⟩ | exact ⟨cell_alloc1 y0 _, cell_alloc1 y1 _⟩ | exact ⟨x0, x1⟩ | exact ⟨cell_alloc1 x0 _, cell_alloc1 x1 _⟩ | exact ⟨hg0, hg1⟩ | exact ⟨cell_alloc1 hg0 _, cell_alloc1 hg1 _⟩ | exact ⟨cell_alloc2 hg0 _ _, cell_alloc2 hg1 _ _⟩)
      clear hK K
      try simp only [Act.put, List.setIfInBounds_toArray, List.set_cons_zero, List.set_cons_succ]
      refine anyT_all (rs := [6]) (by kernel_rfl) (by simp) (consT rfl (fun K hK => ?ba13) AllT.nil)
      case ba13 =>
        go_simp
        refine hK.out _ _ ?sa13 (fun hSw => ?ta13)
        case sa13 => (first | exact ⟨y0, y1⟩ | exact ⟨cell_alloc1 y0 _, cell_alloc1 y1 _⟩ | exact ⟨x0, x1⟩ | exact ⟨cell_alloc1 x0 _, cell_alloc1 x1 _⟩ | exact ⟨hg0, hg1⟩ | exact ⟨cell_alloc1 hg0 _, cell_alloc1 hg1 _⟩ | exact ⟨cell_alloc2 hg0 _ _, cell_alloc2 hg1 _ _⟩)
        clear hK K
        try simp only [Act.put, List.setIfInBounds_toArray, List.set_cons_zero, List.set_cons_succ]
        refine anyT_all (rs := [11]) (by kernel_rfl) (by simp) (consT rfl (fun K hK => ?ba14) AllT.nil)
        case ba14 =>
          refine app_new_step (Rr := Kd.K Kd.bool w) Kd.bool base _ (by rfl) (.tmp 9) (.tmp 13) 56 4 (.bool false) 1 (by rfl) (by rfl) Try.underlying56 infoB (by rfl) (by decide) (by omega) (ls.map (·.f1)) A1 ls.length c1 (okC ok (.slice A0 ls.length c0) w.heap.size) (fun _ => False) (by rfl) (by rfl) (by first | exact blk_new w1 _ | exact e0 | exact e1) (by have hh : base ≤ w.heap.size := HB.out; have hh2 := B1.out.size; first | omega | (simp; omega)) (.inr (by have hh2 := B1.out.size; first | omega | (simp; omega) | simp)) (rr_keep HO.out (by first | exact bx1 B1.out B1.out.size _ | exact B1.out)) (fun _ _ h => h) (fun _ h => h.elim) (fun k hk => .inr (cp_sz (by first | exact bx1 B1.out B1.out.size _ | exact B1.out) hk)) (by omega) ?_; intro v2 w2 hr hat hbl hkp; obtain ⟨P2, p2, rfl, hlp2, _⟩ := Kd.R_reads hr; have B2 := Aside0.mk (cp_bel (w := w) (n := w.heap.size) (by first | exact bx1 B1.out B1.out.size _ | exact B1.out) hbl (by have hh2 := B1.out.size; first | omega | (simp; omega) | simp)); have Q2 := Aside0.mk (Kd.Q_of_R hr); have Q1b := Aside0.mk (q_keep_blk (W1 := w2) (by first | exact Kd.Q_alloc Q1.out _ | exact Q1.out) (by first | exact blk_new w1 _ | exact e0 | exact e1) E24o hkp); have y0 := cell_old (p := ⟨g, 0, none⟩) B2.out hgl hg0; have y1 := cell_old (p := ⟨g, 1, none⟩) B2.out hgl hg1; clear hr hat hbl hkp
          refine hK.out _ _ ?sa14 (fun hSw => ?ta14)
          case sa14 => (first | exact ⟨y0, y1⟩ | exact ⟨cell_alloc1 y0 _, cell_alloc1 y1 _⟩ | exact ⟨x0, x1⟩ | exact ⟨cell_alloc1 x0 _, cell_alloc1 x1 _⟩ | exact ⟨hg0, hg1⟩ | exact ⟨cell_alloc1 hg0 _, cell_alloc1 hg1 _⟩ | exact ⟨cell_alloc2 hg0 _ _, cell_alloc2 hg1 _ _⟩)
          clear hK K
          try simp only [Act.put, List.setIfInBounds_toArray, List.set_cons_zero, List.set_cons_succ]
          refine takeP (i := 12) (v := ?va15) rfl (by kernel_rfl) (by kernel_rfl) (by kernel_rfl) (by rfl) (fun _ _ _ h => h) (Or.inl ⟨by rfl, ?ha15⟩) (by assumption) ?ra15
          case ha15 => ((intro w hSw'); (try dsimp only at hSw'); go_simp; (try with_reducible rfl))
          try simp only [Act.put, List.setIfInBounds_toArray, List.set_cons_zero, List.set_cons_succ]
          refine anyT_all (rs := [13]) (by kernel_rfl) (by simp) (consT rfl (fun K hK => ?ba16) AllT.nil)
          case ba16 =>
            go_simp
            refine hK.out _ _ ?sa16 (fun hSw => ?ta16)
            case sa16 => (first | exact ⟨y0, y1⟩ | exact ⟨cell_alloc1 y0 _, cell_alloc1 y1 _⟩ | exact ⟨x0, x1⟩ | exact ⟨cell_alloc1 x0 _, cell_alloc1 x1 _⟩ | exact ⟨hg0, hg1⟩ | exact ⟨cell_alloc1 hg0 _, cell_alloc1 hg1 _⟩ | exact ⟨cell_alloc2 hg0 _ _, cell_alloc2 hg1 _ _⟩)
            clear hK K
            try simp only [Act.put, List.setIfInBounds_toArray, List.set_cons_zero, List.set_cons_succ]
            refine takeP (i := 14) (v := ?va17) rfl (by kernel_rfl) (by kernel_rfl) (by kernel_rfl) (by rfl) (fun _ _ _ h => h) (Or.inl ⟨by rfl, ?ha17⟩) (by assumption) ?ra17
            case ha17 => ((intro w hSw'); (try dsimp only at hSw'); go_simp; (try with_reducible rfl))
            try simp only [Act.put, List.setIfInBounds_toArray, List.set_cons_zero, List.set_cons_succ]
            refine anyT_done (by kernel_rfl) ?_ _
            go_wp2
            go_ret
            have hz := B2.out.size
            have hbb := HB.out
            simp only [List.length_map] at Q1b Q2 ⊢
            refine ⟨?_, bx1 B2.out hz _⟩
            first | exact ⟨_, rfl, ⟨_, _, ⟨blk_new _ _, by omega, Kd.Q_alloc Q1b.out _, Kd.Q_alloc Q2.out _⟩⟩, hz⟩ | exact ⟨_, rfl, _, ⟨_, ⟨blk_new _ _, by omega, Kd.Q_alloc Q1b.out _, Kd.Q_alloc Q2.out _⟩⟩, hz⟩ | (trace_state; sorry)
    case ba11 =>
      go_simp
      refine hK.out _ _ ?sa11 (fun hSw => ?ta11)
      case sa11 => (first | exact ⟨y0, y1⟩ | exact ⟨cell_alloc1 y0 _, cell_alloc1 y1 _⟩ | exact ⟨x0, x1⟩ | exact ⟨cell_alloc1 x0 _, cell_alloc1 x1 _⟩ | exact ⟨hg0, hg1⟩ | exact ⟨cell_alloc1 hg0 _, cell_alloc1 hg1 _⟩ | exact ⟨cell_alloc2 hg0 _ _, cell_alloc2 hg1 _ _⟩)
      clear hK K
      try simp only [Act.put, List.setIfInBounds_toArray, List.set_cons_zero, List.set_cons_succ]
      refine anyT_all (rs := [5]) (by kernel_rfl) (by simp) (consT rfl (fun K hK => ?ba18) AllT.nil)
      case ba18 =>
        refine app_new_step (Rr := Kd.M k24 w base (fun k => (ok k ∧ some k ≠ (Value.slice A0 ls.length c0).ownBlock) ∧ k < w.heap.size)) k24 base _ (by rfl) (.tmp 3) (.tmp 7) 55 24 (.agg #[.string ⟨#[]⟩, .slice none 0 0]) 40 (by rfl) (by rfl) Try.underlying55 infoGp (by rfl) (by decide) (by omega) (ls.map (·.f0)) A0 ls.length c0 (okC ok (.slice A0 ls.length c0) w.heap.size) (fun k => (ok k ∧ some k ≠ (Value.slice A0 ls.length c0).ownBlock) ∧ k < w.heap.size) (by rfl) (by rfl) (by first | exact c1_0 w.drew _ | exact c2_0 w.drew _ _ | exact c2_1 w.drew _ _) (by have hh : base ≤ w.heap.size := HB.out; first | exact hh | (simp; done) | (simp; omega) | omega) (.inr (by simp)) (ReadsRow.imp_ HM.out (by first | exact bw1 _ _ | exact bw2 _ _ _) (fun _ _ hp => hp)) (fun _ _ hp => Kd.M_below hp (by first | exact bw1 _ _ | exact bw2 _ _ _)) (fun k hk => ⟨.inl hk.1, by have := hk.2; simp at *; omega⟩) (fun k hk => .inr (cp_sz (by first | exact bw1 _ _ | exact bw2 _ _ _) hk)) (by omega) ?_; intro v1 w1 hr hat hbl hkp; obtain ⟨P1, p1, rfl, hlp1, _⟩ := Kd.R_reads hr; have B1 := Aside0.mk (cp_bel (w := w) (n := w.heap.size) (by first | exact bw1 _ _ | exact bw2 _ _ _) hbl (by simp)); have Q1 := Aside0.mk (Kd.Q_of_R hr); (first | have e0 : w1.heap[w.heap.size]? = some (.cells #[] 4 (0, 0)) := blk_keptb (by first | exact c1_0 w.drew _ | exact c2_0 w.drew _ _ | exact c2_1 w.drew _ _) hkp (by simp) | have e0 := True.intro); (first | have e1 : w1.heap[w.heap.size + 1]? = some (.cells #[] 4 (0, 0)) := blk_keptb (by first | exact c1_0 w.drew _ | exact c2_0 w.drew _ _ | exact c2_1 w.drew _ _) hkp (by simp) | have e1 := True.intro); have x0 := cell_old (p := ⟨g, 0, none⟩) B1.out hgl hg0; have x1 := cell_old (p := ⟨g, 1, none⟩) B1.out hgl hg1; clear hr hat hbl hkp
        refine hK.out _ _ ?sa18 (fun hSw => ?ta18)
        case sa18 => (first | exact ⟨y0, y1⟩ | exact ⟨cell_alloc1 y0 _, cell_alloc1 y1 _⟩ | exact ⟨x0, x1⟩ | exact ⟨cell_alloc1 x0 _, cell_alloc1 x1 _⟩ | exact ⟨hg0, hg1⟩ | exact ⟨cell_alloc1 hg0 _, cell_alloc1 hg1 _⟩ | exact ⟨cell_alloc2 hg0 _ _, cell_alloc2 hg1 _ _⟩)
        clear hK K
        try simp only [Act.put, List.setIfInBounds_toArray, List.set_cons_zero, List.set_cons_succ]
        refine anyT_all (rs := [11]) (by kernel_rfl) (by simp) (consT rfl (fun K hK => ?ba19) AllT.nil)
        case ba19 =>
          refine app_new_step (Rr := Kd.K Kd.bool w) Kd.bool base _ (by rfl) (.tmp 9) (.tmp 13) 56 4 (.bool false) 1 (by rfl) (by rfl) Try.underlying56 infoB (by rfl) (by decide) (by omega) (ls.map (·.f1)) A1 ls.length c1 (okC ok (.slice A0 ls.length c0) w.heap.size) (fun _ => False) (by rfl) (by rfl) (by first | exact blk_new w1 _ | exact e0 | exact e1) (by have hh : base ≤ w.heap.size := HB.out; have hh2 := B1.out.size; first | omega | (simp; omega)) (.inr (by have hh2 := B1.out.size; first | omega | (simp; omega) | simp)) (rr_keep HO.out (by first | exact bx1 B1.out B1.out.size _ | exact B1.out)) (fun _ _ h => h) (fun _ h => h.elim) (fun k hk => .inr (cp_sz (by first | exact bx1 B1.out B1.out.size _ | exact B1.out) hk)) (by omega) ?_; intro v2 w2 hr hat hbl hkp; obtain ⟨P2, p2, rfl, hlp2, _⟩ := Kd.R_reads hr; have B2 := Aside0.mk (cp_bel (w := w) (n := w.heap.size) (by first | exact bx1 B1.out B1.out.size _ | exact B1.out) hbl (by have hh2 := B1.out.size; first | omega | (simp; omega) | simp)); have Q2 := Aside0.mk (Kd.Q_of_R hr); have Q1b := Aside0.mk (q_keep_blk (W1 := w2) (by first | exact Kd.Q_alloc Q1.out _ | exact Q1.out) (by first | exact blk_new w1 _ | exact e0 | exact e1) E24o hkp); have y0 := cell_old (p := ⟨g, 0, none⟩) B2.out hgl hg0; have y1 := cell_old (p := ⟨g, 1, none⟩) B2.out hgl hg1; clear hr hat hbl hkp
          refine hK.out _ _ ?sa19 (fun hSw => ?ta19)
          case sa19 => (first | exact ⟨y0, y1⟩ | exact ⟨cell_alloc1 y0 _, cell_alloc1 y1 _⟩ | exact ⟨x0, x1⟩ | exact ⟨cell_alloc1 x0 _, cell_alloc1 x1 _⟩ | exact ⟨hg0, hg1⟩ | exact ⟨cell_alloc1 hg0 _, cell_alloc1 hg1 _⟩ | exact ⟨cell_alloc2 hg0 _ _, cell_alloc2 hg1 _ _⟩)
          clear hK K
          try simp only [Act.put, List.setIfInBounds_toArray, List.set_cons_zero, List.set_cons_succ]
          refine takeP (i := 12) (v := ?va20) rfl (by kernel_rfl) (by kernel_rfl) (by kernel_rfl) (by rfl) (fun _ _ _ h => h) (Or.inl ⟨by rfl, ?ha20⟩) (by assumption) ?ra20
          case ha20 => ((intro w hSw'); (try dsimp only at hSw'); go_simp; (try with_reducible rfl))
          try simp only [Act.put, List.setIfInBounds_toArray, List.set_cons_zero, List.set_cons_succ]
          refine anyT_all (rs := [13]) (by kernel_rfl) (by simp) (consT rfl (fun K hK => ?ba21) AllT.nil)
          case ba21 =>
            go_simp
            refine hK.out _ _ ?sa21 (fun hSw => ?ta21)
            case sa21 => (first | exact ⟨y0, y1⟩ | exact ⟨cell_alloc1 y0 _, cell_alloc1 y1 _⟩ | exact ⟨x0, x1⟩ | exact ⟨cell_alloc1 x0 _, cell_alloc1 x1 _⟩ | exact ⟨hg0, hg1⟩ | exact ⟨cell_alloc1 hg0 _, cell_alloc1 hg1 _⟩ | exact ⟨cell_alloc2 hg0 _ _, cell_alloc2 hg1 _ _⟩)
            clear hK K
            try simp only [Act.put, List.setIfInBounds_toArray, List.set_cons_zero, List.set_cons_succ]
            refine takeP (i := 14) (v := ?va22) rfl (by kernel_rfl) (by kernel_rfl) (by kernel_rfl) (by rfl) (fun _ _ _ h => h) (Or.inl ⟨by rfl, ?ha22⟩) (by assumption) ?ra22
            case ha22 => ((intro w hSw'); (try dsimp only at hSw'); go_simp; (try with_reducible rfl))
            try simp only [Act.put, List.setIfInBounds_toArray, List.set_cons_zero, List.set_cons_succ]
            refine anyT_done (by kernel_rfl) ?_ _
            go_wp2
            go_ret
            have hz := B2.out.size
            have hbb := HB.out
            simp only [List.length_map] at Q1b Q2 ⊢
            refine ⟨?_, bx1 B2.out hz _⟩
            first | exact ⟨_, rfl, ⟨_, _, ⟨blk_new _ _, by omega, Kd.Q_alloc Q1b.out _, Kd.Q_alloc Q2.out _⟩⟩, hz⟩ | exact ⟨_, rfl, _, ⟨_, ⟨blk_new _ _, by omega, Kd.Q_alloc Q1b.out _, Kd.Q_alloc Q2.out _⟩⟩, hz⟩ | (trace_state; sorry)
  case ba9 =>
    go_simp
    refine hK.out _ _ ?sa9 (fun hSw => ?ta9)
    case sa9 => (first | exact ⟨y0, y1⟩ | exact ⟨cell_alloc1 y0 _, cell_alloc1 y1 _⟩ | exact ⟨x0, x1⟩ | exact ⟨cell_alloc1 x0 _, cell_alloc1 x1 _⟩ | exact ⟨hg0, hg1⟩ | exact ⟨cell_alloc1 hg0 _, cell_alloc1 hg1 _⟩ | exact ⟨cell_alloc2 hg0 _ _, cell_alloc2 hg1 _ _⟩)
    clear hK K
    try simp only [Act.put, List.setIfInBounds_toArray, List.set_cons_zero, List.set_cons_succ]
    refine anyT_all (rs := [0]) (by kernel_rfl) (by simp) (consT rfl (fun K hK => ?ba23) AllT.nil)
    case ba23 =>
      go_simp
      refine hK.out _ _ ?sa23 (fun hSw => ?ta23)
      case sa23 => (first | exact ⟨y0, y1⟩ | exact ⟨cell_alloc1 y0 _, cell_alloc1 y1 _⟩ | exact ⟨x0, x1⟩ | exact ⟨cell_alloc1 x0 _, cell_alloc1 x1 _⟩ | exact ⟨hg0, hg1⟩ | exact ⟨cell_alloc1 hg0 _, cell_alloc1 hg1 _⟩ | exact ⟨cell_alloc2 hg0 _ _, cell_alloc2 hg1 _ _⟩)
      clear hK K
      try simp only [Act.put, List.setIfInBounds_toArray, List.set_cons_zero, List.set_cons_succ]
      refine anyT_all (rs := [5]) (by kernel_rfl) (by simp) (consT rfl (fun K hK => ?ba24) AllT.nil)
      case ba24 =>
        refine app_new_step (Rr := Kd.M k24 w base (fun k => (ok k ∧ some k ≠ (Value.slice A0 ls.length c0).ownBlock) ∧ k < w.heap.size)) k24 base _ (by rfl) (.tmp 3) (.tmp 7) 55 24 (.agg #[.string ⟨#[]⟩, .slice none 0 0]) 40 (by rfl) (by rfl) Try.underlying55 infoGp (by rfl) (by decide) (by omega) (ls.map (·.f0)) A0 ls.length c0 (okC ok (.slice A0 ls.length c0) w.heap.size) (fun k => (ok k ∧ some k ≠ (Value.slice A0 ls.length c0).ownBlock) ∧ k < w.heap.size) (by rfl) (by rfl) (by first | exact c1_0 w.drew _ | exact c2_0 w.drew _ _ | exact c2_1 w.drew _ _) (by have hh : base ≤ w.heap.size := HB.out; first | exact hh | (simp; done) | (simp; omega) | omega) (.inr (by simp)) (ReadsRow.imp_ HM.out (by first | exact bw1 _ _ | exact bw2 _ _ _) (fun _ _ hp => hp)) (fun _ _ hp => Kd.M_below hp (by first | exact bw1 _ _ | exact bw2 _ _ _)) (fun k hk => ⟨.inl hk.1, by have := hk.2; simp at *; omega⟩) (fun k hk => .inr (cp_sz (by first | exact bw1 _ _ | exact bw2 _ _ _) hk)) (by omega) ?_; intro v1 w1 hr hat hbl hkp; obtain ⟨P1, p1, rfl, hlp1, _⟩ := Kd.R_reads hr; have B1 := Aside0.mk (cp_bel (w := w) (n := w.heap.size) (by first | exact bw1 _ _ | exact bw2 _ _ _) hbl (by simp)); have Q1 := Aside0.mk (Kd.Q_of_R hr); (first | have e0 : w1.heap[w.heap.size]? = some (.cells #[] 4 (0, 0)) := blk_keptb (by first | exact c1_0 w.drew _ | exact c2_0 w.drew _ _ | exact c2_1 w.drew _ _) hkp (by simp) | have e0 := True.intro); (first | have e1 : w1.heap[w.heap.size + 1]? = some (.cells #[] 4 (0, 0)) := blk_keptb (by first | exact c1_0 w.drew _ | exact c2_0 w.drew _ _ | exact c2_1 w.drew _ _) hkp (by simp) | have e1 := True.intro); have x0 := cell_old (p := ⟨g, 0, none⟩) B1.out hgl hg0; have x1 := cell_old (p := ⟨g, 1, none⟩) B1.out hgl hg1; clear hr hat hbl hkp
        refine hK.out _ _ ?sa24 (fun hSw => ?ta24)
        case sa24 => (first | exact ⟨y0, y1⟩ | exact ⟨cell_alloc1 y0 _, cell_alloc1 y1 _⟩ | exact ⟨x0, x1⟩ | exact ⟨cell_alloc1 x0 _, cell_alloc1 x1 _⟩ | exact ⟨hg0, hg1⟩ | exact ⟨cell_alloc1 hg0 _, cell_alloc1 hg1 _⟩ | exact ⟨cell_alloc2 hg0 _ _, cell_alloc2 hg1 _ _⟩)
        clear hK K
        try simp only [Act.put, List.setIfInBounds_toArray, List.set_cons_zero, List.set_cons_succ]
        refine anyT_all (rs := [11]) (by kernel_rfl) (by simp) (consT rfl (fun K hK => ?ba25) AllT.nil)
        case ba25 =>
          refine app_new_step (Rr := Kd.K Kd.bool w) Kd.bool base _ (by rfl) (.tmp 9) (.tmp 13) 56 4 (.bool false) 1 (by rfl) (by rfl) Try.underlying56 infoB (by rfl) (by decide) (by omega) (ls.map (·.f1)) A1 ls.length c1 (okC ok (.slice A0 ls.length c0) w.heap.size) (fun _ => False) (by rfl) (by rfl) (by first | exact blk_new w1 _ | exact e0 | exact e1) (by have hh : base ≤ w.heap.size := HB.out; have hh2 := B1.out.size; first | omega | (simp; omega)) (.inr (by have hh2 := B1.out.size; first | omega | (simp; omega) | simp)) (rr_keep HO.out (by first | exact bx1 B1.out B1.out.size _ | exact B1.out)) (fun _ _ h => h) (fun _ h => h.elim) (fun k hk => .inr (cp_sz (by first | exact bx1 B1.out B1.out.size _ | exact B1.out) hk)) (by omega) ?_; intro v2 w2 hr hat hbl hkp; obtain ⟨P2, p2, rfl, hlp2, _⟩ := Kd.R_reads hr; have B2 := Aside0.mk (cp_bel (w := w) (n := w.heap.size) (by first | exact bx1 B1.out B1.out.size _ | exact B1.out) hbl (by have hh2 := B1.out.size; first | omega | (simp; omega) | simp)); have Q2 := Aside0.mk (Kd.Q_of_R hr); have Q1b := Aside0.mk (q_keep_blk (W1 := w2) (by first | exact Kd.Q_alloc Q1.out _ | exact Q1.out) (by first | exact blk_new w1 _ | exact e0 | exact e1) E24o hkp); have y0 := cell_old (p := ⟨g, 0, none⟩) B2.out hgl hg0; have y1 := cell_old (p := ⟨g, 1, none⟩) B2.out hgl hg1; clear hr hat hbl hkp
          refine hK.out _ _ ?sa25 (fun hSw => ?ta25)
          case sa25 => (first | exact ⟨y0, y1⟩ | exact ⟨cell_alloc1 y0 _, cell_alloc1 y1 _⟩ | exact ⟨x0, x1⟩ | exact ⟨cell_alloc1 x0 _, cell_alloc1 x1 _⟩ | exact ⟨hg0, hg1⟩ | exact ⟨cell_alloc1 hg0 _, cell_alloc1 hg1 _⟩ | exact ⟨cell_alloc2 hg0 _ _, cell_alloc2 hg1 _ _⟩)
          clear hK K
          try simp only [Act.put, List.setIfInBounds_toArray, List.set_cons_zero, List.set_cons_succ]
          refine takeP (i := 12) (v := ?va26) rfl (by kernel_rfl) (by kernel_rfl) (by kernel_rfl) (by rfl) (fun _ _ _ h => h) (Or.inl ⟨by rfl, ?ha26⟩) (by assumption) ?ra26
          case ha26 => ((intro w hSw'); (try dsimp only at hSw'); go_simp; (try with_reducible rfl))
          try simp only [Act.put, List.setIfInBounds_toArray, List.set_cons_zero, List.set_cons_succ]
          refine anyT_all (rs := [13]) (by kernel_rfl) (by simp) (consT rfl (fun K hK => ?ba27) AllT.nil)
          case ba27 =>
            go_simp
            refine hK.out _ _ ?sa27 (fun hSw => ?ta27)
            case sa27 => (first | exact ⟨y0, y1⟩ | exact ⟨cell_alloc1 y0 _, cell_alloc1 y1 _⟩ | exact ⟨x0, x1⟩ | exact ⟨cell_alloc1 x0 _, cell_alloc1 x1 _⟩ | exact ⟨hg0, hg1⟩ | exact ⟨cell_alloc1 hg0 _, cell_alloc1 hg1 _⟩ | exact ⟨cell_alloc2 hg0 _ _, cell_alloc2 hg1 _ _⟩)
            clear hK K
            try simp only [Act.put, List.setIfInBounds_toArray, List.set_cons_zero, List.set_cons_succ]
            refine takeP (i := 14) (v := ?va28) rfl (by kernel_rfl) (by kernel_rfl) (by kernel_rfl) (by rfl) (fun _ _ _ h => h) (Or.inl ⟨by rfl, ?ha28⟩) (by assumption) ?ra28
            case ha28 => ((intro w hSw'); (try dsimp only at hSw'); go_simp; (try with_reducible rfl))
            try simp only [Act.put, List.setIfInBounds_toArray, List.set_cons_zero, List.set_cons_succ]
            refine anyT_done (by kernel_rfl) ?_ _
            go_wp2
            go_ret
            have hz := B2.out.size
            have hbb := HB.out
            simp only [List.length_map] at Q1b Q2 ⊢
            refine ⟨?_, bx1 B2.out hz _⟩
            first | exact ⟨_, rfl, ⟨_, _, ⟨blk_new _ _, by omega, Kd.Q_alloc Q1b.out _, Kd.Q_alloc Q2.out _⟩⟩, hz⟩ | exact ⟨_, rfl, _, ⟨_, ⟨blk_new _ _, by omega, Kd.Q_alloc Q1b.out _, Kd.Q_alloc Q2.out _⟩⟩, hz⟩ | (trace_state; sorry)
end Go.Proofs.Ytkifmhfgplhabaa.HQ
