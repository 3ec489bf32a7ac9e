/-
  CONTRACTS BY HAND (splits, 2): a split: who asked, sorted, then group by group.
-/
import Derived.Test.YtkifmhfgplhabaaDoorGdA
import Derived.Test.YtkifmhfgplhabaaDoorSrM
import Derived.Test.YtkifmhfgplhabaaDoorGdC
import Derived.Deep.CutRange
import Derived.Deep.QuietTactic
namespace Go.Proofs.YtkifmhfgplhabaaDoor.HQ
open Go.Proofs.YtkifmhfgplhabaaDoor.HU Go.RowKit Go.Proofs.YtkifmhfgplhabaaDoor.HK Go.Proofs.YtkifmhfgplhabaaDoor.HP Go.Proofs.YtkifmhfgplhabaaDoorW.PrintWords Go.Proofs.YtkifmhfgplhabaaDoorW.PrintLast Go.Proofs.YtkifmhfgplhabaaDoorW.PrintMore
set_option linter.unusedVariables false
set_option linter.unusedSimpArgs false
abbrev Ask_ := S40
abbrev Asd := S67
theorem infoA : (Tryd.prog.info? 67).map (fun i => (i.zero, i.size, i.bytes)) = some (some (.agg #[.int .i64 0, .int .i64 0, .int .i64 0]), 3, 24) := by kernel_rfl
/-- who asked for a color, with the rank -/
def pick (asks : List Ask_) (ranks : List Int) (i : Nat) : List Asd := ((asks.zip ranks).take i).filterMap (fun p => if 0 ≤ p.1.f0 then some ⟨p.1, p.2⟩ else none)
theorem pick_succ {asks : List Ask_} {ranks : List Int} {i : Nat} (h1 : i < asks.length) (h2 : i < ranks.length) : pick asks ranks (i + 1) = pick asks ranks i ++ (if 0 ≤ asks[i].f0 then [⟨asks[i], ranks[i]⟩] else []) := by
  unfold pick
  have h : i < (asks.zip ranks).length := by rw [List.length_zip]; omega
  rw [List.take_succ_eq_append_getElem h, List.filterMap_append]
  congr 1
  simp only [List.getElem_zip, List.filterMap_cons, List.filterMap_nil]
  split <;> rename_i he <;> split at he <;> simp_all
theorem pick_len (asks : List Ask_) (ranks : List Int) (i : Nat) : (pick asks ranks i).length ≤ i := by
  unfold pick
  refine Nat.le_trans (List.length_filterMap_le _ _) ?_
  rw [List.length_take]
  omega
theorem newG_dec {L : List Asd} {i : Nat} {xc : Int} (hi0 : i ≠ 0) (hxc : (L.getD i z67).f0.f0 = xc) : decide (newG L i) = ((L.getD (i - 1) z67).f0.f0 != xc) := by
  by_cases h : (L.getD (i - 1) z67).f0.f0 = xc
  · rw [decide_eq_false (fun hn => hn.elim hi0 (fun h2 => h2 (h.trans hxc.symm))), h]
    simp
  · rw [decide_eq_true (.inr (fun h2 => h (h2.trans hxc)))]
    simpa using h
theorem pick_mem {asks : List Ask_} {ranks : List Int} {i : Nat} {x : Asd} (h : x ∈ pick asks ranks i) : x.f0 ∈ asks ∧ 0 ≤ x.f0.f0 ∧ x.f1 ∈ ranks := by
  unfold pick at h
  obtain ⟨p, hp, he⟩ := List.mem_filterMap.1 h
  have hz := List.mem_of_mem_take hp
  obtain ⟨h1, h2⟩ := List.of_mem_zip (a := p.1) (b := p.2) hz
  split at he
  · rename_i h0
    cases he
    exact ⟨h1, h0, h2⟩
  · cases he
theorem sortA_mem {xs : List Asd} {x : Asd} (h : x ∈ HS.sortA xs) : x ∈ xs := by
  unfold HS.sortA at h
  obtain ⟨e, he, rfl⟩ := List.mem_map.1 h
  have := (HS.isort_perm _).mem_iff.1 he
  unfold HS.els at this
  obtain ⟨⟨y, j⟩, hy, rfl⟩ := List.mem_map.1 this
  have := List.mem_zipIdx hy
  have h2 : y ∈ xs := by
    have h3 := this.2.2
    simp at h3
    rw [h3]
    exact List.getElem_mem _
  exact h2
/-- a split's groups -/
def splitG (s : ByteArray) (k : Int) (ranks : List Int) (asks : List Ask_) : List Grp := grps s k (HS.sortA (pick asks ranks asks.length)) (pick asks ranks asks.length).length
set_option maxRecDepth 100000 in
set_option maxHeartbeats 16000000 in
theorem split_c (s : ByteArray) (A : Option Addr) (c : Nat) (ranks : List Int) (k : Int) (A2 : Option Addr) (c2 : Nat) (asks : List Ask_) (w : World) (hr : Kd.C (Kd.int .i64) w A ranks.length ranks) (hc : ranks.length ≤ c) (hr2 : Kd.C k40 w A2 asks.length asks) (hc2 : asks.length ≤ c2)
    (ht : Tab w) (hs : s.size ≤ 10000) (hm : mayB ranks = true) (hk0 : 0 ≤ k) (hk : Rng k) (hcr : ∀ x ∈ asks, Rng x.f0) (hl : asks.length = ranks.length) (hl80 : ranks.length ≤ 80) :
    Calls Tryd.prog 13 #[.agg #[.string s, .slice A ranks.length c], .int .i64 k, .slice A2 asks.length c2] w fun e w' => ∃ (Av : Option Addr) (cv : Nat), e = .returned (.tuple #[.slice Av (splitG s k ranks asks).length cv, .int .i64 0]) ∧ (splitG s k ranks asks).length ≤ cv ∧ Kd.C k24 w' Av (splitG s k ranks asks).length (splitG s k ranks asks) ∧ Below w.heap.size w w' := by
  have b0 := blk_new w (.cells #[.string s, .slice A ranks.length c] 24)
  have hba := below_alloc (Below.refl w.heap.size w) (.cells #[.string s, .slice A ranks.length c] 24)
  have HB0 := Aside0.mk hba
  have HT0 := Aside0.mk (ht.after hba)
  have HR0 := Aside0.mk (Kd.C_below hr hba)
  have HA0 := Aside0.mk (Kd.C_below hr2 hba)
  have HMY := Aside0.mk (may_c s A c ranks (w.alloc (.cells #[.string s, .slice A ranks.length c] 24)) HR0.out hc)
  rw [hm] at HMY
  have p0 : (w.alloc (.cells #[.string s, .slice A ranks.length c] 24)).cell? ⟨w.heap.size, 0, none⟩ = some (.string s) := (blk_cell b0 0).trans rfl
  have p1 : (w.alloc (.cells #[.string s, .slice A ranks.length c] 24)).cell? ⟨w.heap.size, 1, none⟩ = some (.slice A ranks.length c) := (blk_cell b0 1).trans rfl
  have dk : decide (k < 0) = false := decide_eq_false (by omega)
  clear hr hr2 ht hba b0 hm
  go_enter Tryd.func13, Tryd.ntmps13
  go_wp2_with fail
  generalize (w.alloc (.cells #[.string s, .slice A ranks.length c] 24)) = w1 at p0 p1 HB0 HT0 HR0 HA0 HMY ⊢
  have hz0 := HB0.out.size
  generalize hgb : w.heap.size = gb at p0 p1 HB0 hz0 ⊢
  have HGB := Aside0.mk hgb
  clear hgb
  refine HMY.out.mono ?_
  rintro e w2 ⟨rfl, hb⟩
  have HB2 := Aside0.mk (HB0.out.trans (hb.mono hz0))
  have HT2 := Aside0.mk (HT0.out.after hb)
  have HR2 := Aside0.mk (Kd.C_below HR0.out hb)
  have HA2 := Aside0.mk (Kd.C_below HA0.out hb)
  have q0 := pw_cell_below hb p0
  have q1 := pw_cell_below hb p1
  have hz2 := Nat.le_trans hz0 hb.size
  have hgl : gb < w2.heap.size := by
    have h1 : gb < w1.heap.size := by
      rcases Nat.lt_or_ge gb w1.heap.size with h | h
      · exact h
      · have : w1.heap[gb]? = none := Array.getElem?_eq_none h
        simp [World.cell?, this] at p0
    exact Nat.lt_of_lt_of_le h1 hb.size
  have HGL := Aside0.mk hgl
  clear hb HMY HB0 HT0 HR0 HA0 p0 p1 hz0 hgl
  go_wp2_with fail
  go_loopw [8, 32] (fun v8 v32 wr => ∃ i : Nat, i ≤ asks.length ∧ v32 = .int .i64 i ∧ Aside0 (Kd.R k67 67 wr w2.heap.size (fun _ => True) v8 (pick asks ranks i)) ∧ Aside0 (Below w2.heap.size w2 wr)) (fun _ v32 _ => asks.length - (intOf v32).toNat)
  case atStart => exact ⟨0, by omega, rfl, ⟨Kd.R_nil _ _ _ _ _⟩, ⟨Below.refl _ _⟩⟩
  case round =>
    obtain ⟨i, hi, rfl, HO, HL⟩ := hrel
    obtain ⟨w3, rfl⟩ : ∃ w3 : World, w3 = wr := ⟨_, rfl⟩
    by_cases hin : i < asks.length
    · have hi64 : IntKind.i64.wrap ((i : Int) + 1) = (i : Int) + 1 := i64w (by omega) (by omega)
      have hii : (i : Int) < (asks.length : Int) := by omega
      have hir : (i : Int) < (ranks.length : Int) := by omega
      obtain ⟨aA, hAA, a0, a1⟩ := at_T40 (Kd.C_below HA2.out HL.out) (i : Int) (by omega) (by omega)
      obtain ⟨aR, hAR, r0⟩ := Kd.at_int (Kd.C_below HR2.out HL.out) (i : Int) (by omega) (by omega)
      rw [Int.toNat_natCast] at a0 a1 r0
      rw [rd_lt (by omega)] at r0
      have hxa : rd_T40 asks (i : Int) = asks[i] := by simp [rd_T40, hin]
      rw [hxa] at a0 a1
      have HPS := Aside0.mk (pick_succ hin (show i < ranks.length by omega))
      subst hAA hAR
      generalize asks[i] = x at a0 a1 HPS hxa
      generalize ranks[i] = r at r0 HPS
      obtain ⟨xc, xk⟩ := x
      dsimp only at a0 a1 HPS
      have g0 := pw_cell_below HL.out q0
      have g1 := pw_cell_below HL.out q1
      have HIN := Aside0.mk (show i + 1 ≤ asks.length by omega)
      clear hxa
      go_upto_region 7 with fail
      have hba := below_alloc (Below.refl w3.heap.size w3) (.cells #[.int .i64 xc, .int .i64 xk] 40)
      have hb4 := blk_new w3 (.cells #[.int .i64 xc, .int .i64 xk] 40)
      have HO4 := Aside0.mk (Kd.R_below HO.out hba)
      have HL4 := Aside0.mk (below_then HL.out HL.out.size hba)
      have c0 : (w3.alloc (.cells #[.int .i64 xc, .int .i64 xk] 40)).cell? ⟨w3.heap.size, 0, none⟩ = some (.int .i64 xc) := (blk_cell hb4 0).trans rfl
      have c1 : (w3.alloc (.cells #[.int .i64 xc, .int .i64 xk] 40)).cell? ⟨w3.heap.size, 1, none⟩ = some (.int .i64 xk) := (blk_cell hb4 1).trans rfl
      have g2 := pw_cell_below hba g1
      have r2 := pw_cell_below hba r0
      clear hba hb4 HO HL g0 g1 r0 a0 a1
      generalize w3.heap.size = bt at c0 c1 ⊢
      generalize w3.alloc (.cells #[.int .i64 xc, .int .i64 xk] 40) = w4 at HO4 HL4 c0 c1 g2 r2 ⊢
      by_cases hc0 : 0 ≤ xc
      · have hcz : xc ≥ 0 := hc0
        have hpl := pick_len asks ranks i
        have HP5 := Aside0.mk (HPS.out.trans (by rw [if_pos hc0]))
        have HBD := Aside0.mk (show Below w2.heap.size w2 w4.drew from HL4.out.trans (below_drew (Below.refl _ _)))
        have hbs := Aside0.mk (show w2.heap.size ≤ w4.drew.heap.size from HL4.out.size)
        have HO5 := Aside0.mk (show Kd.R k67 67 w4.drew w2.heap.size (fun _ => True) u8 (pick asks ranks i) from Kd.R_below HO4.out (below_drew (Below.refl _ _)))
        generalize pick asks ranks i = ps at HO5 HP5 hpl
        clear HO4 HPS
        go_upto_region 8 with fail
        go_region_law ((refine Kd.R_append_step k67 (w0 := w2) (W := w4.drew) w2.heap.size (by rfl) (.tmp 40) (.tmp 48) 65 67 (.agg #[.int .i64 0, .int .i64 0, .int .i64 0]) 24 (by rfl) Tryd.underlying65 infoA (by rfl) (by decide) (by omega) u8 ps (⟨⟨xc, xk⟩, r⟩ : Asd) [.int .i64 xc, .int .i64 xk, .int .i64 r] (fun _ => True) (fun _ => False) (by rfl) (by rfl) (k67_mkM _ _ _ _) (fun _ h => h.elim) (fun _ _ => trivial) HO5.out HBD.out hbs.out (by omega) ?_; intro v1 w5 ho hbl hgr hat; have HO6 := Aside0.mk ho; have HL6 := Aside0.mk hbl; clear ho hbl hgr hat))
        all_goals (
          rw [← HP5.out] at HO6
          clear HO5 HBD hbs c0 c1 g2 r2 HL4
          go_wp2
          exact ⟨⟨i + 1, HIN.out, by go_num, HO6, HL6⟩, by simp [intOf]; omega⟩)
      · have hcz : ¬ xc ≥ 0 := hc0
        have HP5 := Aside0.mk (HPS.out.trans (by rw [if_neg hc0, List.append_nil]))
        rw [← HP5.out] at HO4
        clear HPS
        go_wp2
        exact ⟨⟨i + 1, HIN.out, by go_num, HO4, HL4⟩, by simp [intOf]; omega⟩
    · obtain rfl : i = asks.length := by omega
      have hpl := pick_len asks ranks asks.length
      have HSG : Aside0 (splitG s k ranks asks = grps s k (HS.sortA (pick asks ranks asks.length)) (pick asks ranks asks.length).length) := ⟨rfl⟩
      obtain ⟨Al, cl, hvl, hcl, HSRT⟩ := HS.sort_any HO.out (by omega)
      have HSR := Aside0.mk HSRT
      have HBS := Aside0.mk (Kd.R_base HO.out)
      subst hvl
      have g0 := pw_cell_below HL.out q0
      have g1 := pw_cell_below HL.out q1
      have HT3 := Aside0.mk (HT2.out.after HL.out)
      have hpr : ∀ x ∈ pick asks ranks asks.length, Rng x.f0.f0 := fun x hx => hcr _ (pick_mem hx).1
      generalize pick asks ranks asks.length = ps at hpr HSG hpl hcl HSR HBS
      clear HSRT HO hi hin
      have HSL := Aside0.mk (HS.sortA_len ps)
      go_wp2_with fail
      refine HSR.out.mono ?_
      rintro e w4 ⟨rfl, hC, hK, hB⟩
      have HL4 := Aside0.mk (HL.out.trans (hB _ HBS.out))
      have HCL := Aside0.mk hC
      have g2 := pw_cell_below HL4.out q0
      have g3 := pw_cell_below HL4.out q1
      have HT4 := Aside0.mk (HT2.out.after HL4.out)
      clear hC hK hB HSR HBS HT3 HT2 g0 g1 q0 q1 HL
      have HLN : Aside0 ((HS.sortA ps).length = ps.length) := ⟨HSL.out⟩
      have HRG := Aside0.mk (fun x hx => hpr x (sortA_mem hx))
      generalize HS.sortA ps = L at HCL HLN HRG HSG
      have hgl4 : gb < w4.heap.size := by have := HGL.out; have := HL4.out.size; omega
      have HG4 := Aside0.mk hgl4
      clear hgl4 HSL
      obtain ⟨n, hn⟩ : ∃ n, n = ps.length := ⟨_, rfl⟩
      rw [← hn] at HCL HLN hpl hcl HSG ⊢
      clear hn
      go_wp2_with fail
      go_loopw [11, 55] (fun v11 v55 wr => ∃ (i B : Nat) (hs : List Hd), i ≤ n ∧ v55 = .int .i64 i ∧ Aside0 (GI wr w4.heap.size B v11 hs (grps s k L i)) ∧ Aside0 (hs.length ≤ i ∧ (0 < i → 0 < hs.length) ∧ w4.heap.size ≤ B) ∧ Aside0 (Below w4.heap.size w4 wr)) (fun _ v55 _ => n - (intOf v55).toNat)
      case atStart => exact ⟨0, w4.heap.size, [], by omega, rfl, ⟨GI.nil _ _⟩, ⟨by simp⟩, ⟨Below.refl _ _⟩⟩
      case round =>
        obtain ⟨i, B, hd, hi, rfl, HGI, HHL, HLW⟩ := hrel
        obtain ⟨w5, rfl⟩ : ∃ w5 : World, w5 = wr := ⟨_, rfl⟩
        by_cases hin : i < n
        · have hi64 : IntKind.i64.wrap ((i : Int) + 1) = (i : Int) + 1 := i64w (by omega) (by omega)
          have hii : (i : Int) < (n : Int) := by omega
          obtain ⟨aL, hAL, x0, x1, x2⟩ := at_T67 (Kd.C_below HCL.out HLW.out) (i : Int) (by omega) (by omega)
          rw [Int.toNat_natCast] at x0 x1 x2
          subst hAL
          have hrd : rd_T67 L (i : Int) = L.getD i z67 := by simp [rd_T67]
          rw [hrd] at x0 x1 x2
          have g4 := pw_cell_below HLW.out g2
          have g5 := pw_cell_below HLW.out g3
          generalize hx : L.getD i z67 = x at x0 x1 x2
          have HX := Aside0.mk hx
          obtain ⟨⟨xc, xk⟩, xr⟩ := x
          dsimp only at x0 x1 x2
          clear hx hrd
          go_upto_region 15 with fail
          have hba := below_alloc (Below.refl w5.heap.size w5) (.cells #[.int .i64 xc, .int .i64 xk, .int .i64 xr] 67)
          have hb6 := blk_new w5 (.cells #[.int .i64 xc, .int .i64 xk, .int .i64 xr] 67)
          have HLW6 := Aside0.mk (below_then HLW.out HLW.out.size hba)
          have HGI6 := Aside0.mk (HGI.out.below hba)
          have c0 : (w5.alloc (.cells #[.int .i64 xc, .int .i64 xk, .int .i64 xr] 67)).cell? ⟨w5.heap.size, 0, none⟩ = some (.int .i64 xc) := (blk_cell hb6 0).trans rfl
          have c2 : (w5.alloc (.cells #[.int .i64 xc, .int .i64 xk, .int .i64 xr] 67)).cell? ⟨w5.heap.size, 2, none⟩ = some (.int .i64 xr) := (blk_cell hb6 2).trans rfl
          have g6 := pw_cell_below hba g4
          have g7 := pw_cell_below hba g5
          have HBX := Aside0.mk hb6
          clear hba hb6 HLW HGI x0 x1 x2 g4 g5
          generalize w5.heap.size = bx at c0 c2 HBX ⊢
          generalize w5.alloc (.cells #[.int .i64 xc, .int .i64 xk, .int .i64 xr] 67) = w6 at c0 c2 g6 g7 HLW6 HGI6 HBX ⊢
          go_cut [74] from 56 to 74 (fun v74 wx => v74 = .bool (decide (newG L i)) ∧ Below w6.heap.size w6 wx)
          case first =>
            by_cases hi0 : i = 0
            · subst hi0
              have hng : decide (newG L 0) = true := decide_eq_true (.inl rfl)
              go_quiet (fail)
              go_wp2_with fail
              go_meet
              exact ⟨by rw [hng], pw_below_drewN (Below.refl _ _) nq⟩
            · obtain ⟨aM, hAM, y0, y1, y2⟩ := at_T67 (Kd.C_below HCL.out HLW6.out) ((i - 1 : Nat) : Int) (by omega) (by omega)
              rw [Int.toNat_natCast] at y0
              injection hAM with hAM
              subst hAM
              have hrd : rd_T67 L ((i - 1 : Nat) : Int) = L.getD (i - 1) z67 := by simp [rd_T67]
              rw [hrd] at y0
              have hng := newG_dec hi0 (show (L.getD i z67).f0.f0 = xc by rw [HX.out])
              have HNG := Aside0.mk hng
              clear hng hrd y1 y2
              generalize (L.getD (i - 1) z67).f0.f0 = pc at y0 HNG
              have wi1 : IntKind.i64.wrap ((i : Int) - 1) = ((i - 1 : Nat) : Int) := (i64w (by omega) (by omega)).trans (by omega)
              have hz1 : ((i : Int) == 0) = false := beq_eq_false_iff_ne.2 (by omega)
              have f1 : (0 : Int) ≤ ((i - 1 : Nat) : Int) := by omega
              have f2 : ((i - 1 : Nat) : Int) < (n : Int) := by omega
              have f3 : (((i - 1 : Nat) : Int)).toNat = i - 1 := by omega
              obtain ⟨i1, hi1⟩ : ∃ i1, i1 = i - 1 := ⟨_, rfl⟩
              rw [← hi1] at y0 wi1 f1 f2 f3
              clear hi1
              go_quiet (fail)
              go_wp2_with fail
              go_meet
              exact ⟨by rw [HNG.out], pw_below_drewN (Below.refl _ _) nq⟩
          case rest =>
            obtain ⟨rfl, hbq⟩ := hcut
            have e0 := pw_cell_below hbq c0
            have e2 := pw_cell_below hbq c2
            have g8 := pw_cell_below hbq g6
            have g9 := pw_cell_below hbq g7
            have HLW7 := Aside0.mk (below_then HLW6.out HLW6.out.size hbq)
            have HGI7 := Aside0.mk (HGI6.out.below hbq)
            have HT7 := Aside0.mk (HT4.out.after HLW7.out)
            have HBX7 := Aside0.mk (blk_below HBX.out hbq)
            have hgs : grps s k L (i + 1) = addR xr (if newG L i then grps s k L i ++ [⟨keyG s k xc, []⟩] else grps s k L i) := by
              show addR (L.getD i z67).f1 _ = _
              rw [HX.out]
            clear c0 c2 g6 g7 HLW6 HGI6 hbq HBX
            by_cases hng : newG L i
            · rw [if_pos hng] at hgs
              rw [decide_eq_true hng]
              have HGS := Aside0.mk hgs
              clear hgs hng
              have HGL := Aside0.mk (grps_len s k L i)
              generalize grps s k L i = gs at HGS HGI7 HGL
              have hxr : Rng xc := by
                have h1 : i < L.length := by rw [HLN.out]; exact hin
                have h2 := HRG.out (L.getD i z67) (by simp [List.getD, h1])
                rw [HX.out] at h2
                exact h2
              have hz1 : (childB s k).size ≤ 10100 := by
                unfold childB
                rw [ByteArray.size_append, ByteArray.size_append]
                have := itoB_size hk
                have h1 : (⟨#[46]⟩ : ByteArray).size = 1 := rfl
                omega
              have hz2 := itoB_size hxr
              have HCH := Aside0.mk (child_c s (.slice A ranks.length c) k wc.drew hk HT7.out.drew (by omega))
              have HIT := Aside0.mk (fun (W : World) (hT : Tab W) => itoa_c xc W hxr hT)
              have HKY := Aside0.mk (show keyG s k xc = childB s k ++ ⟨#[58]⟩ ++ itoB xc from rfl)
              generalize hky : keyG s k xc = ky at HKY HGS
              clear hky
              generalize childB s k = t1 at HCH hz1 HKY
              generalize itoB xc = t2 at HIT hz2 HKY
              have hs1 : ¬ 9223372036854775807 < t1.size + 1 := by omega
              have hs2 : ¬ 9223372036854775807 < t1.size + 1 + t2.size := by omega
              have hdl : hd.length ≤ 80 := by have := HHL.out.1; omega
              go_upto_region 16 with fail
              go_region_held3 (fun W => W.cell? ⟨gb, 0, none⟩ = some (.string s) ∧ W.cell? ⟨gb, 1, none⟩ = some (.slice A ranks.length c) ∧ W.cell? ⟨bx, 0, none⟩ = some (.int .i64 xc))
                (first | exact ⟨s3_0, s3_1, s3_2⟩ | exact ⟨s2_0, s2_1, s2_2⟩ | exact ⟨cell_alloc1 s2_0 _, cell_alloc1 s2_1 _, cell_alloc1 s2_2 _⟩ | exact ⟨s1_0, s1_1, s1_2⟩ | exact ⟨g8, g9, e0⟩)
                (first
                  | (go_at_call 25; with_reducible refine HCH.out.mono ?_; rintro e wA ⟨rfl, hb⟩; have HBA := Aside0.mk (below_of_drew hb); have s1_0 := pw_cell_below HBA.out g8; have s1_1 := pw_cell_below HBA.out g9; have s1_2 := pw_cell_below HBA.out e0; clear hb)
                  | (go_at_call 33; with_reducible refine (HIT.out wA (HT7.out.after HBA.out)).mono ?_; rintro e wB ⟨rfl, hb⟩; have HBB := Aside0.mk (below_then HBA.out HBA.out.size hb); have s2_0 := pw_cell_below HBB.out g8; have s2_1 := pw_cell_below HBB.out g9; have s2_2 := pw_cell_below HBB.out e0; have HGI8 := Aside0.mk (HGI7.out.below HBB.out); have HLW8 := Aside0.mk (below_then HLW7.out HLW7.out.size HBB.out); clear hb)
                  | (refine app_one_step kH (w0 := w4) w4.heap.size wB.heap.size (by rfl) (.tmp 75) (.tmp 86) 33 24 (.agg #[.string ⟨#[]⟩, .slice none 0 0]) 40 (by rfl) Tryd.underlying33 infoG (by rfl) (by decide) (by omega) u11 hd ((t1 ++ ⟨#[58]⟩ ++ t2, (none, 0, 0)) : Hd) [.string (t1 ++ ⟨#[58]⟩ ++ t2), .slice none 0 0] (fun _ => True) (fun _ => False) (by rfl) (by rfl) (blk_new wB _) (kH_mkM _ _ _ _) (fun _ h => h.elim) (fun _ _ => trivial) (Kd.Q_alloc HGI8.out.row _) (HLW8.out.alloc HLW8.out.size _) (Nat.le_trans HLW8.out.size (by rw [World.size_alloc]; omega)) (by omega) ?_; intro v1 w8 hq hbl hgr hat; have HGI9 := Aside0.mk (GI.push ((HGI8.out).below (below_alloc (Below.refl _ _) _)) hq hgr); have HLW9 := Aside0.mk hbl; have s3_0 := pw_cell_below hbl g2; have s3_1 := pw_cell_below hbl g3; have HBX9 := Aside0.mk (box_grown (Kd.Q_alloc HGI8.out.row _) (blk_alloc (blk_below HBX7.out HBB.out) _) hgr); have s3_2 := (blk_cell HBX9.out 0).trans rfl; clear hq hbl hgr hat))
              all_goals (
                rw [HKY.out] at HGS
                have hdl2 : (hd ++ [((t1 ++ ⟨#[58]⟩ ++ t2, (none, 0, 0)) : Hd)]).length ≤ i + 1 := by rw [List.length_append, List.length_singleton]; have := HHL.out.1; omega
                have hdp2 : 0 < (hd ++ [((t1 ++ ⟨#[58]⟩ ++ t2, (none, 0, 0)) : Hd)]).length := by rw [List.length_append, List.length_singleton]; omega
                clear s1_0 s1_1 s1_2 s2_0 s2_1 s2_2 s3_0 s3_1 s3_2 g8 g9 e0 e2 HBA HBB HGI8 HLW8 HGI7 HLW7 HBX7 HCH HIT HT7 hs1 hs2 hz1 hz2 HKY
                generalize hd ++ [((t1 ++ ⟨#[58]⟩ ++ t2, (none, 0, 0)) : Hd)] = hd1 at HGI9 hdl2 hdp2
                have HGL2 : Aside0 (∀ g ∈ gs ++ [(⟨t1 ++ ⟨#[58]⟩ ++ t2, []⟩ : Grp)], g.f1.length ≤ i) := ⟨fun g hg => by
                  rcases List.mem_append.1 hg with hg | hg
                  · exact HGL.out g hg
                  · rw [List.mem_singleton.1 hg]; exact Nat.zero_le _⟩
                have HB9 := Aside0.mk HLW9.out.size
                generalize gs ++ [(⟨t1 ++ ⟨#[58]⟩ ++ t2, []⟩ : Grp)] = gs1 at HGI9 HGS HGL2
                obtain ⟨m, hm⟩ : ∃ m, m + 1 = hd1.length := ⟨hd1.length - 1, by omega⟩
                obtain ⟨xh, hxh⟩ : ∃ x, hd1[m]? = some x := ⟨hd1[m]'(by omega), by simp⟩
                obtain ⟨xg, hxg⟩ : ∃ x, gs1[m]? = some x := ⟨gs1[m]'(by have := HGI9.out.len; omega), by simp⟩
                obtain ⟨gB, o, cap, hv, hgbb, _, _⟩ := Kd.Q_form HGI9.out.row (by omega)
                subst hv
                have HGBB := Aside0.mk hgbb
                clear hgbb
                rw [← hm] at HGI9 ⊢
                have hml : m + 1 ≤ 81 := by omega
                have HXH := Aside0.mk hxh
                have HXG := Aside0.mk hxg
                have HMM := Aside0.mk hm
                have hgd := HGI9.out.below (below_drew (Below.refl w8.heap.size w8))
                have HGD := Aside0.mk hgd
                obtain ⟨z1, zf1⟩ := Qh_cell HGI9.out.row (m := m) (by omega) hxh
                have HBD := Aside0.mk (blk_below HBX9.out (below_drew (Below.refl w8.heap.size w8)))
                have b2 : w8.cell? ⟨bx, 2, none⟩ = some (.int .i64 xr) := (blk_cell HBX9.out 2).trans rfl
                have wm1 : IntKind.i64.wrap (((m + 1 : Nat) : Int) - 1) = (m : Int) := (i64w (by omega) (by omega)).trans (by omega)
                have wm2 : IntKind.i64.wrap ((m : Int) + 1 - 1) = (m : Int) := (i64w (by omega) (by omega)).trans (by omega)
                have fm1 : (m : Int) < (m : Int) + 1 := by omega
                have hlst := HGD.out.last m xh xg hm hxh hxg
                have HLST := Aside0.mk hlst
                have HLEN := Aside0.mk (HGL2.out xg (List.mem_of_getElem? hxg))
                obtain ⟨xkey, xA, xn, xcap⟩ := xh
                dsimp only at z1
                clear hxh hxg hm hgd hlst
                have HBB0 := HB9
                go_upto_region 17 with fail
                go_wp2_with fail
                go_region_law ((refine Kd.R_append_step (Kd.int .i64) (w0 := w8.drew) (W := w8.drew) w8.heap.size (by rfl) (.tmp 97) (.tmp 100) 22 3 (.int .i64 0) 8 (by rfl) Tryd.underlying22 infoI (by rfl) (by decide) (by omega) (.slice xA xn xcap) xg.f1 xr [.int .i64 xr] (fun _ => True) (fun _ => False) (by rfl) (by rfl) rfl (fun _ h => h.elim) (fun _ _ => trivial) HLST.out (Below.refl _ _) HGD.out.hB (by have := HLEN.out; omega) ?_; intro v2 w9 ho hbl hgr hat; obtain ⟨A9, c9, rfl, hl9, _⟩ := Kd.R_reads ho; have row9 := GI.row_grown HGD.out HMM.out HXH.out HXG.out hgr; obtain ⟨cz, fz⟩ := Qh_cell row9 (m := m) (by omega) HXH.out; have HEND := Aside0.mk (GI.put HGD.out HMM.out HXH.out HXG.out ho hbl hgr); have HBE := Aside0.mk (hbl.mono HBB0.out); clear ho hbl hgr hat row9))
                all_goals (
                  have HGF := Aside0.mk (HGS.out.trans (addR_put (by have := HGI9.out.len; have := HMM.out; omega) HXG.out))
                  rw [← HGF.out] at HEND
                  clear cz fz z1 zf1 b2 HGI9 HBX9 HGD HBD HLST HGF HGS
                  have HLF := Aside0.mk (((HLW9.out.trans (below_drew (Below.refl w4.heap.size w8))).trans HBE.out).setCell (p := ⟨gB, o + m * 2 + 1, none⟩) HGBB.out (.slice A9 (xg.f1 ++ [xr]).length c9))
                  rw [List.length_append, List.length_singleton] at HEND HLF
                  have HHF : Aside0 ((hd1.set m (xkey, (A9, xg.f1.length + 1, c9))).length ≤ i + 1 ∧ (0 < i + 1 → 0 < (hd1.set m (xkey, (A9, xg.f1.length + 1, c9))).length) ∧ w4.heap.size ≤ w8.heap.size) := ⟨by rw [List.length_set]; have := HMM.out; omega, by rw [List.length_set]; have := HMM.out; omega, HBB0.out⟩
                  go_wp2
                  refine ⟨⟨i + 1, w8.heap.size, _, by omega, by go_num, HEND, HHF, HLF⟩, ?_⟩
                  simp [intOf]
                  omega))
            · rw [if_neg hng] at hgs
              rw [decide_eq_false hng]
              have HGS := Aside0.mk hgs
              have hdp : 0 < hd.length := HHL.out.2.1 (Nat.pos_of_ne_zero (fun h => hng (.inl h)))
              clear hgs hng
              have HGL := Aside0.mk (grps_len s k L i)
              generalize grps s k L i = gs at HGS HGI7 HGL
              have hdl2 : hd.length ≤ i + 1 := by have := HHL.out.1; omega
              obtain ⟨m, hm⟩ : ∃ m, m + 1 = hd.length := ⟨hd.length - 1, by omega⟩
              obtain ⟨xh, hxh⟩ : ∃ x, hd[m]? = some x := ⟨hd[m]'(by omega), by simp⟩
              obtain ⟨xg, hxg⟩ : ∃ x, gs[m]? = some x := ⟨gs[m]'(by have := HGI7.out.len; omega), by simp⟩
              obtain ⟨gB, o, cap, hv, hgbb, _, _⟩ := Kd.Q_form HGI7.out.row (by omega)
              subst hv
              have HGBB := Aside0.mk hgbb
              clear hgbb
              rw [← hm] at HGI7 ⊢
              have hml : m + 1 ≤ 81 := by omega
              have HXH := Aside0.mk hxh
              have HXG := Aside0.mk hxg
              have HMM := Aside0.mk hm
              have hgd := HGI7.out.below (below_drew (Below.refl wc.heap.size wc))
              have HGD := Aside0.mk hgd
              obtain ⟨z1, zf1⟩ := Qh_cell HGI7.out.row (m := m) (by omega) hxh
              have HBD := Aside0.mk (blk_below HBX7.out (below_drew (Below.refl wc.heap.size wc)))
              have b2 : wc.cell? ⟨bx, 2, none⟩ = some (.int .i64 xr) := (blk_cell HBX7.out 2).trans rfl
              have wm1 : IntKind.i64.wrap (((m + 1 : Nat) : Int) - 1) = (m : Int) := (i64w (by omega) (by omega)).trans (by omega)
              have wm2 : IntKind.i64.wrap ((m : Int) + 1 - 1) = (m : Int) := (i64w (by omega) (by omega)).trans (by omega)
              have fm1 : (m : Int) < (m : Int) + 1 := by omega
              have hlst := HGD.out.last m xh xg hm hxh hxg
              have HLST := Aside0.mk hlst
              have HLEN := Aside0.mk (HGL.out xg (List.mem_of_getElem? hxg))
              obtain ⟨xkey, xA, xn, xcap⟩ := xh
              dsimp only at z1
              clear hxh hxg hm hgd hlst
              have HBB0 := Aside0.mk HHL.out.2.2
              go_upto_region 17 with fail
              go_wp2_with fail
              go_region_law ((refine Kd.R_append_step (Kd.int .i64) (w0 := wc.drew) (W := wc.drew) B (by rfl) (.tmp 97) (.tmp 100) 22 3 (.int .i64 0) 8 (by rfl) Tryd.underlying22 infoI (by rfl) (by decide) (by omega) (.slice xA xn xcap) xg.f1 xr [.int .i64 xr] (fun _ => True) (fun _ => False) (by rfl) (by rfl) rfl (fun _ h => h.elim) (fun _ _ => trivial) HLST.out (Below.refl _ _) HGD.out.hB (by have := HLEN.out; omega) ?_; intro v2 w9 ho hbl hgr hat; obtain ⟨A9, c9, rfl, hl9, _⟩ := Kd.R_reads ho; have row9 := GI.row_grown HGD.out HMM.out HXH.out HXG.out hgr; obtain ⟨cz, fz⟩ := Qh_cell row9 (m := m) (by omega) HXH.out; have HEND := Aside0.mk (GI.put HGD.out HMM.out HXH.out HXG.out ho hbl hgr); have HBE := Aside0.mk (hbl.mono HBB0.out); clear ho hbl hgr hat row9))
              all_goals (
                have HGF := Aside0.mk (HGS.out.trans (addR_put (by have := HGI7.out.len; have := HMM.out; omega) HXG.out))
                rw [← HGF.out] at HEND
                clear cz fz z1 zf1 b2 HGI7 HBX7 HGD HBD HLST HGF HGS
                have HLF := Aside0.mk (((HLW7.out.trans (below_drew (Below.refl w4.heap.size wc))).trans HBE.out).setCell (p := ⟨gB, o + m * 2 + 1, none⟩) HGBB.out (.slice A9 (xg.f1 ++ [xr]).length c9))
                rw [List.length_append, List.length_singleton] at HEND HLF
                have HHF : Aside0 ((hd.set m (xkey, (A9, xg.f1.length + 1, c9))).length ≤ i + 1 ∧ (0 < i + 1 → 0 < (hd.set m (xkey, (A9, xg.f1.length + 1, c9))).length) ∧ w4.heap.size ≤ B) := ⟨by rw [List.length_set]; have := HMM.out; omega, by rw [List.length_set]; have := HMM.out; omega, HBB0.out⟩
                go_wp2
                refine ⟨⟨i + 1, B, _, by omega, by go_num, HEND, HHF, HLF⟩, ?_⟩
                simp [intOf]
                omega)
        · obtain rfl : i = n := by omega
          obtain ⟨Av, cv, hv, hcv, hCv⟩ := HGI.out.reads
          subst hv
          have HCV := Aside0.mk hCv
          have hfin := (HB2.out.trans (HL4.out.mono hz2)).trans (HLW.out.mono (by have := HG4.out; omega))
          have HFIN := Aside0.mk hfin
          rw [← HSG.out] at hcv HCV ⊢
          clear hCv hfin
          go_wp2
          go_ret2
          exact ⟨_, _, rfl, hcv, HCV.out, by rw [HGB.out]; exact HFIN.out⟩
end Go.Proofs.YtkifmhfgplhabaaDoor.HQ
