/-
  CONTRACTS BY HAND (sign, 42): slices.Compact of a row of choices.
-/
import Derived.Test.YtpkcnifchggbnaaSpC
import Derived.Deep.QuietTactic
import Derived.BigQuiet
namespace Go.Proofs.Ytpkcnifchggbnaa.HI
open Go.RowKit Go.Proofs.Ytpkcnifchggbnaa.HD Go.Proofs.Ytpkcnifchggbnaa.HK Go.Proofs.Ytpkcnifchggbnaa.HU Go.Proofs.YtpkcnifchggbnaaW.PrintWords Go.Proofs.YtpkcnifchggbnaaW.PrintLast Go.Proofs.YtpkcnifchggbnaaW.PrintMore
set_option linter.unusedVariables false
set_option linter.unusedSimpArgs false
/-- the first m ones, each but where it is as the one ahead of it -/
def dp (l : List Cho) : Nat → List Cho
  | 0 => []
  | m + 1 => if h : 0 < m ∧ m < l.length then (if eqC (l[m - 1]'(by omega)) l[m] = true then dp l m else dp l m ++ [l[m]]) else dp l m ++ (l.drop m).take 1
theorem dp_dup {l : List Cho} {m : Nat} (h : m < l.length) (h0 : 0 < m) (he : l[m - 1]'(by omega) = l[m]) : dp l (m + 1) = dp l m := by
  rw [dp, dif_pos ⟨h0, h⟩, if_pos (eqC_iff.2 he)]
theorem dp_new {l : List Cho} {m : Nat} (h : m < l.length) (h0 : 0 < m) (he : l[m - 1]'(by omega) ≠ l[m]) : dp l (m + 1) = dp l m ++ [l[m]] := by
  rw [dp, dif_pos ⟨h0, h⟩, if_neg (fun e => he (eqC_iff.1 e))]
theorem dp_one (l : List Cho) : dp l 1 = l.take 1 := by
  rw [dp, dif_neg (by omega)]
  simp [dp]
theorem set_five (P S : List Value) (a b c d e v0 v1 v2 v3 v4 : Value) (n : Nat) (hn : P.length = n) :
    (((((P ++ ([a, b, c, d, e] ++ S)).set n v0).set (n + 1) v1).set (n + 2) v2).set (n + 3) v3).set (n + 4) v4 = P ++ ([v0, v1, v2, v3, v4] ++ S) := by
  subst hn
  simp [List.set_append_right]
theorem flat_set (ys : List Cho) (k : Nat) (x : Cho) (hk : k < ys.length) : flat ys = flat (ys.take k) ++ (encC ys[k] ++ flat (ys.drop (k + 1))) ∧ flat (ys.set k x) = flat (ys.take k) ++ (encC x ++ flat (ys.drop (k + 1))) := by
  constructor
  · conv => lhs; rw [← List.take_append_drop k ys, List.drop_eq_getElem_cons hk]
    rw [flat_app]
    rfl
  · rw [List.set_eq_take_append_cons_drop, if_pos hk, flat_app]
    rfl
theorem blk_five {W : World} {b : Nat} {ys : List Cho} {sp : List Value} (h : Blk W b ys sp) (k : Nat) (hk : k < ys.length) (x : Cho) :
    Blk (((((W.setCell ⟨b, k * 5, none⟩ (.int .i64 x.f0)).setCell ⟨b, k * 5 + 1, none⟩ (.int .i64 x.f1)).setCell ⟨b, k * 5 + 2, none⟩ (.int .i64 x.f2)).setCell ⟨b, k * 5 + 3, none⟩ (.int .i64 x.f3)).setCell ⟨b, k * 5 + 4, none⟩ (.int .i64 x.f4)) b (ys.set k x) sp := by
  obtain ⟨e1, e2⟩ := flat_set ys k x hk
  unfold Blk at h ⊢
  have h1 := blk_put (blk_put (blk_put (blk_put (blk_put h (k * 5) (.int .i64 x.f0) rfl) (k * 5 + 1) (.int .i64 x.f1) rfl) (k * 5 + 2) (.int .i64 x.f2) rfl) (k * 5 + 3) (.int .i64 x.f3) rfl) (k * 5 + 4) (.int .i64 x.f4) rfl
  rw [h1]
  have hl : (flat (ys.take k)).length = k * 5 := by rw [flat_len, List.length_take, Nat.min_eq_left (by omega)]
  have h5 := set_five (flat (ys.take k)) (flat (ys.drop (k + 1)) ++ sp) (.int .i64 ys[k].f0) (.int .i64 ys[k].f1) (.int .i64 ys[k].f2) (.int .i64 ys[k].f3) (.int .i64 ys[k].f4) (.int .i64 x.f0) (.int .i64 x.f1) (.int .i64 x.f2) (.int .i64 x.f3) (.int .i64 x.f4) (k * 5) hl
  have e3 : flat ys ++ sp = flat (ys.take k) ++ ([.int .i64 ys[k].f0, .int .i64 ys[k].f1, .int .i64 ys[k].f2, .int .i64 ys[k].f3, .int .i64 ys[k].f4] ++ (flat (ys.drop (k + 1)) ++ sp)) := by
    rw [e1]
    simp only [encC, List.append_assoc]
  have e4 : flat (ys.set k x) ++ sp = flat (ys.take k) ++ ([.int .i64 x.f0, .int .i64 x.f1, .int .i64 x.f2, .int .i64 x.f3, .int .i64 x.f4] ++ (flat (ys.drop (k + 1)) ++ sp)) := by
    rw [e2]
    simp only [encC, List.append_assoc]
  rw [e3, e4, ← h5]
  simp only [List.setIfInBounds_toArray]
/-- clear(s[k:]), s a row of choices -/
theorem run_clear {W : World} {b k n : Nat} {ys : List Cho} {sp : List Value} (h : Blk W b ys sp) (hn : ys.length = n) (hk : k ≤ n) :
    ∃ W' sp', (∀ ty c', (Builtin.clear_ #[22] ty #[.slice (some ⟨b, k * 5, none⟩) (n - k) c']).run Try.prog W = .ok (.tuple #[]) W') ∧ Blk W' b (ys.take k) sp' ∧ (ys.take k).length * 5 + sp'.length = ys.length * 5 + sp.length ∧ ∀ B w0, Below B w0 W → B ≤ b → Below B w0 W' := by
  subst hn
  rcases Nat.lt_or_ge k ys.length with hlt | hge
  · obtain ⟨m, hm⟩ : ∃ m, ys.length - k = m + 1 := ⟨ys.length - k - 1, by omega⟩
    have hzl : (Builtin.zeroCells (Value.agg #[.int .i64 0, .int .i64 0, .int .i64 0, .int .i64 0, .int .i64 0]).cells (m + 1)).toList.length = (m + 1) * 5 := zero_len _
    have hz1 : ∀ v ∈ (Builtin.zeroCells (Value.agg #[.int .i64 0, .int .i64 0, .int .i64 0, .int .i64 0, .int .i64 0]).cells (m + 1)).toList, v.oneCell' = true := by
      intro v hv
      simp only [Builtin.zeroCells, Array.toList_map, List.mem_map] at hv
      obtain ⟨i, _, rfl⟩ := hv
      have h5 : i % 5 < 5 := Nat.mod_lt _ (by decide)
      rcases (by omega : i % 5 = 0 ∨ i % 5 = 1 ∨ i % 5 = 2 ∨ i % 5 = 3 ∨ i % 5 = 4) with h | h | h | h | h <;> simp [Value.cells, h, Value.oneCell']
    generalize hZ : (Builtin.zeroCells (Value.agg #[.int .i64 0, .int .i64 0, .int .i64 0, .int .i64 0, .int .i64 0]).cells (m + 1)).toList = Z at hzl hz1
    have hst := run_storeCells_at Try.prog b (k * 5) 24 Z 0 _ W h (by simp [flat_len, hzl]; omega) hz1
    simp only [Nat.add_zero, List.toList_toArray] at hst
    have hall : (flat ys ++ sp).take (k * 5) ++ Z ++ (flat ys ++ sp).drop (k * 5 + Z.length) = flat (ys.take k) ++ (Z ++ sp) := by
      rw [List.take_append_of_le_length (by rw [flat_len]; omega), flat_take ys k (by omega), List.drop_append, List.drop_eq_nil_of_le (by rw [flat_len, hzl]; omega), List.nil_append, List.append_assoc]
      congr 2
      rw [flat_len, hzl, show k * 5 + (m + 1) * 5 - ys.length * 5 = 0 by omega, List.drop_zero]
    rw [hall] at hst
    refine ⟨_, Z ++ sp, fun ty c' => ?_, setRow_heap W b _ _ _ _ h, by rw [List.length_take, List.length_append, hzl]; omega, fun B w0 hb hB => below_setRow hb hB _⟩
    rw [hm]
    simp [Builtin.clear_, run_underlying Try.underlying22, Try.zeroValue24, hZ, hst]
  · have hk0 : ys.length - k = 0 := by omega
    have ht : ys.take k = ys := List.take_of_length_le hge
    refine ⟨W, sp, fun ty c' => ?_, by rw [ht]; exact h, by rw [ht], fun B w0 hb _ => hb⟩
    rw [hk0]
    simp [Builtin.clear_, run_underlying Try.underlying22]
attribute [local go_sem high] Qsbase.eqA24
theorem eqB {x y : Cho} (h : x = y) : (x.f0 == y.f0 && (x.f1 == y.f1 && (x.f2 == y.f2 && (x.f3 == y.f3 && x.f4 == y.f4)))) = true := by
  subst h
  simp
theorem neB {x y : Cho} (h : x ≠ y) : (x.f0 == y.f0 && (x.f1 == y.f1 && (x.f2 == y.f2 && (x.f3 == y.f3 && x.f4 == y.f4)))) = false := by
  cases hb : (x.f0 == y.f0 && (x.f1 == y.f1 && (x.f2 == y.f2 && (x.f3 == y.f3 && x.f4 == y.f4)))) with
  | false => rfl
  | true =>
    simp only [Bool.and_eq_true, beq_iff_eq] at hb
    obtain ⟨h0, h1, h2, h3, h4⟩ := hb
    exact absurd (ch_ext h0 h1 h2 h3 h4) h
theorem blk_C {W : World} {b : Nat} {ys : List Cho} {sp : List Value} (h : Blk W b ys sp) (hm : ys.length ≤ maxLen) : Kd.C k24 W (some ⟨b, 0, none⟩) ys.length ys :=
  ⟨rfl, hm, fun _ => ⟨_, rfl, fun j p hj => by
    obtain ⟨hj1, rfl⟩ := List.getElem?_eq_some_iff.1 hj
    refine ⟨encC ys[j], rfl, k24_mk W ys[j], fun i u hu => ?_⟩
    have hi : i < 5 := by
      rcases Nat.lt_or_ge i 5 with h1 | h1
      · exact h1
      · rw [List.getElem?_eq_none (by simpa [encC] using h1)] at hu; cases hu
    rw [add_plain, blk_cells h]
    have hg := flat_get ys j ys[j] (List.getElem?_eq_getElem hj1)
    have hlt : j * 5 + i < (flat ys).length := by rw [flat_len]; omega
    show (flat ys ++ sp)[j * 5 + i]? = some u
    rw [List.getElem?_append_left hlt, ← hu, ← hg, List.getElem?_take, if_pos hi, List.getElem?_drop]⟩⟩
/-- an element's five cells -/
theorem five_at {W : World} {b : Nat} {ys : List Cho} {sp : List Value} (h : Blk W b ys sp) (k : Nat) (hk : k < ys.length) (x : Cho) (hx : ys[k] = x) :
    W.cell? ⟨b, k * 5, none⟩ = some (.int .i64 x.f0) ∧ W.cell? ⟨b, k * 5 + 1, none⟩ = some (.int .i64 x.f1) ∧ W.cell? ⟨b, k * 5 + 2, none⟩ = some (.int .i64 x.f2) ∧ W.cell? ⟨b, k * 5 + 3, none⟩ = some (.int .i64 x.f3) ∧ W.cell? ⟨b, k * 5 + 4, none⟩ = some (.int .i64 x.f4) := by
  subst hx
  have hg := flat_get ys k ys[k] (List.getElem?_eq_getElem hk)
  have hc : ∀ i, i < 5 → W.cell? ⟨b, k * 5 + i, none⟩ = (encC ys[k])[i]? := fun i hi => by
    rw [blk_cells h, List.getElem?_append_left (by rw [flat_len]; omega), ← hg, List.getElem?_take, if_pos hi, List.getElem?_drop]
  exact ⟨hc 0 (by decide), hc 1 (by decide), hc 2 (by decide), hc 3 (by decide), hc 4 (by decide)⟩
theorem five_free {W : World} {b : Nat} {ys : List Cho} {sp : List Value} (h : Blk W b ys sp) (k : Nat) : W.frozen? ⟨b, k, none⟩ = false := blk_frozen h k
theorem blk_drewN {W : World} {b : Nat} {ys : List Cho} {sp : List Value} (h : Blk W b ys sp) (q : Nat) : Blk (W.drewN q) b ys sp := h
theorem add_pos (b i : Nat) : (⟨b, 0, none⟩ : Addr).add i = ⟨b, i, none⟩ := by
  rw [add_plain]
theorem below5' {B b : Nat} {w0 w : World} {o0 o1 o2 o3 o4 : Nat} {v0 v1 v2 v3 v4 : Value} (h : Below B w0 w) (hb : B ≤ b) : Below B w0 (((((w.setCell ⟨b, o0, none⟩ v0).setCell ⟨b, o1, none⟩ v1).setCell ⟨b, o2, none⟩ v2).setCell ⟨b, o3, none⟩ v3).setCell ⟨b, o4, none⟩ v4) :=
  ((((h.setCell (p := ⟨b, o0, none⟩) hb _).setCell (p := ⟨b, o1, none⟩) hb _).setCell (p := ⟨b, o2, none⟩) hb _).setCell (p := ⟨b, o3, none⟩) hb _).setCell (p := ⟨b, o4, none⟩) hb _
set_option maxHeartbeats 8000000 in
set_option maxRecDepth 100000 in
theorem compact_c {W : World} {base : Nat} {ok : Nat → Prop} {v : Value} {xs : List Cho} (h : Kd.R k24 24 W base ok v xs) (hl : xs.length ≤ 1000) :
    Calls Try.prog 36 #[v] W fun e w' => ∃ v', e = .returned v' ∧ Kd.R k24 24 w' base ok v' (dp xs xs.length) ∧ Below base W w' := by
  have HR := Aside0.mk h
  obtain ⟨A, c, hv, hc, _⟩ := Kd.R_reads h
  by_cases h2 : xs.length < 2
  · have hd : dp xs xs.length = xs := by
      rcases (by omega : xs.length = 0 ∨ xs.length = 1) with h0 | h0
      · rw [h0]
        exact (List.eq_nil_of_length_eq_zero h0).symm
      · rw [h0, dp_one, List.take_of_length_le (by omega)]
    have HD := Aside0.mk hd
    clear hd h
    subst hv
    go_enter Try.func36, Try.ntmps36
    go_wp2
    go_ret
    exact ⟨_, rfl, by rw [HD.out]; exact HR.out, Below.refl _ _⟩
  · rcases R_block h with ⟨_, h0⟩ | ⟨b, c2, sp, hv2, hB, hbb, hok, hc2, hcm, hsp⟩
    · rw [h0] at h2; simp at h2
    · obtain ⟨n, hn⟩ : ∃ n, n = xs.length := ⟨_, rfl⟩
      have HN := Aside0.mk hn
      have HB0 := Aside0.mk hB
      have HF := Aside0.mk (And.intro hbb (And.intro hok (And.intro hcm hsp)))
      clear h hv hc HR
      subst hv2
      rw [← hn] at h2 hl hc2 ⊢
      clear hn hB hsp hcm hok
      go_enter Try.func36, Try.ntmps36
      go_wp2
      go_loopw [3] (fun v3 wr => ∃ k : Nat, v3 = .int .i64 (k : Int) ∧ 1 ≤ k ∧ k ≤ n ∧ Aside0 (dp xs k = xs.take k) ∧ Aside0 (Blk wr b xs sp) ∧ Aside0 (Below base W wr)) (fun v3 _ => n - (intOf v3).toNat)
      case atStart => exact ⟨1, rfl, by omega, by omega, ⟨dp_one xs⟩, HB0, ⟨Below.refl _ _⟩⟩
      case round =>
        obtain ⟨k, rfl, hk1, hkn, HD, HB, HBL⟩ := hrel
        obtain ⟨w1, rfl⟩ : ∃ w1 : World, w1 = wr := ⟨_, rfl⟩
        clear HB0
        by_cases hlt : k < n
        · have hxk : k < xs.length := by have := HN.out; omega
          have hxk' : k - 1 < xs.length := by omega
          have hi1 : IntKind.i64.wrap ((k : Int) - 1) = (k : Int) - 1 := i64w (by omega) (by omega)
          have hi2 : (0 : Int) ≤ (k : Int) - 1 := by omega
          have hi3 : (k : Int) - 1 < (n : Int) := by omega
          have hi4 : ((k : Int) - 1).toNat = k - 1 := by omega
          have hi5 : IntKind.i64.wrap ((k : Int) + 1) = (k : Int) + 1 := i64w (by omega) (by omega)
          obtain ⟨x0, x1, x2, x3, x4⟩ := five_at HB.out k hxk xs[k] rfl
          obtain ⟨y0, y1, y2, y3, y4⟩ := five_at HB.out (k - 1) hxk' xs[k - 1] rfl
          by_cases hxy : xs[k - 1] = xs[k]
          · have HDP := Aside0.mk (dp_dup hxk hk1 hxy)
            have hE := eqB hxy.symm
            rw [hxy] at y0 y1 y2 y3 y4 hE
            have hE2 : xs[k].f0 == xs[k].f0 := by simp
            clear hxy
            clear hE hE2
            generalize xs[k] = x at x0 x1 x2 x3 x4 y0 y1 y2 y3 y4
            have hck : ¬ (c2 = k) := by omega
            have hkz : (k : Int) ≤ (n : Int) := by omega
            go_wp2_with fail
            go_quiet (fail)
            have HB2 := Aside0.mk (blk_drewN HB.out nq)
            have HL2 := Aside0.mk (pw_below_drewN HBL.out nq)
            clear x0 x1 x2 x3 x4 y0 y1 y2 y3 y4 HB HBL
            generalize w1.drewN nq = w2 at HB2 HL2 ⊢
            go_wp2
            go_loopw [3, 5] (fun v3 v5 wr => ∃ (j i : Nat) (ys : List Cho), v5 = .int .i64 (j : Int) ∧ v3 = .int .i64 (i : Int) ∧ 1 ≤ j ∧ k + j ≤ n ∧ i ≤ k + j - 1 ∧ Aside0 (ys.length = n) ∧ Aside0 (ys.take i = dp xs (k + j)) ∧ Aside0 (∀ t, k + j - 1 ≤ t → ys[t]? = xs[t]?) ∧ Aside0 (Blk wr b ys sp) ∧ Aside0 (Below base W wr)) (fun _ v5 _ => n - (intOf v5).toNat)
            case atStart => exact ⟨1, k, xs, rfl, rfl, by omega, by omega, by omega, ⟨HN.out.symm⟩, ⟨by rw [HDP.out, HD.out]⟩, ⟨fun _ _ => rfl⟩, HB2, HL2⟩
            case round =>
              obtain ⟨j, i, ys, rfl, rfl, hj1, hkj, hik, HYN, HYD, HYX, HBY, HLY⟩ := hrel
              obtain ⟨w3, rfl⟩ : ∃ w3 : World, w3 = wr := ⟨_, rfl⟩
              clear HB2 HL2
              by_cases hltj : k + j < n
              · have hxk2 : k + j < xs.length := by have := HN.out; omega
                have hxk3 : k + j - 1 < xs.length := by omega
                have hyk2 : k + j < ys.length := by have := HYN.out; omega
                have hyk3 : k + j - 1 < ys.length := by omega
                have hyi : i < ys.length := by omega
                have ey : ys[k + j] = xs[k + j] := by
                  have h := HYX.out (k + j) (by omega)
                  rw [List.getElem?_eq_getElem hyk2, List.getElem?_eq_getElem hxk2] at h
                  exact Option.some.inj h
                have ey' : ys[k + j - 1] = xs[k + j - 1] := by
                  have h := HYX.out (k + j - 1) (by omega)
                  rw [List.getElem?_eq_getElem hyk3, List.getElem?_eq_getElem hxk3] at h
                  exact Option.some.inj h
                obtain ⟨x0, x1, x2, x3, x4⟩ := five_at HBY.out (k + j) hyk2 xs[k + j] ey
                obtain ⟨y0, y1, y2, y3, y4⟩ := five_at HBY.out (k + j - 1) hyk3 xs[k + j - 1] ey'
                rw [show (k + j) * 5 = k * 5 + j * 5 by omega] at x0 x1 x2 x3 x4
                rw [show (k + j - 1) * 5 = k * 5 + (j - 1) * 5 by omega] at y0 y1 y2 y3 y4
                clear ey ey'
                have hj1' : IntKind.i64.wrap ((j : Int) - 1) = (j : Int) - 1 := i64w (by omega) (by omega)
                have hj2 : (0 : Int) ≤ (j : Int) - 1 := by omega
                have hj4 : ((j : Int) - 1).toNat = j - 1 := by omega
                have hj5 : IntKind.i64.wrap ((j : Int) + 1) = (j : Int) + 1 := i64w (by omega) (by omega)
                have hjn : j < n - k := by omega
                have hjm : (j : Int) - 1 < ((n - k : Nat) : Int) := by omega
                have hin : i < n := by omega
                have hi6 : IntKind.i64.wrap ((i : Int) + 1) = (i : Int) + 1 := i64w (by omega) (by omega)
                by_cases hxy : xs[k + j - 1] = xs[k + j]
                · have HDQ := Aside0.mk (dp_dup hxk2 (by omega) hxy)
                  have hE := eqB hxy.symm
                  rw [hxy] at y0 y1 y2 y3 y4
                  clear hxy hE
                  generalize xs[k + j] = z at x0 x1 x2 x3 x4 y0 y1 y2 y3 y4
                  go_wp2_with fail
                  go_quiet (fail)
                  go_wp2
                  exact ⟨⟨j + 1, i, ys, by go_num, rfl, by omega, by omega, by omega, HYN, ⟨by rw [HYD.out, ← Nat.add_assoc, HDQ.out]⟩, ⟨fun t ht => HYX.out t (by omega)⟩, ⟨blk_drewN HBY.out _⟩, ⟨pw_below_drewN HLY.out _⟩⟩, by simp [intOf]; omega⟩
                · have HDQ := Aside0.mk (dp_new hxk2 (by omega) hxy)
                  have hE := neB (Ne.symm hxy)
                  clear hxy
                  generalize xs[k + j] = z at *
                  generalize xs[k + j - 1] = z' at *
                  obtain ⟨o0, o1, o2, o3, o4⟩ := five_at HBY.out i hyi ys[i] rfl
                  have f0 := five_free HBY.out (i * 5)
                  have f1 := five_free HBY.out (i * 5 + 1)
                  have f2 := five_free HBY.out (i * 5 + 2)
                  have f3 := five_free HBY.out (i * 5 + 3)
                  have f4 := five_free HBY.out (i * 5 + 4)
                  go_wp2_with fail
                  go_quiet (fail)
                  go_wp2
                  have hset : (ys.set i z).take (i + 1) = ys.take i ++ [z] := by
                    rw [List.take_succ_eq_append_getElem (by rw [List.length_set]; exact hyi), List.getElem_set_self, List.take_set_of_le (Nat.le_refl _)]
                  exact ⟨⟨j + 1, i + 1, ys.set i z, by go_num, by go_num, by omega, by omega, by omega, ⟨by rw [List.length_set]; exact HYN.out⟩, ⟨by rw [hset, HYD.out, ← Nat.add_assoc, HDQ.out]⟩, ⟨fun t ht => by rw [List.getElem?_set_ne (by omega)]; exact HYX.out t (by omega)⟩, ⟨blk_five (blk_drewN HBY.out _) i hyi z⟩, ⟨below5' (pw_below_drewN HLY.out _) hbb⟩⟩, by simp [intOf]; omega⟩
              · obtain ⟨W', sp', hclr, hBW, hlen, hbel⟩ := run_clear HBY.out HYN.out (show i ≤ n by omega)
                have hbw := hbel base W HLY.out hbb
                have HBW := Aside0.mk hBW
                have HBE := Aside0.mk hbw
                have hli : (ys.take i).length = i := by rw [List.length_take]; have := HYN.out; omega
                have HLI := Aside0.mk hli
                have HLN := Aside0.mk hlen
                have hci : ¬ (c2 = i) := by omega
                have hin : i < n := by omega
                have hii : (i : Int) ≤ (n : Int) := by omega
                have hic : i ≤ c2 := by omega
                have HKJ := Aside0.mk (show k + j = n by omega)
                clear hBW hbel hli hlen hbw HBY
                go_wp2
                go_ret
                have hR := R_of_block HBW.out HF.out.1 HF.out.2.1 HF.out.2.2.1 (by have := HLN.out; have := HF.out.2.2.2; have := HYN.out; have := HN.out; omega)
                rw [HLI.out] at hR
                have hdx : dp xs n = ys.take i := by rw [HYD.out, HKJ.out]
                exact ⟨_, rfl, by rw [hdx]; exact hR, HBE.out⟩
          · have HDP := Aside0.mk (dp_new hxk hk1 hxy)
            have hE := neB (Ne.symm hxy)
            have HTK := Aside0.mk (show xs.take k ++ [xs[k]] = xs.take (k + 1) by rw [List.take_succ_eq_append_getElem hxk])
            clear hxy
            generalize xs[k] = x at *
            generalize xs[k - 1] = y at *
            go_wp2_with fail
            go_quiet (fail)
            go_wp2
            exact ⟨⟨k + 1, by go_num, by omega, by omega, ⟨by rw [HDP.out, HD.out, HTK.out]⟩, ⟨blk_drewN HB.out nq⟩, ⟨pw_below_drewN HBL.out nq⟩⟩, by simp [intOf]; omega⟩
        · obtain rfl : k = n := by omega
          go_wp2
          go_ret
          have hdx : dp xs k = xs := by rw [HD.out, List.take_of_length_le (by have := HN.out; omega)]
          have hR := R_of_block HB.out HF.out.1 HF.out.2.1 HF.out.2.2.1 HF.out.2.2.2
          rw [← HN.out] at hR
          exact ⟨_, rfl, by rw [hdx]; exact hR, HBL.out⟩
end Go.Proofs.Ytpkcnifchggbnaa.HI
