/- GroupSplits: whatever comes in, the law answers true, and what came in reads as it did; the tables that it lists are tied to the program's text. No condition. -/
import Derived.Test.YtkifmhfgplhabaaDoorHRg
import Derived.Test.YtkifmhfgplhabaaDoorGdA
import Derived.Test.YtkifmhfgplhabaaDoorRows
import Derived.Test.YtkifmhfgplhabaaDoorTie
import Derived.Test.YtkifmhfgplhabaaDoorCards
import Derived.LaidMore
import Derived.Stop.Joined
import Derived.WalkKit
import Derived.Below
import Derived.SevenTiedAt
import Derived.Test.YtkifmhfgplhabaaDoorGpB
import Derived.Test.YtkifmhfgplhabaaDoorGdB
import Derived.Test.YtkifmhfgplhabaaDoorQgnbasex1
import Derived.Test.YtkifmhfgplhabaaDoorQcsbasex1
import Derived.Deep.RegionHeld3
import Derived.Deep.QuietTactic
import Derived.BigQuiet
import Derived.Deep.LoopGhost
import Derived.ProofKit
import Derived.OpenShut
import Derived.ShutString
import Derived.ChangeOld
import Derived.SizedLaws
import Derived.Lib.SmallJoins
namespace Go.Proofs.YtkifmhfgplhabaaDoor.HR
open Go.RowKit Go.Joins Go.ChangeShapes Go.WideShapes Go.Deep Go.Proofs.YtkifmhfgplhabaaDoor.HK Go.Proofs.YtkifmhfgplhabaaDoor.HQ Go.Proofs.YtkifmhfgplhabaaDoorW.PrintWords Go.Proofs.YtkifmhfgplhabaaDoorW.PrintLast Go.Proofs.YtkifmhfgplhabaaDoorW.PrintMore
set_option linter.unusedVariables false
theorem rng_of {n : Int} (h : (Lit.int .i64 n).wf = true) : Rng n := by
  simp only [Lit.wf, Bool.and_eq_true, decide_eq_true_eq] at h
  exact ⟨h.1, h.2⟩
section
variable {H : Type} {enc : TypeId × Value → H} {w : World} {sp : Nat → Bool} {held : Bool}
theorem open_kdP {α : Type} {P : Program} (d : Kd α) (p : α → Prop) {t e : TypeId} (ht : P.underlying t = some (.slice e)) (hsz : P.cellsOf e = d.sz)
    (hel : ∀ n cs y, cs.length = d.sz → DataW.trod enc P w 0 sp held n e cs = some y → ∃ x, d.K w x cs ∧ p x)
    {fuel : Nat} {v : Value} {x : DataW H × List MemPlace} (h : DataW.trod enc P w 0 sp held fuel t [v] = some x) :
    ∃ A c xs, v = .slice A xs.length c ∧ xs.length ≤ c ∧ d.C w A xs.length xs ∧ ∀ x ∈ xs, p x := by
  rcases open_slice ht h with ⟨hcs, _⟩ | ⟨a, len, cap, m, n, D, Pl, hcs, _, hl, hm, hmm, _, hx⟩
  · obtain rfl : v = .slice none 0 0 := by simpa using hcs
    exact ⟨none, 0, [], rfl, Nat.le_refl _, ⟨rfl, by simp, fun h => absurd h (by simp)⟩, by simp⟩
  · obtain rfl : v = .slice (some a) len cap := by simpa using hcs
    have hlm : len ≤ m := by rw [hmm]; split <;> omega
    obtain ⟨xs, hxl, hxs⟩ := choose_below (p := fun i x => (∃ c, c.length = d.sz ∧ d.K w x c ∧ ∀ j u, c[j]? = some u → w.cell? (a.add (i * d.sz + j)) = some u) ∧ p x) len (fun i hi => by
      obtain ⟨cs', h1, h2⟩ := hx i (by omega)
      obtain ⟨_, hlen, hc⟩ := World.cells?_some h1
      obtain ⟨x, hK, hp⟩ := hel n cs' _ (by omega) h2
      refine ⟨x, ⟨cs', by omega, hK, fun j u hu => ?_⟩, hp⟩
      have hj : j < cs'.length := by
        rcases Nat.lt_or_ge j cs'.length with h | h
        · exact h
        · rw [List.getElem?_eq_none h] at hu; exact absurd hu (by simp)
      have := hc j (by omega)
      rw [hsz] at this
      rw [← hu, ← this]
      rw [Addr.add_add])
    have hmx : maxLen = 9223372036854775807 := rfl
    subst hxl
    refine ⟨some a, cap, xs, rfl, hl, ⟨rfl, by omega, fun _ => ⟨a, rfl, fun j p hj => (hxs j p hj).1⟩⟩, fun x hx => ?_⟩
    obtain ⟨i, hi, rfl⟩ := List.getElem_of_mem hx
    exact (hxs i _ (List.getElem?_eq_getElem hi)).2
theorem cells_ask : Tryd.prog.cellsOf 40 = 2 := by kernel_rfl
set_option maxRecDepth 100000 in
theorem trod_ask {n : Nat} {cs : List Value} {y : DataW H × List MemPlace} (hl : cs.length = 2) (h : DataW.trod enc Tryd.prog w 0 sp held n 40 cs = some y) : ∃ x : S40, k40.K w x cs ∧ (Rng x.f0 ∧ Rng x.f1) := by
  obtain ⟨ys, n, _, _, _, hlen, hg⟩ := DataW.trod_struct Tryd.underlying40 h
  match cs, hl with
  | [v0, v1], _ =>
    match ys, hlen with
    | [y0, y1], _ =>
      have g0 : DataW.trod enc Tryd.prog w 0 sp held n 3 [v0] = some y0 := by simpa [cells_int] using hg 0 _ rfl
      have g1 : DataW.trod enc Tryd.prog w 0 sp held n 3 [v1] = some y1 := by simpa [cells_int] using hg 1 _ rfl
      obtain ⟨a, e0, _, r0⟩ := DataW.trod_int Tryd.underlying3 g0
      obtain ⟨b, e1, _, r1⟩ := DataW.trod_int Tryd.underlying3 g1
      simp only [List.cons.injEq, and_true] at e0 e1
      exact ⟨⟨a, b⟩, by rw [e0, e1]; exact k40_mk w ⟨a, b⟩, rng_of r0, rng_of r1⟩
theorem open_asks {a : Option Addr} {len cap : Nat} {d : DataW H} {p : List MemPlace} (h : DataW.Trod enc Tryd.prog w 0 sp held 25 (.slice a len cap) d p) :
    ∃ xs : List S40, len = xs.length ∧ xs.length ≤ cap ∧ Kd.C k40 w a xs.length xs ∧ ∀ x ∈ xs, (Rng x.f0 ∧ Rng x.f1) := by
  obtain ⟨fuel, hf⟩ := h
  have hf' : DataW.trod enc Tryd.prog w 0 sp held fuel 25 [.slice a len cap] = some (d, p) := hf
  obtain ⟨A, c, xs, e, h1, h2, h3⟩ := open_kdP k40 (fun x => Rng x.f0 ∧ Rng x.f1) Tryd.underlying25 cells_ask (fun n cs y hl hy => trod_ask (by exact hl) hy) hf'
  injection e with e1 e2 e3
  subst e1 e2 e3
  exact ⟨xs, rfl, h1, h2, h3⟩
end
/-- the three tables that a row lists -/
abbrev laid3 {H : Type} : List (String × DataW H) := [("math/bits.deBruijn32tab", Rows.laid_math_bits_deBruijn32tab), ("math/bits.deBruijn64tab", Rows.laid_math_bits_deBruijn64tab), ("internal/strconv.uint64pow10", Rows.laid_internal_strconv_uint64pow10)]
theorem door_met (os : Os) (args : Array Value) : laidMetH Tryd.prog laid3 ((World.doorLaid Tryd.prog 24 os).forCall (fun _ _ => 0) ⟨#[], args, []⟩).memory :=
  laidMetH_of_parts3 (fuel := 8) (laidMet_of_run' 8 (by kernel_rfl) (by kernel_rfl)) (by kernel_rfl) (by kernel_rfl)
theorem tTab : (Tryd.prog.globals[0]?).map (·.type) = some 98 := by kernel_rfl
theorem tab_of_laid {W : World} (h : laidMetH Tryd.prog laid3 W) : Tab W := by
  rw [MakeChecks.laidMetH_plain _ _ _ (by kernel_rfl)] at h
  obtain ⟨ps, ⟨g0, t0, cs0, f0, p0, q0, hg0, ht0, hv0, hd0, ⟨g1, t1, cs1, f1, p1, q1, hg1, ht1, hv1, hd1, ⟨g2, t2, cs2, f2, p2, q2, hg2, ht2, hv2, hd2, _, _⟩, _⟩, _⟩, _, _⟩ := h
  obtain rfl := Option.some.inj (gTab.symm.trans hg2)
  obtain rfl := Option.some.inj (tTab.symm.trans ht2)
  have hc := Lib.cells_of_tab (k := .u64) (zs := Lib.pow10Tab) Tryd.underlying98 Tryd.underlying58 (by kernel_rfl) (by kernel_rfl) hd2
  have ht : Lib.TabIs Tryd.prog W "internal/strconv.uint64pow10" .u64 Lib.pow10Tab := by
    unfold Lib.TabIs
    rw [hv2, ← hc]
  exact ⟨ht, World.block_lt_of_cell? W _ (ht.cell gTab 0 (by decide))⟩
end Go.Proofs.YtkifmhfgplhabaaDoor.HR

namespace Go.Proofs.YtkifmhfgplhabaaDoor.HQ
open Go.Proofs.YtkifmhfgplhabaaDoor.HU Go.RowKit Go.Proofs.YtkifmhfgplhabaaDoor.HK Go.Proofs.YtkifmhfgplhabaaDoor.HP Go.Proofs.YtkifmhfgplhabaaDoorW.PrintWords Go.Proofs.YtkifmhfgplhabaaDoorW.PrintLast Go.Proofs.YtkifmhfgplhabaaDoorW.PrintMore
set_option linter.unusedVariables false
set_option linter.unusedSimpArgs false
theorem len_le : ∀ (l m : List Int), l.Nodup → (∀ x ∈ l, x ∈ m) → l.length ≤ m.length
  | [], m, _, _ => by simp
  | x :: t, m, hn, hs => by
    rw [List.nodup_cons] at hn
    have hx := hs x (by simp)
    have h1 := len_le t (m.erase x) hn.2 (fun y hy => (List.mem_erase_of_ne (by rintro rfl; exact hn.1 hy)).2 (hs y (by simp [hy])))
    rw [List.length_erase_of_mem hx] at h1
    have h2 := List.length_pos_of_mem hx
    simp only [List.length_cons]
    omega
theorem pre_len {l : List Int} (h : Pre l) : l.length ≤ 64 := by
  have := len_le l ((List.range 64).map fun n : Nat => (n : Int)) h.2 (fun x hx => by
    have := h.1 x hx
    exact List.mem_map.2 ⟨x.toNat, List.mem_range.2 (by omega), by omega⟩)
  simpa using this
theorem take_snoc {l : List Int} {i : Nat} (h : i < l.length) : l.take (i + 1) = l.take i ++ [rd l (i : Int)] := by
  rw [rd_lt h, List.take_add_one, List.getElem?_eq_getElem h]; rfl
theorem mem_take_rd {l : List Int} {i : Nat} {x : Int} (hi : i ≤ l.length) : x ∈ l.take i ↔ ∃ m : Nat, m < i ∧ rd l (m : Int) = x := by
  rw [List.mem_take_iff_getElem]
  constructor
  · rintro ⟨m, hm, he⟩
    exact ⟨m, by omega, by rw [rd_lt (by omega)]; exact he⟩
  · rintro ⟨m, hm, he⟩
    exact ⟨m, by omega, by rw [rd_lt (by omega)] at he; exact he⟩
end Go.Proofs.YtkifmhfgplhabaaDoor.HQ

namespace Go.Proofs.YtkifmhfgplhabaaDoor.HQ
open Go.Proofs.YtkifmhfgplhabaaDoor.HU Go.RowKit Go.Proofs.YtkifmhfgplhabaaDoor.HK Go.Proofs.YtkifmhfgplhabaaDoor.HP Go.Proofs.YtkifmhfgplhabaaDoorW.PrintWords Go.Proofs.YtkifmhfgplhabaaDoorW.PrintLast Go.Proofs.YtkifmhfgplhabaaDoorW.PrintMore
set_option linter.unusedVariables false
set_option linter.unusedSimpArgs false
theorem cell_other2 {W : World} {b b' i : Nat} {v x y : Value} (h : W.cell? ⟨b, i, none⟩ = some v) (hne : b ≠ b') : ((W.setCell ⟨b', 0, none⟩ x).setCell ⟨b', 1, none⟩ y).cell? ⟨b, i, none⟩ = some v := by
  have e : ∀ (W' : World) (p : Addr) (u : Value), p.block = b' → (W'.setCell p u).cell? ⟨b, i, none⟩ = W'.cell? ⟨b, i, none⟩ := fun W' p u hp => by
    unfold World.cell?
    rw [Below.heap_setCell W' p u b (by rw [hp]; exact hne)]
  rw [e _ _ _ rfl, e _ _ _ rfl]
  exact h
set_option maxHeartbeats 4000000 in
theorem dup_c (s : ByteArray) (A : Option Addr) (c : Nat) (l : List Int) (k : Int) (w : World) (hr : Kd.C (Kd.int .i64) w A l.length l) (hc : l.length ≤ c) (ht : Tab w) (hs : s.size ≤ 100000) (hm : mayB l = true) (hk0 : 0 ≤ k) (hk : Rng k) (hl : l.length ≤ 1000) :
    Calls Tryd.prog 11 #[.agg #[.string s, .slice A l.length c], .int .i64 k] w fun e w' => ∃ u : Value, e = .returned (.tuple #[.agg #[.string (childB s k), u], .int .i64 0]) ∧ Kd.R (Kd.int .i64) 3 w' w.heap.size (fun _ => True) u l ∧ Below w.heap.size w w' := by
  have b0 := blk_alloc (blk_new w (.cells #[.string s, .slice A l.length c] 24)) (.cells #[.string ⟨#[]⟩, .slice none 0 0] 24)
  have b1 := blk_second w (.cells #[.string s, .slice A l.length c] 24) (.cells #[.string ⟨#[]⟩, .slice none 0 0] 24)
  have hba := below_alloc (below_alloc (Below.refl w.heap.size w) (.cells #[.string s, .slice A l.length c] 24)) (.cells #[.string ⟨#[]⟩, .slice none 0 0] 24)
  have HL1 := Aside0.mk hba
  have HT1 := Aside0.mk (ht.after hba)
  have HR1 := Aside0.mk (Kd.C_below hr hba)
  have dk : decide (k < 0) = false := decide_eq_false (by omega)
  have HMY := Aside0.mk (may_c s A c l _ HR1.out hc)
  rw [hm] at HMY
  have HCL := Aside0.mk hc
  clear hr ht hba hm
  go_enter Tryd.func11, Tryd.ntmps11
  go_wp2_with fail
  generalize (w.alloc (.cells #[.string s, .slice A l.length c] 24)).alloc (.cells #[.string ⟨#[]⟩, .slice none 0 0] 24) = w1 at b0 b1 HL1 HT1 HR1 HMY ⊢
  refine HMY.out.mono ?_
  rintro e w2 ⟨rfl, hb⟩
  have B0 := Aside0.mk (blk_below b0 hb)
  have B1 := Aside0.mk (blk_below b1 hb)
  have p0 : w2.cell? ⟨w.heap.size, 0, none⟩ = some (.string s) := pw_cell_below hb ((blk_cell b0 0).trans rfl)
  have p1 : w2.cell? ⟨w.heap.size, 1, none⟩ = some (.slice A l.length c) := pw_cell_below hb ((blk_cell b0 1).trans rfl)
  have HL2 := Aside0.mk (below_then HL1.out HL1.out.size hb)
  have HT2 := Aside0.mk (HT1.out.after hb)
  have HR2 := Aside0.mk (Kd.C_below HR1.out hb)
  have HCH := Aside0.mk (child_c s (.slice A l.length c) k w2.drew hk HT2.out.drew hs)
  clear b0 b1 hb HMY HL1 HT1 HR1
  go_wp2_with fail
  go_region_held3 (fun W => W.cell? ⟨w.heap.size, 0, none⟩ = some (.string s) ∧ W.cell? ⟨w.heap.size, 1, none⟩ = some (.slice A l.length c))
    (first | exact ⟨q2, q3⟩ | exact ⟨cell_other2 q2 (by omega), cell_other2 q3 (by omega)⟩ | exact ⟨q0, q1⟩ | exact ⟨p0, p1⟩)
    (first
      | (go_at_call 25; with_reducible refine HCH.out.mono ?_; rintro e w3 ⟨rfl, hb⟩; have HB3 := Aside0.mk (below_of_drew hb); have q0 := pw_cell_below HB3.out p0; have q1 := pw_cell_below HB3.out p1; clear hb)
      | (go_at_call 26; with_reducible refine (clone_c A c l w3 (Kd.C_below HR2.out HB3.out) HCL.out (by omega)).mono ?_; rintro e w4 ⟨u, rfl, hR, hb⟩; obtain ⟨An, cn, rfl, hln, _⟩ := Kd.R_reads hR; have HR4 := Aside0.mk hR; have HB4 := Aside0.mk (below_then HB3.out HB3.out.size hb); have q2 := pw_cell_below HB4.out p0; have q3 := pw_cell_below HB4.out p1; have B4 := Aside0.mk (blk_below B1.out HB4.out); have g0 := (blk_cell B4.out 0).trans rfl; have g1 := (blk_cell B4.out 1).trans rfl; have f0 := blk_frozen B4.out 0; have f1 := blk_frozen B4.out 1; clear hb hR))
  all_goals (
    go_wp2
    have C1 := blk_put (cs' := #[.string (childB s k), .slice none 0 0]) B4.out 0 (.string (childB s k)) rfl
    have C2 := blk_put (cs' := #[.string (childB s k), .slice An l.length cn]) C1 1 (.slice An l.length cn) rfl
    have R1 := Kd.R_set HR4.out B4.out E24 0 (.string (childB s k))
    have R2 := Kd.R_set R1 C1 E24 1 (.slice An l.length cn)
    refine bodyPost_ret (results_ct rfl _ _ (w.heap.size + 1) 24 #[.string (childB s k), .slice An l.length cn] (0, 0) _ rfl C2 Tryd.underlying24 rfl (by kernel_rfl)) rfl ?_
    exact ⟨_, rfl, Kd.R_lower R2 (Nat.le_trans HL2.out.size HB3.out.size), ((below_then HL2.out HL2.out.size HB4.out).setCell (p := ⟨w.heap.size + 1, 0, none⟩) (Nat.le_succ _) _).setCell (p := ⟨w.heap.size + 1, 1, none⟩) (Nat.le_succ _) _⟩)
end Go.Proofs.YtkifmhfgplhabaaDoor.HQ

namespace Go.Proofs.YtkifmhfgplhabaaDoor.HQ
open Go.Proofs.YtkifmhfgplhabaaDoor.HU Go.RowKit Go.Proofs.YtkifmhfgplhabaaDoor.HK Go.Proofs.YtkifmhfgplhabaaDoor.HP Go.Proofs.YtkifmhfgplhabaaDoorW.PrintWords Go.Proofs.YtkifmhfgplhabaaDoorW.PrintLast Go.Proofs.YtkifmhfgplhabaaDoorW.PrintMore
set_option linter.unusedVariables false
set_option linter.unusedSimpArgs false
def e0 : ByteArray := ⟨#[]⟩
theorem dec_small {n : Nat} (h : n < 10) : Lib.decDigits n = [UInt8.ofNat (48 + n)] := by rw [Lib.decDigits, dif_pos h]
theorem dec_big {n : Nat} (h : ¬ n < 10) : Lib.decDigits n = Lib.decDigits (n / 10) ++ Lib.decDigits (n % 10) := by
  rw [Lib.decDigits, dif_neg h, dec_small (Nat.mod_lt _ (by omega))]
theorem ito0 : itoB 0 = ⟨#[48]⟩ := by
  unfold itoB Lib.itoa
  rw [if_neg (by decide), show (0 : Int).toNat = 0 from rfl, dec_small (by decide)]
  rfl
theorem ito1 : itoB 1 = ⟨#[49]⟩ := by
  unfold itoB Lib.itoa
  rw [if_neg (by decide), show (1 : Int).toNat = 1 from rfl, dec_small (by decide)]
  rfl
theorem ito12 : itoB 12 = ⟨#[49, 50]⟩ := by
  unfold itoB Lib.itoa
  rw [if_neg (by decide), show (12 : Int).toNat = 12 from rfl, dec_big (by decide), show 12 / 10 = 1 from rfl, show 12 % 10 = 2 from rfl, dec_small (by decide), dec_small (by decide)]
  rfl
theorem key0 : keyG e0 0 0 = ⟨#[46, 48, 58, 48]⟩ := by unfold keyG childB; rw [ito0]; rfl
theorem key1 : keyG e0 0 1 = ⟨#[46, 48, 58, 49]⟩ := by unfold keyG childB; rw [ito0, ito1]; rfl
theorem chi12 : childB e0 12 = ⟨#[46, 49, 50]⟩ := by unfold childB; rw [ito12]; rfl
def exA : List Ask_ := [⟨1, 5⟩, ⟨0, 0⟩, ⟨1, 2⟩, ⟨-1, 0⟩]
def exR : List Int := [0, 1, 2, 3]
theorem ex_pick : pick exA exR exA.length = [⟨⟨1, 5⟩, 0⟩, ⟨⟨0, 0⟩, 1⟩, ⟨⟨1, 2⟩, 2⟩] := by rfl
theorem ex_sort : HS.sortA [(⟨⟨1, 5⟩, 0⟩ : Asd), ⟨⟨0, 0⟩, 1⟩, ⟨⟨1, 2⟩, 2⟩] = [⟨⟨0, 0⟩, 1⟩, ⟨⟨1, 2⟩, 2⟩, ⟨⟨1, 5⟩, 0⟩] := by rfl
theorem ex_split : splitG e0 0 exR exA = [⟨⟨#[46, 48, 58, 48]⟩, [1]⟩, ⟨⟨#[46, 48, 58, 49]⟩, [2, 0]⟩] := by
  unfold splitG
  rw [ex_pick, ex_sort, ← key0, ← key1]
  rfl
theorem asks_C {W : World} {b : Nat} (hb : W.heap[b]? = some (.cells #[.int .i64 1, .int .i64 5, .int .i64 0, .int .i64 0, .int .i64 1, .int .i64 2, .int .i64 (-1), .int .i64 0] 40)) : Kd.C k40 W (some ⟨b, 0, none⟩) 4 exA := by
  refine ⟨rfl, by decide, fun _ => ⟨_, rfl, fun j p hj => ?_⟩⟩
  have hc : ∀ i : Nat, W.cell? ((⟨b, 0, none⟩ : Addr).add i) = (#[(.int .i64 1 : Value), .int .i64 5, .int .i64 0, .int .i64 0, .int .i64 1, .int .i64 2, .int .i64 (-1), .int .i64 0])[i]? := fun i => by rw [add_plain]; exact blk_cell hb i
  have hj4 : j < 4 := by
    rcases Nat.lt_or_ge j 4 with h | h
    · exact h
    · rw [List.getElem?_eq_none (by simpa [exA] using h)] at hj; cases hj
  refine ⟨[.int .i64 p.f0, .int .i64 p.f1], rfl, k40_mk W p, fun i u hu => ?_⟩
  have hi2 : i < 2 := by
    rcases Nat.lt_or_ge i 2 with h | h
    · exact h
    · rw [List.getElem?_eq_none (by simpa using h)] at hu; cases hu
  rw [hc]
  rcases (by omega : j = 0 ∨ j = 1 ∨ j = 2 ∨ j = 3) with rfl | rfl | rfl | rfl <;> (obtain rfl := (Option.some.inj hj)) <;> rcases (by omega : i = 0 ∨ i = 1) with rfl | rfl <;> exact hu
theorem ints_C {W : World} {b : Nat} {l : List Int} (hb : W.heap[b]? = some (.cells (l.map (fun x => Value.int .i64 x)).toArray 3)) (hl : l.length ≤ maxLen) : Kd.C (Kd.int .i64) W (some ⟨b, 0, none⟩) l.length l := by
  refine ⟨rfl, hl, fun _ => ⟨_, rfl, fun j p hj => ⟨[.int .i64 p], rfl, rfl, fun i u hu => ?_⟩⟩⟩
  have hi : i = 0 := by
    rcases Nat.eq_zero_or_pos i with h | h
    · exact h
    · rw [List.getElem?_eq_none (show [Value.int .i64 p].length ≤ i from h)] at hu; cases hu
  subst hi
  have hc : W.cell? ((⟨b, 0, none⟩ : Addr).add j) = ((l.map (fun x => Value.int .i64 x)).toArray)[j]? := by rw [add_plain]; exact blk_cell hb j
  have hsz : j * (Kd.int .i64).sz + 0 = j := by show j * 1 + 0 = j; omega
  rw [hsz, hc, ← hu]
  simp [hj]
theorem world4 : Qgnbase.group_World.f 20 4 = some (e0, exR, 0) := by kernel_rfl
theorem world65 : Qgnbase.group_World.f 20 65 = some (e0, [], 2) := by rfl
theorem same_c (s : ByteArray) (A : Option Addr) (c : Nat) (l : List Int) (A2 : Option Addr) (c2 : Nat) (w : World) (hr : Kd.C (Kd.int .i64) w A l.length l) (hc : l.length ≤ c) (hr2 : Kd.C (Kd.int .i64) w A2 l.length l) (hc2 : l.length ≤ c2) (hi : Qgnbase.dispatcherref11_Ints.f 9 l l = some true) :
    Calls Tryd.prog 15 #[.agg #[.string s, .slice A l.length c], .agg #[.string s, .slice A2 l.length c2]] w fun e w' => e = .returned (.bool true) ∧ Below w.heap.size w w' :=
  Qgnbase.dispatcherref11_Same.calls 9 s A c l s A2 c2 l true w hr hc hr2 hc2 (by unfold Qgnbase.dispatcherref11_Same.f; rw [if_pos rfl, hi]; rfl)
set_option maxRecDepth 100000 in
set_option maxHeartbeats 8000000 in
theorem awake_c (w : World) (ht : Tab w) : Calls Tryd.prog 16 #[] w fun e w' => e = .returned (.bool true) ∧ Below w.heap.size w w' := by
  have HT := Aside0.mk ht
  clear ht
  go_enter Tryd.func16, Tryd.ntmps16
  go_wp2_with fail
  refine (Qgnbase.group_World.calls 20 4 e0 exR 0 w world4).mono ?_
  rintro e w1 ⟨v1, rfl, hR, hb⟩
  obtain ⟨A, c, rfl, hc, hC⟩ := Kd.R_reads hR
  have HC1 := Aside0.mk hC
  have HB1 := Aside0.mk hb
  have HT1 := Aside0.mk (HT.out.after hb)
  clear hR hb hC HT
  go_upto_region 2 with fail
  have hba := below_alloc (Below.refl w1.heap.size w1) (.cells #[.string e0, .slice A exR.length c] 24)
  have b0 := blk_new w1 (.cells #[.string e0, .slice A exR.length c] 24)
  have p0 : (w1.alloc (.cells #[.string e0, .slice A exR.length c] 24)).cell? ⟨w1.heap.size, 0, none⟩ = some (.string e0) := (blk_cell b0 0).trans rfl
  have p1 : (w1.alloc (.cells #[.string e0, .slice A exR.length c] 24)).cell? ⟨w1.heap.size, 1, none⟩ = some (.slice A exR.length c) := (blk_cell b0 1).trans rfl
  have HB2 := Aside0.mk (below_then HB1.out HB1.out.size hba)
  have HC2 := Aside0.mk (Kd.C_below HC1.out hba)
  have HT2 := Aside0.mk (HT1.out.after hba)
  clear hba b0 HB1 HC1 HT1
  generalize w1.alloc (.cells #[.string e0, .slice A exR.length c] 24) = w2 at p0 p1 HB2 HC2 HT2 ⊢
  generalize w1.heap.size = bw at p0 p1 ⊢
  have hb2 := below_alloc (Below.refl w2.heap.size w2) (.cells #[.int .i64 1, .int .i64 5, .int .i64 0, .int .i64 0, .int .i64 1, .int .i64 2, .int .i64 (-1), .int .i64 0] 40)
  have hSP := split_c e0 A c exR 0 (some ⟨w2.heap.size, 0, none⟩) 4 exA _ (Kd.C_below HC2.out hb2) hc (asks_C (blk_new w2 _)) (Nat.le_refl _) (HT2.out.after hb2) (by decide) (by decide) (by decide) (by unfold Rng; decide) (by intro x hx; simp [exA] at hx; rcases hx with rfl | rfl | rfl | rfl <;> (unfold Rng; decide)) rfl (by decide)
  rw [ex_split] at hSP
  have HSP := Aside0.mk hSP
  have HB3 := Aside0.mk (below_then HB2.out HB2.out.size hb2)
  have HC3 := Aside0.mk (Kd.C_below HC2.out hb2)
  have HT3 := Aside0.mk (HT2.out.after hb2)
  have q0 := pw_cell_below hb2 p0
  have q1 := pw_cell_below hb2 p1
  clear hSP hb2 HB2 HC2 HT2
  go_wp2_with fail
  refine HSP.out.mono ?_
  rintro e w3 ⟨Av, cv, rfl, hcv, hCv, hb⟩
  have HB4 := Aside0.mk (below_then HB3.out HB3.out.size hb)
  have HC4 := Aside0.mk (Kd.C_below HC3.out hb)
  have HT4 := Aside0.mk (HT3.out.after hb)
  have r0 := pw_cell_below hb q0
  have r1 := pw_cell_below hb q1
  have HCV := Aside0.mk hCv
  clear hb HSP HB3 HC3 HT3 q0 q1 p0 p1 hCv
  go_wp2_with fail
  refine (Qgnbase.group_World.calls 20 65 e0 [] 2 w3 world65).mono ?_
  rintro e w4 ⟨v4, rfl, hR, hb⟩
  obtain ⟨A4, c4, rfl, hc4, _⟩ := Kd.R_reads hR
  have hba := below_alloc (Below.refl w4.heap.size w4) (.cells #[.string e0, .slice A4 0 c4] 24)
  have hbb := hb.trans (hba.mono hb.size)
  have HB5 := Aside0.mk (below_then HB4.out HB4.out.size hbb)
  have HC5 := Aside0.mk (Kd.C_below HC4.out hbb)
  have HT5 := Aside0.mk (HT4.out.after hbb)
  have HV5 := Aside0.mk (Kd.C_below HCV.out hbb)
  have s0 := pw_cell_below hbb r0
  have s1 := pw_cell_below hbb r1
  clear hb hR hba hbb HB4 HC4 HT4 HCV r0 r1
  go_upto_region 4 with fail
  generalize w4.alloc (.cells #[.string e0, .slice A4 0 c4] 24) = w5 at HB5 HC5 HT5 HV5 s0 s1 ⊢
  have hdp := dup_c e0 A c exR 12 w5 HC5.out hc HT5.out (by decide) (by decide) (by decide) (by unfold Rng; decide) (by decide)
  rw [chi12] at hdp
  have HDP := Aside0.mk hdp
  clear hdp
  go_wp2_with fail
  refine HDP.out.mono ?_
  rintro e w6 ⟨u6, rfl, hR, hb⟩
  obtain ⟨A6, c6, rfl, hc6, _⟩ := Kd.R_reads hR
  have hba := below_alloc (Below.refl w6.heap.size w6) (.cells #[.string ⟨#[46, 49, 50]⟩, .slice A6 exR.length c6] 24)
  have b7 := blk_new w6 (.cells #[.string ⟨#[46, 49, 50]⟩, .slice A6 exR.length c6] 24)
  have d0 : (w6.alloc (.cells #[.string ⟨#[46, 49, 50]⟩, .slice A6 exR.length c6] 24)).cell? ⟨w6.heap.size, 0, none⟩ = some (.string ⟨#[46, 49, 50]⟩) := (blk_cell b7 0).trans rfl
  have hbb := hb.trans (hba.mono hb.size)
  have HB7 := Aside0.mk (below_then HB5.out HB5.out.size hbb)
  have HV7 := Aside0.mk (Kd.C_below HV5.out hbb)
  clear hb hR hba hbb HB5 HC5 HT5 HV5 s0 s1 b7 HDP
  go_upto_region 5 with fail
  generalize w6.alloc (.cells #[.string ⟨#[46, 49, 50]⟩, .slice A6 exR.length c6] 24) = w7 at HB7 HV7 d0 ⊢
  generalize w6.heap.size = bd at d0 ⊢
  obtain ⟨aV, B0, cB0, hAV, k0, k1, hcB0, HCB0⟩ := at_T24 HV7.out (0 : Int) (by decide) (by decide)
  obtain ⟨aV', B1, cB1, hAV', m0, m1, hcB1, HCB1⟩ := at_T24 HV7.out (1 : Int) (by decide) (by decide)
  obtain rfl : aV = aV' := by rw [hAV] at hAV'; exact Option.some.inj hAV'
  subst hAV
  replace k0 : w7.cell? (aV.add 0) = some (.string ⟨#[46, 48, 58, 48]⟩) := k0
  replace k1 : w7.cell? ⟨(aV.add 0).block, (aV.add 0).off + 1, none⟩ = some (.slice B0 1 cB0) := k1
  replace m0 : w7.cell? (aV.add 2) = some (.string ⟨#[46, 48, 58, 49]⟩) := m0
  replace m1 : w7.cell? ⟨(aV.add 2).block, (aV.add 2).off + 1, none⟩ = some (.slice B1 2 cB1) := m1
  rw [Addr.add_zero'] at k0 k1
  replace m0 : w7.cell? ⟨aV.block, aV.off + 2, none⟩ = some (.string ⟨#[46, 48, 58, 49]⟩) := m0
  replace m1 : w7.cell? ⟨aV.block, aV.off + 2 + 1, none⟩ = some (.slice B1 2 cB1) := by
    have := m1
    simpa [Addr.add] using this
  replace hcB0 : 1 ≤ cB0 := hcB0
  replace hcB1 : 2 ≤ cB1 := hcB1
  have hb8 := below_alloc (Below.refl w7.heap.size w7) (.cells #[.int .i64 1] 3)
  have HSM1 := Aside0.mk (same_c ⟨#[46, 48, 58, 48]⟩ B0 cB0 [1] (some ⟨w7.heap.size, 0, none⟩) 1 _ (Kd.C_below HCB0 hb8) hcB0 (ints_C (l := [1]) (blk_new w7 _) (by decide)) (Nat.le_refl _) (by kernel_rfl))
  have HC1 := Aside0.mk (Kd.C_below HCB1 hb8)
  have HB8 := Aside0.mk (below_then HB7.out HB7.out.size hb8)
  have n0 := pw_cell_below hb8 m0
  have n1 := pw_cell_below hb8 m1
  clear hAV' HCB0 HCB1 hb8 HV7 HB7 m0 m1
  go_wp2_with fail
  refine HSM1.out.mono ?_
  rintro e w9 ⟨rfl, hb⟩
  have HB9 := Aside0.mk (below_then HB8.out HB8.out.size hb)
  have o0 := pw_cell_below hb n0
  have o1 := pw_cell_below hb n1
  have hb10 := below_alloc (Below.refl w9.heap.size w9) (.cells #[.int .i64 2, .int .i64 0] 3)
  have HSM2 := Aside0.mk (same_c ⟨#[46, 48, 58, 49]⟩ B1 cB1 [2, 0] (some ⟨w9.heap.size, 0, none⟩) 2 _ (Kd.C_below (Kd.C_below HC1.out hb) hb10) hcB1 (ints_C (l := [2, 0]) (blk_new w9 _) (by decide)) (Nat.le_refl _) (by kernel_rfl))
  have HB10 := Aside0.mk (below_then HB9.out HB9.out.size hb10)
  clear hb hb10 HSM1 HC1 HB8 HB9 n0 n1 k0 k1
  go_wp2_with fail
  refine HSM2.out.mono ?_
  rintro e w10 ⟨rfl, hb⟩
  have HB11 := Aside0.mk (below_then HB10.out HB10.out.size hb)
  clear hb HSM2 HB10
  go_wp2
  go_ret
  exact ⟨rfl, HB11.out⟩
end Go.Proofs.YtkifmhfgplhabaaDoor.HQ

namespace Go.Proofs.YtkifmhfgplhabaaDoor.HQ
open Go.Proofs.YtkifmhfgplhabaaDoor.HU Go.RowKit Go.Proofs.YtkifmhfgplhabaaDoor.HK Go.Proofs.YtkifmhfgplhabaaDoor.HP Go.Proofs.YtkifmhfgplhabaaDoorW.PrintWords Go.Proofs.YtkifmhfgplhabaaDoorW.PrintLast Go.Proofs.YtkifmhfgplhabaaDoorW.PrintMore
set_option linter.unusedVariables false
set_option linter.unusedSimpArgs false
theorem index_loop (l : List Int) (x : Int) (hl : l.length ≤ 1000) (r : Int) (hr : (r = -1 ∧ ∀ j : Nat, j < l.length → rd l (j : Int) ≠ x) ∨ ∃ m : Nat, r = m ∧ m < l.length ∧ rd l (m : Int) = x ∧ ∀ j : Nat, j < m → rd l (j : Int) ≠ x) :
    ∀ n i, n = l.length - i → i ≤ l.length → (∀ m : Nat, r = m → i ≤ m) → Ev (fun k => Qgnbase.slices_Index_int_int.l0 k l x (l.length : Int) (i : Int)) r := by
  intro n
  induction n with
  | zero =>
    intro i hn hi hm
    refine Ev.round ?_ (fun k => by simp only [Qgnbase.slices_Index_int_int.l0]; rfl)
    refine Ev.neg (by omega) ?_
    rcases hr with ⟨rfl, _⟩ | ⟨m, rfl, h1, _⟩
    · exact Ev.const rfl
    · have := hm m rfl; omega
  | succ n ih =>
    intro i hn hi hm
    refine Ev.round ?_ (fun k => by simp only [Qgnbase.slices_Index_int_int.l0]; rfl)
    refine Ev.pos (by omega) ?_
    refine Ev.pos (by omega) ?_
    refine Ev.pos (by omega) ?_
    by_cases he : x = rd l (i : Int)
    · refine Ev.pos he ?_
      rcases hr with ⟨rfl, h⟩ | ⟨m, rfl, h1, h2, h3⟩
      · exact absurd he.symm (h i (by omega))
      · have h4 := hm m rfl
        have : i = m := by
          rcases Nat.lt_or_ge i m with h5 | h5
          · exact absurd he.symm (h3 i h5)
          · omega
        exact Ev.const (by rw [this])
    · refine Ev.neg he ?_
      rw [wrap64_nat i (by omega)]
      refine ih (i + 1) (by omega) (by omega) (fun m hmm => ?_)
      have h4 := hm m hmm
      rcases hr with ⟨h5, _⟩ | ⟨m', h5, _, h6, _⟩
      · omega
      · have : m = m' := by omega
        subst this
        rcases Nat.lt_or_ge i m with h7 | h7
        · exact h7
        · have : i = m := by omega
          subst this
          exact absurd h6.symm he
/-- where a rank stands -/
def posI (l : List Int) (x : Int) : Option Nat := l.findIdx? (fun y => decide (y = x))
theorem posI_some {l : List Int} {x : Int} {m : Nat} (h : posI l x = some m) : m < l.length ∧ rd l (m : Int) = x ∧ ∀ j : Nat, j < m → rd l (j : Int) ≠ x := by
  obtain ⟨h1, h2, h3⟩ := List.findIdx?_eq_some_iff_getElem.1 h
  refine ⟨h1, ?_, fun j hj => ?_⟩
  · rw [rd_lt h1]; simpa using h2
  · rw [rd_lt (by omega)]; simpa using h3 j hj
theorem posI_none {l : List Int} {x : Int} (h : posI l x = none) : ∀ j : Nat, j < l.length → rd l (j : Int) ≠ x := by
  intro j hj
  rw [rd_lt hj]
  have := List.findIdx?_eq_none_iff.1 h _ (List.getElem_mem hj)
  simpa using this
theorem number_c (s : ByteArray) (A : Option Addr) (c : Nat) (l : List Int) (x : Int) (w : World) (hr : Kd.C (Kd.int .i64) w A l.length l) (hc : l.length ≤ c) (hl : l.length ≤ 1000) :
    Calls Tryd.prog 19 #[.agg #[.string s, .slice A l.length c], .int .i64 x] w fun e w' => e = .returned (.tuple #[.int .i64 (((posI l x).getD 0 : Nat) : Int), .bool (posI l x).isSome]) ∧ Below w.heap.size w w' := by
  cases hp : posI l x with
  | some m =>
    obtain ⟨h1, h2, h3⟩ := posI_some hp
    obtain ⟨K, hK⟩ := (index_loop l x hl (m : Int) (.inr ⟨m, rfl, h1, h2, h3⟩) l.length 0 rfl (Nat.zero_le _) (fun _ _ => Nat.zero_le _)).rounds
    exact Qgnbase.group_Number.calls K s A c l x (m : Int) true w hr hc (by unfold Qgnbase.group_Number.f Qgnbase.slices_Index_int_int.f; rw [show ((0 : Nat) : Int) = 0 from rfl] at hK; rw [hK]; simp [mx]; omega)
  | none =>
    obtain ⟨K, hK⟩ := (index_loop l x hl (-1) (.inl ⟨rfl, posI_none hp⟩) l.length 0 rfl (Nat.zero_le _) (fun m hm => by omega)).rounds
    exact Qgnbase.group_Number.calls K s A c l x 0 false w hr hc (by unfold Qgnbase.group_Number.f Qgnbase.slices_Index_int_int.f; rw [show ((0 : Nat) : Int) = 0 from rfl] at hK; rw [hK]; rfl)
theorem rank_c (s : ByteArray) (A : Option Addr) (c : Nat) (l : List Int) (n : Int) (w : World) (hr : Kd.C (Kd.int .i64) w A l.length l) (hc : l.length ≤ c) :
    Calls Tryd.prog 20 #[.agg #[.string s, .slice A l.length c], .int .i64 n] w fun e w' => e = .returned (.tuple #[.int .i64 (if 0 ≤ n ∧ n < l.length then rd l n else 0), .bool (decide (0 ≤ n ∧ n < l.length))]) ∧ Below w.heap.size w w' := by
  by_cases h : 0 ≤ n ∧ n < l.length
  · rw [if_pos h, decide_eq_true h]
    exact Qgnbase.group_Rank.calls s A c l n _ true w hr hc (by unfold Qgnbase.group_Rank.f; rw [if_neg (by omega), if_neg (by omega), if_pos h.1, if_pos h.2])
  · rw [if_neg h, decide_eq_false h]
    refine Qgnbase.group_Rank.calls s A c l n 0 false w hr hc ?_
    unfold Qgnbase.group_Rank.f
    by_cases h0 : n < 0
    · rw [if_pos h0]
    · rw [if_neg h0, if_pos (by omega)]
theorem great_c (s : ByteArray) (A : Option Addr) (c : Nat) (l : List Int) (w : World) (hr : Kd.C (Kd.int .i64) w A l.length l) (hc : l.length ≤ c) :
    Calls Tryd.prog 9 #[.agg #[.string s, .slice A l.length c]] w fun e w' => e = .returned (.bool (decide (80 < l.length ∨ 200 < s.size))) ∧ Below w.heap.size w w' := by
  refine Qgnbase.dispatcherlaw11_Great.calls s A c l _ w hr hc ?_
  unfold Qgnbase.dispatcherlaw11_Great.f
  by_cases h : (l.length : Int) > 80
  · rw [if_pos h, decide_eq_true (.inl (by omega))]
  · rw [if_neg h]
    congr 1
    refine decide_eq_decide.2 ?_
    omega
theorem rd_inj {l : List Int} (h : l.Nodup) {i j : Nat} (hi : i < l.length) (hj : j < l.length) (he : rd l (i : Int) = rd l (j : Int)) : i = j := by
  rw [rd_lt hi, rd_lt hj] at he
  have hp := List.pairwise_iff_getElem.1 h
  rcases Nat.lt_trichotomy i j with h1 | h1 | h1
  · exact absurd he (hp i j hi hj h1)
  · exact h1
  · exact absurd he.symm (hp j i hj hi h1)
set_option maxRecDepth 100000 in
set_option maxHeartbeats 8000000 in
theorem round_c (s : ByteArray) (A : Option Addr) (c : Nat) (l : List Int) (n : Int) (w : World) (hr : Kd.C (Kd.int .i64) w A l.length l) (hc : l.length ≤ c) (ht : Tab w) :
    Calls Tryd.prog 7 #[.agg #[.string s, .slice A l.length c], .int .i64 n] w fun e w' => e = .returned (.bool true) ∧ Below w.heap.size w w' := by
  have b0 := blk_new w (.cells #[.string s, .slice A l.length c] 24)
  have hba := below_alloc (Below.refl w.heap.size w) (.cells #[.string s, .slice A l.length c] 24)
  have HB0 := Aside0.mk hba
  have HT0 := Aside0.mk (ht.after hba)
  have HR0 := Aside0.mk (Kd.C_below hr hba)
  have p0 : (w.alloc (.cells #[.string s, .slice A l.length c] 24)).cell? ⟨w.heap.size, 0, none⟩ = some (.string s) := (blk_cell b0 0).trans rfl
  have p1 : (w.alloc (.cells #[.string s, .slice A l.length c] 24)).cell? ⟨w.heap.size, 1, none⟩ = some (.slice A l.length c) := (blk_cell b0 1).trans rfl
  clear hr ht hba b0
  go_enter Tryd.func7, Tryd.ntmps7
  go_wp2_with fail
  generalize (w.alloc (.cells #[.string s, .slice A l.length c] 24)) = w1 at p0 p1 HB0 HT0 HR0 ⊢
  refine (awake_c w1 HT0.out).mono ?_
  rintro e w2 ⟨rfl, hb⟩
  have HB2 := Aside0.mk (below_then HB0.out HB0.out.size hb)
  have HR2 := Aside0.mk (Kd.C_below HR0.out hb)
  have q0 := pw_cell_below hb p0
  have q1 := pw_cell_below hb p1
  clear hb HB0 HT0 HR0 p0 p1
  go_wp2_with fail
  refine (great_c s A c l w2 HR2.out hc).mono ?_
  rintro e w3 ⟨rfl, hb⟩
  have HB3 := Aside0.mk (below_then HB2.out HB2.out.size hb)
  have HR3 := Aside0.mk (Kd.C_below HR2.out hb)
  have r0 := pw_cell_below hb q0
  have r1 := pw_cell_below hb q1
  clear hb HB2 HR2 q0 q1
  by_cases hg : 80 < l.length ∨ 200 < s.size
  · have dg : decide (80 < l.length ∨ 200 < s.size) = true := decide_eq_true hg
    rw [dg]
    clear hg dg
    go_wp2
    go_ret
    exact ⟨rfl, HB3.out⟩
  · have dg : decide (80 < l.length ∨ 200 < s.size) = false := decide_eq_false hg
    rw [dg]
    have hl80 : l.length ≤ 80 := by omega
    clear hg dg
    go_wp2_with fail
    refine (may_c s A c l w3 HR3.out hc).mono ?_
    rintro e w4 ⟨rfl, hb⟩
    have HB4 := Aside0.mk (below_then HB3.out HB3.out.size hb)
    have HR4 := Aside0.mk (Kd.C_below HR3.out hb)
    have s0 := pw_cell_below hb r0
    have s1 := pw_cell_below hb r1
    clear hb HB3 HR3 r0 r1
    cases hm : mayB l with
    | false =>
      go_wp2
      go_ret
      exact ⟨rfl, HB4.out⟩
    | true =>
      have hmay : MayG l := of_decide_eq_true hm
      have HND := Aside0.mk hmay.2.2
      clear hm hmay
      have HRK := Aside0.mk (rank_c s A c l n w4 HR4.out hc)
      by_cases hn : 0 ≤ n ∧ n < (l.length : Int)
      · rw [if_pos hn, decide_eq_true hn] at HRK
        obtain ⟨n0, rfl⟩ : ∃ n0 : Nat, n = n0 := ⟨n.toNat, by omega⟩
        have hn0 : n0 < l.length := by omega
        have hp := posI_none (l := l) (x := rd l (n0 : Int))
        have hpos : posI l (rd l (n0 : Int)) = some n0 := by
          cases hq : posI l (rd l (n0 : Int)) with
          | none => exact absurd rfl (posI_none hq n0 hn0)
          | some m =>
            obtain ⟨h1, h2, _⟩ := posI_some hq
            rw [rd_inj HND.out h1 hn0 h2]
        obtain ⟨f1, f2⟩ := hn
        clear hp
        go_wp2_with fail
        refine HRK.out.mono ?_
        rintro e w5 ⟨rfl, hb⟩
        have HB5 := Aside0.mk (below_then HB4.out HB4.out.size hb)
        have HR5 := Aside0.mk (Kd.C_below HR4.out hb)
        have t0 := pw_cell_below hb s0
        have t1 := pw_cell_below hb s1
        have HNM := Aside0.mk (number_c s A c l (rd l (n0 : Int)) w5 HR5.out hc (by omega))
        rw [hpos] at HNM
        clear hb HB4 HR4 s0 s1 HRK hpos
        generalize rd l (n0 : Int) = r at HNM ⊢
        go_wp2_with fail
        refine HNM.out.mono ?_
        rintro e w6 ⟨rfl, hb⟩
        have HB6 := Aside0.mk (below_then HB5.out HB5.out.size hb)
        have HR6 := Aside0.mk (Kd.C_below HR5.out hb)
        have u0 := pw_cell_below hb t0
        have u1 := pw_cell_below hb t1
        clear hb HB5 HR5 t0 t1 HNM
        rw [show ((some n0).getD 0 : Nat) = n0 from rfl, show (some n0).isSome = true from rfl]
        have HNN := Aside0.mk (number_c s A c l (n0 : Int) w6 HR6.out hc (by omega))
        cases hq : posI l (n0 : Int) with
        | some m =>
          obtain ⟨h1, h2, _⟩ := posI_some hq
          rw [hq] at HNN
          have HRM := Aside0.mk (fun (W : World) (hR : Kd.C (Kd.int .i64) W A l.length l) => rank_c s A c l (m : Int) W hR hc)
          rw [if_pos (show 0 ≤ (m : Int) ∧ (m : Int) < l.length by omega), decide_eq_true (show 0 ≤ (m : Int) ∧ (m : Int) < l.length by omega), h2] at HRM
          clear hq h1 h2
          go_wp2_with fail
          refine HNN.out.mono ?_
          rintro e w7 ⟨rfl, hb⟩
          have HB7 := Aside0.mk (below_then HB6.out HB6.out.size hb)
          have HR7 := Aside0.mk (Kd.C_below HR6.out hb)
          have v0 := pw_cell_below hb u0
          have v1 := pw_cell_below hb u1
          clear hb HB6 HR6 u0 u1 HNN
          rw [show ((some m).getD 0 : Nat) = m from rfl, show (some m).isSome = true from rfl]
          go_wp2_with fail
          refine (HRM.out w7 HR7.out).mono ?_
          rintro e w8 ⟨rfl, hb⟩
          have HB8 := Aside0.mk (below_then HB7.out HB7.out.size hb)
          clear hb HB7 HR7 v0 v1 HRM
          go_wp2
          go_ret
          exact ⟨by first | rfl | (simp; done), HB8.out⟩
        | none =>
          have HNO := Aside0.mk (posI_none hq)
          rw [hq] at HNN
          clear hq
          go_wp2_with fail
          refine HNN.out.mono ?_
          rintro e w7 ⟨rfl, hb⟩
          have HB7 := Aside0.mk (below_then HB6.out HB6.out.size hb)
          have HR7 := Aside0.mk (Kd.C_below HR6.out hb)
          have v0 := pw_cell_below hb u0
          have v1 := pw_cell_below hb u1
          clear hb HB6 HR6 u0 u1 HNN
          rw [show (none : Option Nat).isSome = false from rfl]
          go_wp2_with fail
          go_loopw [13] (fun v13 wr => ∃ i : Nat, i ≤ l.length ∧ v13 = .int .i64 i ∧ wr = w7) (fun v13 _ => l.length - (intOf v13).toNat)
          case atStart => exact ⟨0, by omega, rfl, rfl⟩
          case round =>
            obtain ⟨i, hi, rfl, hw⟩ := hrel
            subst hw
            by_cases hin : i < l.length
            · have hi64 : IntKind.i64.wrap ((i : Int) + 1) = (i : Int) + 1 := i64w (by omega) (by omega)
              have hii : (i : Int) < (l.length : Int) := by omega
              obtain ⟨aR, hAR, x0⟩ := Kd.at_int HR7.out (i : Int) (by omega) (by omega)
              rw [Int.toNat_natCast] at x0
              subst hAR
              have hne := HNO.out i hin
              generalize rd l (i : Int) = y at x0 hne
              have hbe : (y == (n0 : Int)) = false := beq_eq_false_iff_ne.2 hne
              go_wp2
              exact ⟨⟨i + 1, by omega, by go_num, by first | rfl | trivial⟩, by simp [intOf]; omega⟩
            · obtain rfl : i = l.length := by omega
              go_wp2
              go_ret
              exact ⟨rfl, HB7.out⟩
      · rw [if_neg hn, decide_eq_false hn] at HRK
        have dn : ∀ a b : Bool, (a = decide (n ≥ 0)) → (b = decide (n < (l.length : Int))) → a = true → b = false := fun a b h1 h2 h3 => by
          rw [h2]
          refine decide_eq_false (fun h4 => hn ⟨?_, h4⟩)
          rw [h1] at h3
          exact of_decide_eq_true h3
        by_cases h0 : 0 ≤ n
        · have h1 : ¬ n < (l.length : Int) := fun h => hn ⟨h0, h⟩
          clear hn dn
          go_wp2_with fail
          refine HRK.out.mono ?_
          rintro e w5 ⟨rfl, hb⟩
          have HB5 := Aside0.mk (below_then HB4.out HB4.out.size hb)
          have HR5 := Aside0.mk (Kd.C_below HR4.out hb)
          have t0 := pw_cell_below hb s0
          have t1 := pw_cell_below hb s1
          clear hb HB4 HR4 s0 s1 HRK
          have HNN := Aside0.mk (number_c s A c l n w5 HR5.out hc (by omega))
          cases hq : posI l n with
          | some m =>
            obtain ⟨h1, h2, _⟩ := posI_some hq
            rw [hq] at HNN
            have HRM := Aside0.mk (fun (W : World) (hR : Kd.C (Kd.int .i64) W A l.length l) => rank_c s A c l (m : Int) W hR hc)
            rw [if_pos (show 0 ≤ (m : Int) ∧ (m : Int) < l.length by omega), decide_eq_true (show 0 ≤ (m : Int) ∧ (m : Int) < l.length by omega), h2] at HRM
            clear hq h1 h2
            go_wp2_with fail
            refine HNN.out.mono ?_
            rintro e w7 ⟨rfl, hb⟩
            have HB7 := Aside0.mk (below_then HB5.out HB5.out.size hb)
            have HR7 := Aside0.mk (Kd.C_below HR5.out hb)
            have v0 := pw_cell_below hb t0
            have v1 := pw_cell_below hb t1
            clear hb HB5 HR5 t0 t1 HNN
            rw [show ((some m).getD 0 : Nat) = m from rfl, show (some m).isSome = true from rfl]
            go_wp2_with fail
            refine (HRM.out w7 HR7.out).mono ?_
            rintro e w8 ⟨rfl, hb⟩
            have HB8 := Aside0.mk (below_then HB7.out HB7.out.size hb)
            clear hb HB7 HR7 v0 v1 HRM
            go_wp2
            go_ret
            exact ⟨by first | rfl | (simp; done), HB8.out⟩
          | none =>
            have HNO := Aside0.mk (posI_none hq)
            rw [hq] at HNN
            clear hq
            go_wp2_with fail
            refine HNN.out.mono ?_
            rintro e w7 ⟨rfl, hb⟩
            have HB7 := Aside0.mk (below_then HB5.out HB5.out.size hb)
            have HR7 := Aside0.mk (Kd.C_below HR5.out hb)
            have v0 := pw_cell_below hb t0
            have v1 := pw_cell_below hb t1
            clear hb HB5 HR5 t0 t1 HNN
            rw [show (none : Option Nat).isSome = false from rfl]
            go_wp2_with fail
            go_loopw [13] (fun v13 wr => ∃ i : Nat, i ≤ l.length ∧ v13 = .int .i64 i ∧ wr = w7) (fun v13 _ => l.length - (intOf v13).toNat)
            case atStart => exact ⟨0, by omega, rfl, rfl⟩
            case round =>
              obtain ⟨i, hi, rfl, hw⟩ := hrel
              subst hw
              by_cases hin : i < l.length
              · have hi64 : IntKind.i64.wrap ((i : Int) + 1) = (i : Int) + 1 := i64w (by omega) (by omega)
                have hii : (i : Int) < (l.length : Int) := by omega
                obtain ⟨aR, hAR, x0⟩ := Kd.at_int HR7.out (i : Int) (by omega) (by omega)
                rw [Int.toNat_natCast] at x0
                subst hAR
                have hne := HNO.out i hin
                generalize rd l (i : Int) = y at x0 hne
                have hbe : (y == n) = false := beq_eq_false_iff_ne.2 hne
                go_wp2
                exact ⟨⟨i + 1, by omega, by go_num, by first | rfl | trivial⟩, by simp [intOf]; omega⟩
              · obtain rfl : i = l.length := by omega
                go_wp2
                go_ret
                exact ⟨rfl, HB7.out⟩
        · clear hn dn
          go_wp2_with fail
          refine HRK.out.mono ?_
          rintro e w5 ⟨rfl, hb⟩
          have HB5 := Aside0.mk (below_then HB4.out HB4.out.size hb)
          have HR5 := Aside0.mk (Kd.C_below HR4.out hb)
          have t0 := pw_cell_below hb s0
          have t1 := pw_cell_below hb s1
          clear hb HB4 HR4 s0 s1 HRK
          have HNN := Aside0.mk (number_c s A c l n w5 HR5.out hc (by omega))
          cases hq : posI l n with
          | some m =>
            obtain ⟨h1, h2, _⟩ := posI_some hq
            rw [hq] at HNN
            have HRM := Aside0.mk (fun (W : World) (hR : Kd.C (Kd.int .i64) W A l.length l) => rank_c s A c l (m : Int) W hR hc)
            rw [if_pos (show 0 ≤ (m : Int) ∧ (m : Int) < l.length by omega), decide_eq_true (show 0 ≤ (m : Int) ∧ (m : Int) < l.length by omega), h2] at HRM
            clear hq h1 h2
            go_wp2_with fail
            refine HNN.out.mono ?_
            rintro e w7 ⟨rfl, hb⟩
            have HB7 := Aside0.mk (below_then HB5.out HB5.out.size hb)
            have HR7 := Aside0.mk (Kd.C_below HR5.out hb)
            have v0 := pw_cell_below hb t0
            have v1 := pw_cell_below hb t1
            clear hb HB5 HR5 t0 t1 HNN
            rw [show ((some m).getD 0 : Nat) = m from rfl, show (some m).isSome = true from rfl]
            go_wp2_with fail
            refine (HRM.out w7 HR7.out).mono ?_
            rintro e w8 ⟨rfl, hb⟩
            have HB8 := Aside0.mk (below_then HB7.out HB7.out.size hb)
            clear hb HB7 HR7 v0 v1 HRM
            go_wp2
            go_ret
            exact ⟨by first | rfl | (simp; done), HB8.out⟩
          | none =>
            have HNO := Aside0.mk (posI_none hq)
            rw [hq] at HNN
            clear hq
            go_wp2_with fail
            refine HNN.out.mono ?_
            rintro e w7 ⟨rfl, hb⟩
            have HB7 := Aside0.mk (below_then HB5.out HB5.out.size hb)
            have HR7 := Aside0.mk (Kd.C_below HR5.out hb)
            have v0 := pw_cell_below hb t0
            have v1 := pw_cell_below hb t1
            clear hb HB5 HR5 t0 t1 HNN
            rw [show (none : Option Nat).isSome = false from rfl]
            go_wp2_with fail
            go_loopw [13] (fun v13 wr => ∃ i : Nat, i ≤ l.length ∧ v13 = .int .i64 i ∧ wr = w7) (fun v13 _ => l.length - (intOf v13).toNat)
            case atStart => exact ⟨0, by omega, rfl, rfl⟩
            case round =>
              obtain ⟨i, hi, rfl, hw⟩ := hrel
              subst hw
              by_cases hin : i < l.length
              · have hi64 : IntKind.i64.wrap ((i : Int) + 1) = (i : Int) + 1 := i64w (by omega) (by omega)
                have hii : (i : Int) < (l.length : Int) := by omega
                obtain ⟨aR, hAR, x0⟩ := Kd.at_int HR7.out (i : Int) (by omega) (by omega)
                rw [Int.toNat_natCast] at x0
                subst hAR
                have hne := HNO.out i hin
                generalize rd l (i : Int) = y at x0 hne
                have hbe : (y == n) = false := beq_eq_false_iff_ne.2 hne
                go_wp2
                exact ⟨⟨i + 1, by omega, by go_num, by first | rfl | trivial⟩, by simp [intOf]; omega⟩
              · obtain rfl : i = l.length := by omega
                go_wp2
                go_ret
                exact ⟨rfl, HB7.out⟩
end Go.Proofs.YtkifmhfgplhabaaDoor.HQ

namespace Go.Proofs.YtkifmhfgplhabaaDoor.HQ
open Go.Proofs.YtkifmhfgplhabaaDoor.HU Go.RowKit Go.Proofs.YtkifmhfgplhabaaDoor.HK Go.Proofs.YtkifmhfgplhabaaDoor.HP Go.Proofs.YtkifmhfgplhabaaDoorW.PrintWords Go.Proofs.YtkifmhfgplhabaaDoorW.PrintLast Go.Proofs.YtkifmhfgplhabaaDoorW.PrintMore
set_option linter.unusedVariables false
set_option linter.unusedSimpArgs false
set_option maxRecDepth 100000 in
set_option maxHeartbeats 4000000 in
theorem split_bad (s : ByteArray) (A : Option Addr) (c : Nat) (ranks : List Int) (k : Int) (A2 : Option Addr) (n2 c2 : Nat) (w : World) (hr : Kd.C (Kd.int .i64) w A ranks.length ranks) (hc : ranks.length ≤ c) (hbad : mayB ranks = false ∨ k < 0 ∨ n2 ≠ ranks.length) :
    Calls Tryd.prog 13 #[.agg #[.string s, .slice A ranks.length c], .int .i64 k, .slice A2 n2 c2] w fun e w' => e = .returned (.tuple #[.slice none 0 0, .int .i64 2]) ∧ Below w.heap.size w w' := by
  have b0 := blk_new w (.cells #[.string s, .slice A ranks.length c] 24)
  have hba := below_alloc (Below.refl w.heap.size w) (.cells #[.string s, .slice A ranks.length c] 24)
  have HB0 := Aside0.mk hba
  have HR0 := Aside0.mk (Kd.C_below hr hba)
  have HMY := Aside0.mk (may_c s A c ranks (w.alloc (.cells #[.string s, .slice A ranks.length c] 24)) HR0.out hc)
  have p0 : (w.alloc (.cells #[.string s, .slice A ranks.length c] 24)).cell? ⟨w.heap.size, 0, none⟩ = some (.string s) := (blk_cell b0 0).trans rfl
  have p1 : (w.alloc (.cells #[.string s, .slice A ranks.length c] 24)).cell? ⟨w.heap.size, 1, none⟩ = some (.slice A ranks.length c) := (blk_cell b0 1).trans rfl
  clear hr hba b0
  go_enter Tryd.func13, Tryd.ntmps13
  go_wp2_with fail
  generalize (w.alloc (.cells #[.string s, .slice A ranks.length c] 24)) = w1 at p0 p1 HB0 HR0 HMY ⊢
  refine HMY.out.mono ?_
  rintro e w2 ⟨rfl, hb⟩
  have HB2 := Aside0.mk (below_then HB0.out HB0.out.size hb)
  have q0 := pw_cell_below hb p0
  have q1 := pw_cell_below hb p1
  clear hb HMY HB0 HR0 p0 p1
  cases hm : mayB ranks with
  | false =>
    clear hbad
    go_wp2
    go_ret2
    exact ⟨rfl, HB2.out⟩
  | true =>
    by_cases hk : k < 0
    · clear hbad
      go_wp2
      go_ret2
      exact ⟨rfl, HB2.out⟩
    · have hne : ((n2 : Int) != (ranks.length : Int)) = true := by
        have : n2 ≠ ranks.length := by
          rcases hbad with h | h | h
          · rw [hm] at h; cases h
          · exact absurd h hk
          · exact h
        rw [bne, beq_eq_false_iff_ne.2 (fun h => this (by omega))]
        rfl
      clear hbad
      go_wp2
      go_ret2
      exact ⟨rfl, HB2.out⟩
end Go.Proofs.YtkifmhfgplhabaaDoor.HQ

namespace Go.Proofs.YtkifmhfgplhabaaDoor.HQ
open Go.Proofs.YtkifmhfgplhabaaDoor.HU Go.RowKit Go.Proofs.YtkifmhfgplhabaaDoor.HK Go.Proofs.YtkifmhfgplhabaaDoor.HP Go.Proofs.YtkifmhfgplhabaaDoorW.PrintWords Go.Proofs.YtkifmhfgplhabaaDoorW.PrintLast Go.Proofs.YtkifmhfgplhabaaDoorW.PrintMore
set_option linter.unusedVariables false
set_option linter.unusedSimpArgs false
/-! ## digits -/
def valD (l : List UInt8) : Nat := l.foldl (fun a d => 10 * a + (d.toNat - 48)) 0
theorem valD_snoc (l : List UInt8) (d : UInt8) : valD (l ++ [d]) = 10 * valD l + (d.toNat - 48) := by simp [valD]
theorem dig_nat {n : Nat} (h : n < 10) : (UInt8.ofNat (48 + n)).toNat = 48 + n := by
  rw [UInt8.toNat_ofNat']
  omega
theorem dec_val (n : Nat) : valD (Lib.decDigits n) = n := by
  induction n using Nat.strongRecOn with
  | ind n ih =>
    by_cases h : n < 10
    · rw [dec_small h]
      show 10 * 0 + ((UInt8.ofNat (48 + n)).toNat - 48) = n
      rw [dig_nat h]
      omega
    · have h2 : n % 10 < 10 := Nat.mod_lt _ (by omega)
      rw [dec_big h, dec_small h2, valD_snoc, ih (n / 10) (by omega), dig_nat h2]
      omega
theorem dec_no (n : Nat) : (58 : UInt8) ∉ Lib.decDigits n := by
  induction n using Nat.strongRecOn with
  | ind n ih =>
    have key : ∀ m, m < 10 → (58 : UInt8) ≠ UInt8.ofNat (48 + m) := fun m hm he => by
      have := congrArg UInt8.toNat he
      rw [dig_nat hm] at this
      have h58 : (58 : UInt8).toNat = 58 := rfl
      omega
    by_cases h : n < 10
    · rw [dec_small h]
      intro hm
      exact key n h (List.mem_singleton.1 hm)
    · have h2 : n % 10 < 10 := Nat.mod_lt _ (by omega)
      rw [dec_big h, dec_small h2]
      intro hm
      rcases List.mem_append.1 hm with hm | hm
      · exact ih (n / 10) (by omega) hm
      · exact key _ h2 (List.mem_singleton.1 hm)
def digL (k : Int) : List UInt8 := Lib.decDigits k.toNat
theorem itoa_dig {k : Int} (h : 0 ≤ k) : Lib.itoa k = digL k := by
  unfold Lib.itoa digL
  rw [if_neg (by omega)]
theorem digL_inj {k m : Int} (hk : 0 ≤ k) (hm : 0 ≤ m) (h : digL k = digL m) : k = m := by
  have := congrArg valD h
  unfold digL at this
  rw [dec_val, dec_val] at this
  omega
/-! ## texts as lists -/
def bl (b : ByteArray) : List UInt8 := b.data.toList
theorem bl_app (a b : ByteArray) : bl (a ++ b) = bl a ++ bl b := by simp [bl, ByteArray.data_append]
theorem bl_child {s : ByteArray} {k : Int} (h : 0 ≤ k) : bl (childB s k) = bl s ++ 46 :: digL k := by
  unfold childB itoB
  rw [bl_app, bl_app, itoa_dig h]
  simp [bl]
theorem bl_key {s : ByteArray} {k c : Int} (h : 0 ≤ k) (hc : 0 ≤ c) : bl (keyG s k c) = bl s ++ 46 :: (digL k ++ 58 :: digL c) := by
  unfold keyG itoB
  rw [bl_app, bl_app, bl_child h, itoa_dig hc]
  simp [bl]
theorem cut58 {a b c d : List UInt8} (ha : (58 : UInt8) ∉ a) (hb : (58 : UInt8) ∉ b) (h : a ++ 58 :: c = b ++ 58 :: d) : a = b ∧ c = d := by
  induction a generalizing b with
  | nil =>
    cases b with
    | nil => exact ⟨rfl, by simpa using h⟩
    | cons y t =>
      simp only [List.nil_append, List.cons_append, List.cons.injEq] at h
      exact absurd (by rw [h.1]; simp) hb
  | cons x a ih =>
    cases b with
    | nil =>
      simp only [List.nil_append, List.cons_append, List.cons.injEq] at h
      exact absurd (by rw [← h.1]; simp) ha
    | cons y t =>
      simp only [List.cons_append, List.cons.injEq] at h
      obtain ⟨rfl, h⟩ := h
      obtain ⟨rfl, rfl⟩ := ih (fun hm => ha (by simp [hm])) (fun hm => hb (by simp [hm])) h
      exact ⟨rfl, rfl⟩
theorem child_ne {s : ByteArray} {k m : Int} (hk : 0 ≤ k) (hm : 0 ≤ m) (hne : k ≠ m) : childB s k ≠ childB s m := fun h => by
  have := congrArg bl h
  rw [bl_child hk, bl_child hm] at this
  have h2 := List.append_cancel_left this
  simp only [List.cons.injEq, true_and] at h2
  exact hne (digL_inj hk hm h2)
theorem child_key {s : ByteArray} {k m c : Int} (hk : 0 ≤ k) (hm : 0 ≤ m) (hc : 0 ≤ c) : childB s k ≠ keyG s m c := fun h => by
  have := congrArg bl h
  rw [bl_child hk, bl_key hm hc] at this
  have h2 := List.append_cancel_left this
  simp only [List.cons.injEq, true_and] at h2
  exact dec_no k.toNat (by show (58 : UInt8) ∈ digL k; rw [h2]; simp)
theorem key_inj {s : ByteArray} {k m c d : Int} (hk : 0 ≤ k) (hm : 0 ≤ m) (hc : 0 ≤ c) (hd : 0 ≤ d) (h : keyG s k c = keyG s m d) : k = m ∧ c = d := by
  have := congrArg bl h
  rw [bl_key hk hc, bl_key hm hd] at this
  have h2 := List.append_cancel_left this
  simp only [List.cons.injEq, true_and] at h2
  obtain ⟨h3, h4⟩ := cut58 (dec_no _) (dec_no _) h2
  exact ⟨digL_inj hk hm h3, digL_inj hc hd h4⟩
/-! ## the colors of a split's groups -/
def cols (L : List Asd) : Nat → List Int
  | 0 => []
  | i + 1 => if newG L i then cols L i ++ [(L.getD i z67).f0.f0] else cols L i
theorem addR_keys (r : Int) (gs : List Grp) : (addR r gs).map (·.f0) = gs.map (·.f0) := by
  unfold addR
  rw [List.map_set]
  by_cases h : gs.length - 1 < gs.length
  · have : (gs.getD (gs.length - 1) z24) = gs[gs.length - 1] := by simp [List.getD, h]
    rw [this]
    refine List.ext_getElem (by simp) (fun i h1 h2 => ?_)
    rw [List.getElem_set]
    split
    · rename_i he
      subst he
      simp
    · rfl
  · have : gs = [] := List.eq_nil_of_length_eq_zero (by omega)
    subst this
    rfl
theorem grps_keys (s : ByteArray) (k : Int) (L : List Asd) : ∀ i, (grps s k L i).map (·.f0) = (cols L i).map (keyG s k)
  | 0 => rfl
  | i + 1 => by
    show (addR _ _).map _ = List.map _ (if _ then _ else _)
    rw [addR_keys]
    split
    · rw [List.map_append, List.map_append, grps_keys s k L i]
      rfl
    · exact grps_keys s k L i
/-- sorted by color -/
def ByCol (L : List Asd) : Prop := ∀ i j : Nat, i ≤ j → j < L.length → (L.getD i z67).f0.f0 ≤ (L.getD j z67).f0.f0
theorem cols_up {L : List Asd} (h : ByCol L) : ∀ i, i ≤ L.length → (cols L i).Pairwise (· < ·) ∧ (∀ c ∈ cols L i, ∃ j, j < i ∧ c = (L.getD j z67).f0.f0)
  | 0, _ => ⟨List.Pairwise.nil, fun c hc => by cases hc⟩
  | i + 1, hi => by
    obtain ⟨h1, h2⟩ := cols_up h i (by omega)
    rw [show cols L (i + 1) = if newG L i then cols L i ++ [(L.getD i z67).f0.f0] else cols L i from rfl]
    by_cases hn : newG L i
    · rw [if_pos hn]
      refine ⟨List.pairwise_append.2 ⟨h1, by simp, fun a ha b hb => ?_⟩, fun c hc => ?_⟩
      · rw [List.mem_singleton.1 hb]
        obtain ⟨j, hj, rfl⟩ := h2 a ha
        have h3 := h j (i - 1) (by omega) (by omega)
        have h4 := h (i - 1) i (by omega) (by omega)
        rcases hn with hn | hn
        · omega
        · omega
      · rcases List.mem_append.1 hc with hc | hc
        · obtain ⟨j, hj, e⟩ := h2 c hc
          exact ⟨j, by omega, e⟩
        · exact ⟨i, by omega, List.mem_singleton.1 hc⟩
    · rw [if_neg hn]
      exact ⟨h1, fun c hc => by obtain ⟨j, hj, e⟩ := h2 c hc; exact ⟨j, by omega, e⟩⟩
/-- who asked, sorted: by color; and each color is not below 0 -/
theorem sortA_col (xs : List Asd) : ByCol (HS.sortA xs) := by
  intro i j hij hj
  rw [HS.sortA_len] at hj
  have hl : (HS.isort (HS.els xs)).length = xs.length := by rw [(HS.isort_perm _).length_eq, HS.els_len]
  have hi' : i < (HS.isort (HS.els xs)).length := by omega
  have hj' : j < (HS.isort (HS.els xs)).length := by omega
  have hg : ∀ t (ht : t < (HS.isort (HS.els xs)).length), ((HS.sortA xs).getD t z67).f0.f0 = ((HS.isort (HS.els xs))[t]).c := fun t ht => by
    unfold HS.sortA
    simp [List.getD, ht, HS.ofEl]
  rw [hg i hi', hg j hj']
  rcases Nat.lt_or_ge i j with h | h
  · have := List.pairwise_iff_getElem.1 (HS.isort_sorted (HS.els xs)) i j hi' hj' h
    rw [HS.ltI_false] at this
    unfold HS.LtE at this
    omega
  · have : i = j := by omega
    subst this
    exact Int.le_refl _
theorem sortA_pos {asks : List Ask_} {ranks : List Int} {i : Nat} {x : Asd} (h : x ∈ HS.sortA (pick asks ranks i)) : 0 ≤ x.f0.f0 := (pick_mem (sortA_mem h)).2.1
/-- a split's keys -/
theorem split_keys (s : ByteArray) (k : Int) (ranks : List Int) (asks : List Ask_) : ∃ cs : List Int, (splitG s k ranks asks).map (·.f0) = cs.map (keyG s k) ∧ cs.Pairwise (· < ·) ∧ ∀ c ∈ cs, 0 ≤ c := by
  have hl := HS.sortA_len (pick asks ranks asks.length)
  refine ⟨cols (HS.sortA (pick asks ranks asks.length)) (pick asks ranks asks.length).length, grps_keys s k _ _, (cols_up (sortA_col _) _ (by omega)).1, fun c hc => ?_⟩
  obtain ⟨j, hj, rfl⟩ := (cols_up (sortA_col _) _ (by omega)).2 c hc
  refine sortA_pos (asks := asks) (ranks := ranks) (i := asks.length) ?_
  have hj' : j < (HS.sortA (pick asks ranks asks.length)).length := by omega
  simp [List.getD, hj']
/-- the keys of two dups and two splits -/
theorem keys_nodup {s : ByteArray} {k m : Int} (hk : 0 ≤ k) (hm : 0 ≤ m) (hne : k ≠ m) {a b : List Int} (ha : a.Pairwise (· < ·)) (hb : b.Pairwise (· < ·)) (ha0 : ∀ c ∈ a, 0 ≤ c) (hb0 : ∀ c ∈ b, 0 ≤ c) :
    ([childB s k, childB s m] ++ a.map (keyG s k) ++ b.map (keyG s m)).Nodup := by
  have hmap : ∀ {q : Int} (hq : 0 ≤ q) {l : List Int}, l.Pairwise (· < ·) → (∀ c ∈ l, 0 ≤ c) → (l.map (keyG s q)).Nodup := fun {q} hq {l} hl hl0 => by
    refine List.pairwise_map.2 (hl.imp_of_mem (fun {x y} hx hy hxy he => ?_))
    have := (key_inj hq hq (hl0 x hx) (hl0 y hy) he).2
    omega
  refine List.nodup_append.2 ⟨List.nodup_append.2 ⟨?_, hmap hk ha ha0, ?_⟩, hmap hm hb hb0, ?_⟩
  · simp [child_ne hk hm hne]
  · intro x hx y hy he
    subst he
    obtain ⟨c, hc, rfl⟩ := List.mem_map.1 hy
    simp only [List.mem_cons, List.not_mem_nil, or_false] at hx
    rcases hx with hx | hx
    · exact child_key hk hk (ha0 c hc) hx.symm
    · exact child_key hm hk (ha0 c hc) hx.symm
  · intro x hx y hy he
    subst he
    obtain ⟨c, hc, rfl⟩ := List.mem_map.1 hy
    rcases List.mem_append.1 hx with hx | hx
    · simp only [List.mem_cons, List.not_mem_nil, or_false] at hx
      rcases hx with hx | hx
      · exact child_key hk hm (hb0 c hc) hx.symm
      · exact child_key hm hm (hb0 c hc) hx.symm
    · obtain ⟨d, hd, he⟩ := List.mem_map.1 hx
      exact hne (key_inj hk hm (ha0 d hd) (hb0 c hc) he).1
/-- each key is longer than the group's own, and begins with it -/
def Longer (s t : ByteArray) : Prop := s.size < t.size ∧ t.extract 0 s.size = s
theorem longer_of {s t : ByteArray} {l : List UInt8} (h : bl t = bl s ++ l) (hl : l ≠ []) : Longer s t := by
  have hz : ∀ b : ByteArray, (bl b).length = b.size := fun b => by show b.data.toList.length = b.data.size; rw [Array.length_toList]
  have hs := hz s
  have ht := hz t
  have hp := List.length_pos_iff.2 hl
  have h2 := congrArg List.length h
  rw [List.length_append] at h2
  refine ⟨by omega, ?_⟩
  apply ByteArray.ext
  apply Array.ext'
  show bl _ = bl s
  have e : bl (t.extract 0 s.size) = (bl t).take s.size := by
    simp [bl, ByteArray.data_extract]
  rw [e, h, ← hs, List.take_left']
  rfl
theorem child_longer {s : ByteArray} {k : Int} (hk : 0 ≤ k) : Longer s (childB s k) := longer_of (bl_child hk) (by simp)
theorem key_longer {s : ByteArray} {k c : Int} (hk : 0 ≤ k) (hc : 0 ≤ c) : Longer s (keyG s k c) := longer_of (bl_key hk hc) (by simp)
end Go.Proofs.YtkifmhfgplhabaaDoor.HQ

namespace Go.Proofs.YtkifmhfgplhabaaDoor.HQ
open Go.Proofs.YtkifmhfgplhabaaDoor.HU Go.RowKit Go.Proofs.YtkifmhfgplhabaaDoor.HK Go.Proofs.YtkifmhfgplhabaaDoor.HP Go.Proofs.YtkifmhfgplhabaaDoorW.PrintWords Go.Proofs.YtkifmhfgplhabaaDoorW.PrintLast Go.Proofs.YtkifmhfgplhabaaDoorW.PrintMore
set_option linter.unusedVariables false
set_option linter.unusedSimpArgs false
abbrev asd (L : List Asd) (t : Nat) : Asd := L.getD t z67
theorem addR_snoc (r : Int) (gs : List Grp) (g : Grp) : addR r (gs ++ [g]) = gs ++ [⟨g.f0, g.f1 ++ [r]⟩] := by
  rw [addR_put (m := gs.length) (g := g) (by simp) (by simp)]
  simp
/-- which of the sorted askers are in which group -/
theorem grps_parts (s : ByteArray) (k : Int) (L : List Asd) : ∀ i, i ≤ L.length → ∃ T : List (List Nat), (grps s k L i).map (·.f1) = T.map (·.map (fun t => (asd L t).f1)) ∧ T.flatten = List.range i ∧
    (∀ q ∈ T, q ≠ [] ∧ q.Pairwise (fun t u => t < u ∧ u < L.length ∧ (asd L t).f0.f0 = (asd L u).f0.f0)) ∧ (0 < i → ∃ (G : List Grp) (g : Grp) (I : List (List Nat)) (q : List Nat), grps s k L i = G ++ [g] ∧ T = I ++ [q] ∧ ∀ t ∈ q, t < i ∧ (asd L t).f0.f0 = (asd L (i - 1)).f0.f0)
  | 0, _ => ⟨[], rfl, rfl, fun q hq => absurd hq List.not_mem_nil, fun h => absurd h (by decide)⟩
  | i + 1, hi => by
    obtain ⟨T, h1, h2, h3, h4⟩ := grps_parts s k L i (by omega)
    have hg : grps s k L (i + 1) = addR (asd L i).f1 (if newG L i then grps s k L i ++ [⟨keyG s k (asd L i).f0.f0, []⟩] else grps s k L i) := rfl
    by_cases hn : newG L i
    · rw [if_pos hn, addR_snoc] at hg
      refine ⟨T ++ [[i]], ?_, ?_, fun q hq => ?_, fun _ => ⟨_, _, T, [i], hg, rfl, fun t ht => ?_⟩⟩
      · rw [hg, List.map_append, List.map_append, h1]
        rfl
      · rw [List.flatten_append, h2, List.range_succ]
        rfl
      · rcases List.mem_append.1 hq with hq | hq
        · exact h3 q hq
        · rw [List.mem_singleton.1 hq]
          exact ⟨by simp, List.pairwise_singleton _ _⟩
      · rw [List.mem_singleton.1 ht]
        exact ⟨by omega, rfl⟩
    · rw [if_neg hn] at hg
      have hi0 : 0 < i := by
        rcases Nat.eq_zero_or_pos i with h | h
        · exact absurd (.inl h) hn
        · exact h
      have hc : (asd L (i - 1)).f0.f0 = (asd L i).f0.f0 := Decidable.byContradiction (fun h => hn (.inr h))
      obtain ⟨G, g, I, q, h5, h6, h7⟩ := h4 hi0
      subst h6
      have h8 : grps s k L (i + 1) = G ++ [⟨g.f0, g.f1 ++ [(asd L i).f1]⟩] := by rw [hg, h5, addR_snoc]
      rw [h5, List.map_append, List.map_append] at h1
      have h9 : G.map (·.f1) = I.map (·.map (fun t => (asd L t).f1)) ∧ [g.f1] = [q.map (fun t => (asd L t).f1)] := List.append_inj' h1 rfl
      refine ⟨I ++ [q ++ [i]], ?_, ?_, fun p hp => ?_, fun _ => ⟨_, _, I, q ++ [i], h8, rfl, fun t ht => ?_⟩⟩
      · rw [h8, List.map_append, List.map_append, h9.1]
        have := List.cons.inj h9.2
        simp [this.1]
      · rw [List.flatten_append] at h2 ⊢
        simp only [List.flatten_cons, List.flatten_nil, List.append_nil] at h2 ⊢
        rw [← List.append_assoc, h2, List.range_succ]
      · rcases List.mem_append.1 hp with hp | hp
        · exact h3 p (List.mem_append_left _ hp)
        · rw [List.mem_singleton.1 hp]
          have h10 := h3 q (by simp)
          refine ⟨by simp, List.pairwise_append.2 ⟨h10.2, List.pairwise_singleton _ _, fun a ha b hb => ?_⟩⟩
          rw [List.mem_singleton.1 hb]
          obtain ⟨h11, h12⟩ := h7 a ha
          exact ⟨h11, by omega, h12.trans hc⟩
      · rcases List.mem_append.1 ht with ht | ht
        · obtain ⟨h11, h12⟩ := h7 t ht
          exact ⟨by omega, h12.trans hc⟩
        · rw [List.mem_singleton.1 ht]
          exact ⟨by omega, rfl⟩
/-- the numbers of those who ask for a color -/
def numsA (asks : List Ask_) (i : Nat) : List Nat := (List.range i).filter (fun m => decide (0 ≤ (asks.getD m z40).f0))
theorem numsA_up (asks : List Ask_) (i : Nat) : (numsA asks i).Pairwise (· < ·) := List.Pairwise.filter _ List.pairwise_lt_range
theorem numsA_mem {asks : List Ask_} {i m : Nat} (h : m ∈ numsA asks i) : m < i ∧ 0 ≤ (asks.getD m z40).f0 := by
  obtain ⟨h1, h2⟩ := List.mem_filter.1 h
  exact ⟨List.mem_range.1 h1, of_decide_eq_true h2⟩
theorem pick_nums (asks : List Ask_) (ranks : List Int) (hl : asks.length = ranks.length) : ∀ i, i ≤ asks.length → pick asks ranks i = (numsA asks i).map (fun m => ⟨asks.getD m z40, ranks.getD m 0⟩)
  | 0, _ => rfl
  | i + 1, hi => by
    have h1 : asks.getD i z40 = asks[i] := by simp [List.getD, show i < asks.length by omega]
    have h2 : ranks.getD i 0 = ranks[i]'(by omega) := by simp [List.getD, show i < ranks.length by omega]
    rw [pick_succ (show i < asks.length by omega) (show i < ranks.length by omega), pick_nums asks ranks hl i (by omega)]
    unfold numsA
    rw [List.range_succ, List.filter_append, List.map_append]
    congr 1
    by_cases h0 : 0 ≤ asks[i].f0
    · rw [if_pos h0, List.filter_cons, if_pos (by rw [h1]; exact decide_eq_true h0)]
      simp only [List.filter_nil, List.map_cons, List.map_nil, h1, h2]
    · rw [if_neg h0, List.filter_cons, if_neg (by rw [h1, decide_eq_false h0]; decide)]
      rfl
/-- a number's way among the askers: by key, then by number -/
def Later (asks : List Ask_) (m u : Nat) : Prop := (asks.getD m z40).f0 = (asks.getD u z40).f0 ∧ ((asks.getD m z40).f1 < (asks.getD u z40).f1 ∨ (asks.getD m z40).f1 = (asks.getD u z40).f1 ∧ m < u)
/-- a group is of these numbers -/
structure PartOf (asks : List Ask_) (ranks : List Int) (g : List Int) (ms : List Nat) : Prop where
  is : g = ms.map (fun m => ranks.getD m 0)
  ne : ms ≠ []
  mem : ∀ m ∈ ms, m < asks.length ∧ 0 ≤ (asks.getD m z40).f0
  up : ms.Pairwise (Later asks)
/-- the sorted askers: who is where -/
theorem sorted_nums (asks : List Ask_) (ranks : List Int) (hl : asks.length = ranks.length) : ∃ N : Nat → Nat, (∀ t, t < (numsA asks asks.length).length → asd (HS.sortA (pick asks ranks asks.length)) t = ⟨asks.getD (N t) z40, ranks.getD (N t) 0⟩ ∧ N t < asks.length ∧ 0 ≤ (asks.getD (N t) z40).f0) ∧
    ∀ t u, t < u → u < (numsA asks asks.length).length → (asks.getD (N t) z40).f0 = (asks.getD (N u) z40).f0 → Later asks (N t) (N u) := by
  have hp := pick_nums asks ranks hl asks.length (Nat.le_refl _)
  have hup := numsA_up asks asks.length
  have hmem := fun m => @numsA_mem asks asks.length m
  generalize numsA asks asks.length = ns at hp hup hmem
  obtain ⟨P, hP⟩ : ∃ P, P = pick asks ranks asks.length := ⟨_, rfl⟩
  rw [← hP] at hp ⊢
  have hPl : P.length = ns.length := by rw [hp, List.length_map]
  obtain ⟨es, he⟩ : ∃ es, es = HS.isort (HS.els P) := ⟨_, rfl⟩
  have hel : es.length = ns.length := by rw [he, (HS.isort_perm _).length_eq, HS.els_len, hPl]
  have hat : ∀ t (ht : t < es.length), es[t].i < ns.length ∧ ∀ h : es[t].i < P.length, es[t] = HS.toEl (P[es[t].i]) es[t].i := fun t ht => by
    have h1 : es[t] ∈ HS.els P := (HS.isort_perm (HS.els P)).mem_iff.1 (he ▸ List.getElem_mem ht)
    obtain ⟨j, hj, h2⟩ := List.getElem_of_mem h1
    have hj' : j < P.length := by rw [HS.els_len] at hj; exact hj
    rw [HS.els_get hj'] at h2
    rw [← h2]
    exact ⟨by show j < _; omega, fun h => rfl⟩
  have hnd : es.Pairwise (fun a b => a.i ≠ b.i) := by
    have h1 : (HS.els P).Pairwise (fun a b => a.i ≠ b.i) := by
      rw [List.pairwise_iff_getElem]
      intro i j hi hj hij
      rw [HS.els_len] at hi hj
      rw [HS.els_get hi, HS.els_get hj]
      show i ≠ j
      omega
    rw [he]
    exact ((HS.isort_perm (HS.els P)).pairwise_iff (fun {a b} h => Ne.symm h)).2 h1
  have hso : es.Pairwise (fun a b => HS.ltI b a = false) := he ▸ HS.isort_sorted _
  obtain ⟨N, hN⟩ : ∃ N : Nat → Nat, ∀ t, N t = ns.getD ((es.getD t ⟨0, 0, 0, 0⟩).i) 0 := ⟨_, fun _ => rfl⟩
  refine ⟨N, fun t ht => ?_, fun t u htu hu hcol => ?_⟩
  · have ht' : t < es.length := by omega
    obtain ⟨h1, h2⟩ := hat t ht'
    have h3 : es.getD t ⟨0, 0, 0, 0⟩ = es[t] := by simp [List.getD, ht']
    have h4 : ns.getD es[t].i 0 = ns[es[t].i] := by simp [List.getD, h1]
    rw [hN t, h3, h4]
    refine ⟨?_, hmem _ (List.getElem_mem h1)⟩
    have h5 : asd (HS.sortA P) t = HS.ofEl es[t] := by
      unfold HS.sortA asd
      rw [← he]
      simp [List.getD, ht']
    have hpl : es[t].i < P.length := by omega
    have h6 : P[es[t].i]'hpl = ⟨asks.getD ns[es[t].i] z40, ranks.getD ns[es[t].i] 0⟩ := by
      have : ∀ (Q : List Asd) (hQ : es[t].i < Q.length), P = Q → P[es[t].i]'hpl = Q[es[t].i]'hQ := fun Q hQ e => by subst e; rfl
      rw [this _ (by rw [List.length_map]; exact h1) hp, List.getElem_map]
    rw [h5, ← h6]
    generalize hx : P[es[t].i]'hpl = x
    have h7 := h2 hpl
    rw [hx] at h7
    rw [h7]
    rfl
  · have hu' : u < es.length := by omega
    have ht' : t < es.length := by omega
    obtain ⟨h1, h2⟩ := hat t ht'
    obtain ⟨h1', h2'⟩ := hat u hu'
    have h3 : es.getD t ⟨0, 0, 0, 0⟩ = es[t] := by simp [List.getD, ht']
    have h3' : es.getD u ⟨0, 0, 0, 0⟩ = es[u] := by simp [List.getD, hu']
    have h4 : ns.getD es[t].i 0 = ns[es[t].i] := by simp [List.getD, h1]
    have h4' : ns.getD es[u].i 0 = ns[es[u].i] := by simp [List.getD, h1']
    rw [hN t, hN u, h3, h3', h4, h4'] at hcol ⊢
    have hval : ∀ v (hv : v < es.length) (h : es[v].i < ns.length), (asks.getD ns[es[v].i] z40).f0 = es[v].c ∧ (asks.getD ns[es[v].i] z40).f1 = es[v].k := fun v hv h => by
      have hpl : es[v].i < P.length := by omega
      have h6 : P[es[v].i]'hpl = ⟨asks.getD ns[es[v].i] z40, ranks.getD ns[es[v].i] 0⟩ := by
        have : ∀ (Q : List Asd) (hQ : es[v].i < Q.length), P = Q → P[es[v].i]'hpl = Q[es[v].i]'hQ := fun Q hQ e => by subst e; rfl
        rw [this _ (by rw [List.length_map]; exact h) hp, List.getElem_map]
      have h7 := (hat v hv).2 hpl
      rw [h6] at h7
      have hc := congrArg HS.El.c h7
      have hk := congrArg HS.El.k h7
      exact ⟨hc.symm, hk.symm⟩
    obtain ⟨c1, c2⟩ := hval t ht' h1
    obtain ⟨d1, d2⟩ := hval u hu' h1'
    have h8 := List.pairwise_iff_getElem.1 hso t u ht' hu' htu
    have h9 := List.pairwise_iff_getElem.1 hnd t u ht' hu' htu
    rw [HS.ltI_false] at h8
    unfold HS.LtE at h8
    unfold Later
    refine ⟨hcol, ?_⟩
    rw [c1, d1] at hcol
    rw [c2, d2]
    have h10 : es[t].i < es[u].i → ns[es[t].i] < ns[es[u].i] := fun h => List.pairwise_iff_getElem.1 hup _ _ h1 h1' h
    by_cases hk : es[t].k < es[u].k
    · exact .inl hk
    · exact .inr ⟨by omega, h10 (by omega)⟩
/-- the parts of a split -/
theorem split_parts (s : ByteArray) (k : Int) (ranks : List Int) (asks : List Ask_) (hl : asks.length = ranks.length) : ∃ M : List (List Nat), M.length = (splitG s k ranks asks).length ∧ (∀ i (h : i < M.length) (h' : i < (splitG s k ranks asks).length), PartOf asks ranks ((splitG s k ranks asks)[i]).f1 M[i]) ∧ (M.map List.length).sum = (numsA asks asks.length).length := by
  obtain ⟨N, hN1, hN2⟩ := sorted_nums asks ranks hl
  have hpl : (pick asks ranks asks.length).length = (numsA asks asks.length).length := by rw [pick_nums asks ranks hl asks.length (Nat.le_refl _), List.length_map]
  have hsl := HS.sortA_len (pick asks ranks asks.length)
  obtain ⟨T, h1, h2, h3, h4⟩ := grps_parts s k (HS.sortA (pick asks ranks asks.length)) (pick asks ranks asks.length).length (by omega)
  have hgs : grps s k (HS.sortA (pick asks ranks asks.length)) (pick asks ranks asks.length).length = splitG s k ranks asks := rfl
  rw [hgs] at h1
  have hTl : T.length = (splitG s k ranks asks).length := by
    have := congrArg List.length h1
    simpa using this.symm
  have hTm : ∀ q ∈ T, ∀ t ∈ q, t < (numsA asks asks.length).length := fun q hq t ht => by
    have : t ∈ T.flatten := List.mem_flatten.2 ⟨q, hq, ht⟩
    rw [h2, hpl] at this
    exact List.mem_range.1 this
  refine ⟨T.map (·.map N), by rw [List.length_map]; exact hTl, fun i hi hi' => ?_, ?_⟩
  · have hiT : i < T.length := by rw [hTl]; exact hi'
    have hq := List.getElem_mem hiT
    obtain ⟨h5, h6⟩ := h3 _ hq
    have h7 : ((splitG s k ranks asks)[i]).f1 = (T[i]).map (fun t => (asd (HS.sortA (pick asks ranks asks.length)) t).f1) := by
      have e1 : ((splitG s k ranks asks).map (·.f1))[i]'(by rw [List.length_map]; exact hi') = (T.map (·.map (fun t => (asd (HS.sortA (pick asks ranks asks.length)) t).f1)))[i]'(by rw [List.length_map]; exact hiT) := by simp only [h1]
      rw [List.getElem_map, List.getElem_map] at e1
      exact e1
    rw [List.getElem_map]
    refine ⟨?_, ?_, fun m hm => ?_, ?_⟩
    · rw [h7, List.map_map]
      refine List.map_congr_left (fun t ht => ?_)
      rw [(hN1 t (hTm _ hq t ht)).1]
      rfl
    · intro h
      exact h5 (List.map_eq_nil_iff.1 h)
    · obtain ⟨t, ht, rfl⟩ := List.mem_map.1 hm
      exact (hN1 t (hTm _ hq t ht)).2
    · refine List.pairwise_map.2 (h6.imp_of_mem (fun {t u} ht hu h => ?_))
      have e1 := (hN1 t (hTm _ hq t ht)).1
      have e2 := (hN1 u (hTm _ hq u hu)).1
      refine hN2 t u h.1 (hTm _ hq u hu) ?_
      have := h.2.2
      rw [e1, e2] at this
      exact this
  · rw [List.map_map]
    have : (List.length ∘ fun (x : List Nat) => x.map N) = List.length := by funext x; simp
    rw [this, ← List.length_flatten, h2, List.length_range, hpl]
/-- a part may be, and its ranks are told by their numbers -/
theorem part_may {asks : List Ask_} {ranks : List Int} {g : List Int} {ms : List Nat} (h : PartOf asks ranks g ms) (hm : MayG ranks) (hl : asks.length = ranks.length) : mayB g = true := by
  have hget : ∀ m ∈ ms, ∃ hm : m < ranks.length, ranks.getD m 0 = ranks[m] := fun m hm => by
    have := (h.mem m hm).1
    have h2 : m < ranks.length := by omega
    exact ⟨h2, by simp [List.getD, h2]⟩
  refine decide_eq_true ?_
  rw [h.is]
  refine ⟨?_, fun x hx => ?_, ?_⟩
  · rw [List.length_map]
    exact List.length_pos_iff.2 h.ne
  · obtain ⟨m, hmm, rfl⟩ := List.mem_map.1 hx
    obtain ⟨h1, h2⟩ := hget m hmm
    rw [h2]
    exact hm.2.1 _ (List.getElem_mem h1)
  · refine List.pairwise_map.2 (h.up.imp_of_mem (fun {a b} ha hb hab he => ?_))
    obtain ⟨h1, h2⟩ := hget a ha
    obtain ⟨h3, h4⟩ := hget b hb
    rw [h2, h4] at he
    have hne : a ≠ b := fun e => by
      subst e
      rcases hab.2 with h5 | h5
      · omega
      · omega
    have hp := List.pairwise_iff_getElem.1 hm.2.2
    rcases Nat.lt_or_gt_of_ne hne with h5 | h5
    · exact hp a b h1 h3 h5 he
    · exact hp b a h3 h1 h5 he.symm
theorem part_pos {ranks : List Int} (hm : MayG ranks) {m : Nat} (h : m < ranks.length) : posI ranks (ranks.getD m 0) = some m := by
  have e : ranks.getD m 0 = rd ranks (m : Int) := by rw [rd_lt h]; simp [List.getD, h]
  rw [e]
  cases hq : posI ranks (rd ranks (m : Int)) with
  | none => exact absurd rfl (posI_none hq m h)
  | some u =>
    obtain ⟨h1, h2, _⟩ := posI_some hq
    rw [rd_inj hm.2.2 h1 h h2]
end Go.Proofs.YtkifmhfgplhabaaDoor.HQ

namespace Go.Proofs.YtkifmhfgplhabaaDoor.HQ
open Go.Proofs.YtkifmhfgplhabaaDoor.HU Go.RowKit Go.Proofs.YtkifmhfgplhabaaDoor.HK Go.Proofs.YtkifmhfgplhabaaDoor.HP Go.Proofs.YtkifmhfgplhabaaDoorW.PrintWords Go.Proofs.YtkifmhfgplhabaaDoorW.PrintLast Go.Proofs.YtkifmhfgplhabaaDoorW.PrintMore
set_option linter.unusedVariables false
set_option linter.unusedSimpArgs false
/-- the groups' ranks lie behind base, each in a block of its own -/
structure GInc (base : Nat) (hs : List Hd) : Prop where
  ge : ∀ (j : Nat) (h : Hd) (ad : Addr), hs[j]? = some h → h.2.1 = some ad → base ≤ ad.block
  inc : ∀ (i j : Nat) (h h' : Hd) (ad ad' : Addr), i < j → hs[i]? = some h → hs[j]? = some h' → h.2.1 = some ad → h'.2.1 = some ad' → ad.block < ad'.block
theorem GInc.nil (base : Nat) : GInc base [] := ⟨fun j h ad hj => by simp at hj, fun i j h h' ad ad' _ hj => by simp at hj⟩
theorem snoc_get {α : Type} {l : List α} {x y : α} {j : Nat} (h : (l ++ [x])[j]? = some y) : (j < l.length ∧ l[j]? = some y) ∨ (j = l.length ∧ y = x) := by
  by_cases hj : j < l.length
  · rw [List.getElem?_append_left hj] at h
    exact .inl ⟨hj, h⟩
  · rw [List.getElem?_append_right (by omega)] at h
    cases hd : j - l.length with
    | zero => rw [hd] at h; simp at h; exact .inr ⟨by omega, h.symm⟩
    | succ t => rw [hd] at h; simp at h
theorem GInc.push {base : Nat} {hs : List Hd} {key : ByteArray} (h : GInc base hs) : GInc base (hs ++ [(key, (none, 0, 0))]) := by
  refine ⟨fun j x ad hj ha => ?_, fun i j x y ad ad' hij hx hy ha ha' => ?_⟩
  · rcases snoc_get hj with ⟨_, hj⟩ | ⟨_, rfl⟩
    · exact h.ge j x ad hj ha
    · cases ha
  · rcases snoc_get hx with ⟨_, hx⟩ | ⟨_, rfl⟩
    · rcases snoc_get hy with ⟨_, hy⟩ | ⟨_, rfl⟩
      · exact h.inc i j x y ad ad' hij hx hy ha ha'
      · cases ha'
    · cases ha
theorem R_ge {W : World} {B n c : Nat} {A : Option Addr} {l : List Int} (hR : Kd.R (Kd.int .i64) 3 W B (fun _ => True) (.slice A n c) l) {ad : Addr} (ha : A = some ad) : B ≤ ad.block := by
  subst ha
  obtain ⟨inner, ho⟩ := Kd.R_own hR
  rcases ho.2 with ⟨hv, _⟩ | ⟨g, cap, cur, hv, hg, hb, _⟩
  · injection hv with h1
    cases h1
  · injection hv with h1
    injection h1 with h1
    subst h1
    exact hg
theorem GInc.put {W W1 : World} {base B m n1 c1 : Nat} {v : Value} {A1 : Option Addr} {hs : List Hd} {gs : List Grp} {key : ByteArray} {l1 : List Int} (h : GInc base hs) (hg : GI W base B v hs gs) (hB : base ≤ B) (h1 : m + 1 = hs.length)
    (hR : Kd.R (Kd.int .i64) 3 W1 B (fun _ => True) (.slice A1 n1 c1) l1) : GInc base (hs.set m (key, (A1, n1, c1))) := by
  refine ⟨fun j x ad hj ha => ?_, fun i j x y ad ad' hij hx hy ha ha' => ?_⟩
  · by_cases hm : j = m
    · subst hm
      rw [List.getElem?_set_self (by omega)] at hj
      obtain rfl := Option.some.inj hj
      exact Nat.le_trans hB (R_ge hR ha)
    · rw [List.getElem?_set_ne (by omega)] at hj
      exact h.ge j x ad hj ha
  · have hjl : j < hs.length := by
      have := (List.getElem?_eq_some_iff.1 hy).1
      rwa [List.length_set] at this
    rw [List.getElem?_set_ne (by omega)] at hx
    by_cases hm : j = m
    · subst hm
      rw [List.getElem?_set_self (by omega)] at hy
      obtain rfl := Option.some.inj hy
      have h2 := R_ge hR ha'
      have hil : i < gs.length := by rw [← hg.len]; omega
      have h3 := (hg.fin i x gs[i] (by omega) hx (List.getElem?_eq_getElem hil)).2 ad ha
      omega
    · rw [List.getElem?_set_ne (by omega)] at hy
      exact h.inc i j x y ad ad' hij hx hy ha ha'
set_option maxRecDepth 100000 in
set_option maxHeartbeats 16000000 in
theorem split_n (s : ByteArray) (A : Option Addr) (c : Nat) (ranks : List Int) (k : Int) (A2 : Option Addr) (c2 : Nat) (asks : List Ask_) (w : World) (hr : Kd.C (Kd.int .i64) w A ranks.length ranks) (hc : ranks.length ≤ c) (hr2 : Kd.C k40 w A2 asks.length asks) (hc2 : asks.length ≤ c2)
    (ht : Tab w) (hs : s.size ≤ 10000) (hm : mayB ranks = true) (hk0 : 0 ≤ k) (hk : Rng k) (hcr : ∀ x ∈ asks, Rng x.f0) (hl : asks.length = ranks.length) (hl80 : ranks.length ≤ 80) :
    Calls Tryd.prog 13 #[.agg #[.string s, .slice A ranks.length c], .int .i64 k, .slice A2 asks.length c2] w fun e w' => ∃ (v : Value) (B0 B : Nat) (hs : List Hd), e = .returned (.tuple #[v, .int .i64 0]) ∧ GI w' B0 B v hs (splitG s k ranks asks) ∧ GInc B0 hs ∧ w.heap.size ≤ B0 ∧ Below w.heap.size w w' := by
  have b0 := blk_new w (.cells #[.string s, .slice A ranks.length c] 24)
  have hba := below_alloc (Below.refl w.heap.size w) (.cells #[.string s, .slice A ranks.length c] 24)
  have HB0 := Aside0.mk hba
  have HT0 := Aside0.mk (ht.after hba)
  have HR0 := Aside0.mk (Kd.C_below hr hba)
  have HA0 := Aside0.mk (Kd.C_below hr2 hba)
  have HMY := Aside0.mk (may_c s A c ranks (w.alloc (.cells #[.string s, .slice A ranks.length c] 24)) HR0.out hc)
  rw [hm] at HMY
  have p0 : (w.alloc (.cells #[.string s, .slice A ranks.length c] 24)).cell? ⟨w.heap.size, 0, none⟩ = some (.string s) := (blk_cell b0 0).trans rfl
  have p1 : (w.alloc (.cells #[.string s, .slice A ranks.length c] 24)).cell? ⟨w.heap.size, 1, none⟩ = some (.slice A ranks.length c) := (blk_cell b0 1).trans rfl
  have dk : decide (k < 0) = false := decide_eq_false (by omega)
  clear hr hr2 ht hba b0 hm
  go_enter Tryd.func13, Tryd.ntmps13
  go_wp2_with fail
  generalize (w.alloc (.cells #[.string s, .slice A ranks.length c] 24)) = w1 at p0 p1 HB0 HT0 HR0 HA0 HMY ⊢
  have hz0 := HB0.out.size
  generalize hgb : w.heap.size = gb at p0 p1 HB0 hz0 ⊢
  have HGB := Aside0.mk hgb
  clear hgb
  refine HMY.out.mono ?_
  rintro e w2 ⟨rfl, hb⟩
  have HB2 := Aside0.mk (HB0.out.trans (hb.mono hz0))
  have HT2 := Aside0.mk (HT0.out.after hb)
  have HR2 := Aside0.mk (Kd.C_below HR0.out hb)
  have HA2 := Aside0.mk (Kd.C_below HA0.out hb)
  have q0 := pw_cell_below hb p0
  have q1 := pw_cell_below hb p1
  have hz2 := Nat.le_trans hz0 hb.size
  have hgl : gb < w2.heap.size := by
    have h1 : gb < w1.heap.size := by
      rcases Nat.lt_or_ge gb w1.heap.size with h | h
      · exact h
      · have : w1.heap[gb]? = none := Array.getElem?_eq_none h
        simp [World.cell?, this] at p0
    exact Nat.lt_of_lt_of_le h1 hb.size
  have HGL := Aside0.mk hgl
  clear hb HMY HB0 HT0 HR0 HA0 p0 p1 hz0 hgl
  go_wp2_with fail
  go_loopw [8, 32] (fun v8 v32 wr => ∃ i : Nat, i ≤ asks.length ∧ v32 = .int .i64 i ∧ Aside0 (Kd.R k67 67 wr w2.heap.size (fun _ => True) v8 (pick asks ranks i)) ∧ Aside0 (Below w2.heap.size w2 wr)) (fun _ v32 _ => asks.length - (intOf v32).toNat)
  case atStart => exact ⟨0, by omega, rfl, ⟨Kd.R_nil _ _ _ _ _⟩, ⟨Below.refl _ _⟩⟩
  case round =>
    obtain ⟨i, hi, rfl, HO, HL⟩ := hrel
    obtain ⟨w3, rfl⟩ : ∃ w3 : World, w3 = wr := ⟨_, rfl⟩
    by_cases hin : i < asks.length
    · have hi64 : IntKind.i64.wrap ((i : Int) + 1) = (i : Int) + 1 := i64w (by omega) (by omega)
      have hii : (i : Int) < (asks.length : Int) := by omega
      have hir : (i : Int) < (ranks.length : Int) := by omega
      obtain ⟨aA, hAA, a0, a1⟩ := at_T40 (Kd.C_below HA2.out HL.out) (i : Int) (by omega) (by omega)
      obtain ⟨aR, hAR, r0⟩ := Kd.at_int (Kd.C_below HR2.out HL.out) (i : Int) (by omega) (by omega)
      rw [Int.toNat_natCast] at a0 a1 r0
      rw [rd_lt (by omega)] at r0
      have hxa : rd_T40 asks (i : Int) = asks[i] := by simp [rd_T40, hin]
      rw [hxa] at a0 a1
      have HPS := Aside0.mk (pick_succ hin (show i < ranks.length by omega))
      subst hAA hAR
      generalize asks[i] = x at a0 a1 HPS hxa
      generalize ranks[i] = r at r0 HPS
      obtain ⟨xc, xk⟩ := x
      dsimp only at a0 a1 HPS
      have g0 := pw_cell_below HL.out q0
      have g1 := pw_cell_below HL.out q1
      have HIN := Aside0.mk (show i + 1 ≤ asks.length by omega)
      clear hxa
      go_upto_region 7 with fail
      have hba := below_alloc (Below.refl w3.heap.size w3) (.cells #[.int .i64 xc, .int .i64 xk] 40)
      have hb4 := blk_new w3 (.cells #[.int .i64 xc, .int .i64 xk] 40)
      have HO4 := Aside0.mk (Kd.R_below HO.out hba)
      have HL4 := Aside0.mk (below_then HL.out HL.out.size hba)
      have c0 : (w3.alloc (.cells #[.int .i64 xc, .int .i64 xk] 40)).cell? ⟨w3.heap.size, 0, none⟩ = some (.int .i64 xc) := (blk_cell hb4 0).trans rfl
      have c1 : (w3.alloc (.cells #[.int .i64 xc, .int .i64 xk] 40)).cell? ⟨w3.heap.size, 1, none⟩ = some (.int .i64 xk) := (blk_cell hb4 1).trans rfl
      have g2 := pw_cell_below hba g1
      have r2 := pw_cell_below hba r0
      clear hba hb4 HO HL g0 g1 r0 a0 a1
      generalize w3.heap.size = bt at c0 c1 ⊢
      generalize w3.alloc (.cells #[.int .i64 xc, .int .i64 xk] 40) = w4 at HO4 HL4 c0 c1 g2 r2 ⊢
      by_cases hc0 : 0 ≤ xc
      · have hcz : xc ≥ 0 := hc0
        have hpl := pick_len asks ranks i
        have HP5 := Aside0.mk (HPS.out.trans (by rw [if_pos hc0]))
        have HBD := Aside0.mk (show Below w2.heap.size w2 w4.drew from HL4.out.trans (below_drew (Below.refl _ _)))
        have hbs := Aside0.mk (show w2.heap.size ≤ w4.drew.heap.size from HL4.out.size)
        have HO5 := Aside0.mk (show Kd.R k67 67 w4.drew w2.heap.size (fun _ => True) u8 (pick asks ranks i) from Kd.R_below HO4.out (below_drew (Below.refl _ _)))
        generalize pick asks ranks i = ps at HO5 HP5 hpl
        clear HO4 HPS
        go_upto_region 8 with fail
        go_region_law ((refine Kd.R_append_step k67 (w0 := w2) (W := w4.drew) w2.heap.size (by rfl) (.tmp 40) (.tmp 48) 65 67 (.agg #[.int .i64 0, .int .i64 0, .int .i64 0]) 24 (by rfl) Tryd.underlying65 infoA (by rfl) (by decide) (by omega) u8 ps (⟨⟨xc, xk⟩, r⟩ : Asd) [.int .i64 xc, .int .i64 xk, .int .i64 r] (fun _ => True) (fun _ => False) (by rfl) (by rfl) (k67_mkM _ _ _ _) (fun _ h => h.elim) (fun _ _ => trivial) HO5.out HBD.out hbs.out (by omega) ?_; intro v1 w5 ho hbl hgr hat; have HO6 := Aside0.mk ho; have HL6 := Aside0.mk hbl; clear ho hbl hgr hat))
        all_goals (
          rw [← HP5.out] at HO6
          clear HO5 HBD hbs c0 c1 g2 r2 HL4
          go_wp2
          exact ⟨⟨i + 1, HIN.out, by go_num, HO6, HL6⟩, by simp [intOf]; omega⟩)
      · have hcz : ¬ xc ≥ 0 := hc0
        have HP5 := Aside0.mk (HPS.out.trans (by rw [if_neg hc0, List.append_nil]))
        rw [← HP5.out] at HO4
        clear HPS
        go_wp2
        exact ⟨⟨i + 1, HIN.out, by go_num, HO4, HL4⟩, by simp [intOf]; omega⟩
    · obtain rfl : i = asks.length := by omega
      have hpl := pick_len asks ranks asks.length
      have HSG : Aside0 (splitG s k ranks asks = grps s k (HS.sortA (pick asks ranks asks.length)) (pick asks ranks asks.length).length) := ⟨rfl⟩
      obtain ⟨Al, cl, hvl, hcl, HSRT⟩ := HS.sort_any HO.out (by omega)
      have HSR := Aside0.mk HSRT
      have HBS := Aside0.mk (Kd.R_base HO.out)
      subst hvl
      have g0 := pw_cell_below HL.out q0
      have g1 := pw_cell_below HL.out q1
      have HT3 := Aside0.mk (HT2.out.after HL.out)
      have hpr : ∀ x ∈ pick asks ranks asks.length, Rng x.f0.f0 := fun x hx => hcr _ (pick_mem hx).1
      generalize pick asks ranks asks.length = ps at hpr HSG hpl hcl HSR HBS
      clear HSRT HO hi hin
      have HSL := Aside0.mk (HS.sortA_len ps)
      go_wp2_with fail
      refine HSR.out.mono ?_
      rintro e w4 ⟨rfl, hC, hK, hB⟩
      have HL4 := Aside0.mk (HL.out.trans (hB _ HBS.out))
      have HCL := Aside0.mk hC
      have g2 := pw_cell_below HL4.out q0
      have g3 := pw_cell_below HL4.out q1
      have HT4 := Aside0.mk (HT2.out.after HL4.out)
      clear hC hK hB HSR HBS HT3 HT2 g0 g1 q0 q1 HL
      have HLN : Aside0 ((HS.sortA ps).length = ps.length) := ⟨HSL.out⟩
      have HRG := Aside0.mk (fun x hx => hpr x (sortA_mem hx))
      generalize HS.sortA ps = L at HCL HLN HRG HSG
      have hgl4 : gb < w4.heap.size := by have := HGL.out; have := HL4.out.size; omega
      have HG4 := Aside0.mk hgl4
      clear hgl4 HSL
      obtain ⟨n, hn⟩ : ∃ n, n = ps.length := ⟨_, rfl⟩
      rw [← hn] at HCL HLN hpl hcl HSG ⊢
      clear hn
      go_wp2_with fail
      go_loopw [11, 55] (fun v11 v55 wr => ∃ (i B : Nat) (hs : List Hd), i ≤ n ∧ v55 = .int .i64 i ∧ Aside0 (GI wr w4.heap.size B v11 hs (grps s k L i)) ∧ Aside0 (hs.length ≤ i ∧ (0 < i → 0 < hs.length) ∧ w4.heap.size ≤ B) ∧ Aside0 (GInc w4.heap.size hs) ∧ Aside0 (Below w4.heap.size w4 wr)) (fun _ v55 _ => n - (intOf v55).toNat)
      case atStart => exact ⟨0, w4.heap.size, [], by omega, rfl, ⟨GI.nil _ _⟩, ⟨by simp⟩, ⟨GInc.nil _⟩, ⟨Below.refl _ _⟩⟩
      case round =>
        obtain ⟨i, B, hd, hi, rfl, HGI, HHL, HIN, HLW⟩ := hrel
        obtain ⟨w5, rfl⟩ : ∃ w5 : World, w5 = wr := ⟨_, rfl⟩
        by_cases hin : i < n
        · have hi64 : IntKind.i64.wrap ((i : Int) + 1) = (i : Int) + 1 := i64w (by omega) (by omega)
          have hii : (i : Int) < (n : Int) := by omega
          obtain ⟨aL, hAL, x0, x1, x2⟩ := at_T67 (Kd.C_below HCL.out HLW.out) (i : Int) (by omega) (by omega)
          rw [Int.toNat_natCast] at x0 x1 x2
          subst hAL
          have hrd : rd_T67 L (i : Int) = L.getD i z67 := by simp [rd_T67]
          rw [hrd] at x0 x1 x2
          have g4 := pw_cell_below HLW.out g2
          have g5 := pw_cell_below HLW.out g3
          generalize hx : L.getD i z67 = x at x0 x1 x2
          have HX := Aside0.mk hx
          obtain ⟨⟨xc, xk⟩, xr⟩ := x
          dsimp only at x0 x1 x2
          clear hx hrd
          go_upto_region 15 with fail
          have hba := below_alloc (Below.refl w5.heap.size w5) (.cells #[.int .i64 xc, .int .i64 xk, .int .i64 xr] 67)
          have hb6 := blk_new w5 (.cells #[.int .i64 xc, .int .i64 xk, .int .i64 xr] 67)
          have HLW6 := Aside0.mk (below_then HLW.out HLW.out.size hba)
          have HGI6 := Aside0.mk (HGI.out.below hba)
          have c0 : (w5.alloc (.cells #[.int .i64 xc, .int .i64 xk, .int .i64 xr] 67)).cell? ⟨w5.heap.size, 0, none⟩ = some (.int .i64 xc) := (blk_cell hb6 0).trans rfl
          have c2 : (w5.alloc (.cells #[.int .i64 xc, .int .i64 xk, .int .i64 xr] 67)).cell? ⟨w5.heap.size, 2, none⟩ = some (.int .i64 xr) := (blk_cell hb6 2).trans rfl
          have g6 := pw_cell_below hba g4
          have g7 := pw_cell_below hba g5
          have HBX := Aside0.mk hb6
          clear hba hb6 HLW HGI x0 x1 x2 g4 g5
          generalize w5.heap.size = bx at c0 c2 HBX ⊢
          generalize w5.alloc (.cells #[.int .i64 xc, .int .i64 xk, .int .i64 xr] 67) = w6 at c0 c2 g6 g7 HLW6 HGI6 HBX ⊢
          go_cut [74] from 56 to 74 (fun v74 wx => v74 = .bool (decide (newG L i)) ∧ Below w6.heap.size w6 wx)
          case first =>
            by_cases hi0 : i = 0
            · subst hi0
              have hng : decide (newG L 0) = true := decide_eq_true (.inl rfl)
              go_quiet (fail)
              go_wp2_with fail
              go_meet
              exact ⟨by rw [hng], pw_below_drewN (Below.refl _ _) nq⟩
            · obtain ⟨aM, hAM, y0, y1, y2⟩ := at_T67 (Kd.C_below HCL.out HLW6.out) ((i - 1 : Nat) : Int) (by omega) (by omega)
              rw [Int.toNat_natCast] at y0
              injection hAM with hAM
              subst hAM
              have hrd : rd_T67 L ((i - 1 : Nat) : Int) = L.getD (i - 1) z67 := by simp [rd_T67]
              rw [hrd] at y0
              have hng := newG_dec hi0 (show (L.getD i z67).f0.f0 = xc by rw [HX.out])
              have HNG := Aside0.mk hng
              clear hng hrd y1 y2
              generalize (L.getD (i - 1) z67).f0.f0 = pc at y0 HNG
              have wi1 : IntKind.i64.wrap ((i : Int) - 1) = ((i - 1 : Nat) : Int) := (i64w (by omega) (by omega)).trans (by omega)
              have hz1 : ((i : Int) == 0) = false := beq_eq_false_iff_ne.2 (by omega)
              have f1 : (0 : Int) ≤ ((i - 1 : Nat) : Int) := by omega
              have f2 : ((i - 1 : Nat) : Int) < (n : Int) := by omega
              have f3 : (((i - 1 : Nat) : Int)).toNat = i - 1 := by omega
              obtain ⟨i1, hi1⟩ : ∃ i1, i1 = i - 1 := ⟨_, rfl⟩
              rw [← hi1] at y0 wi1 f1 f2 f3
              clear hi1
              go_quiet (fail)
              go_wp2_with fail
              go_meet
              exact ⟨by rw [HNG.out], pw_below_drewN (Below.refl _ _) nq⟩
          case rest =>
            obtain ⟨rfl, hbq⟩ := hcut
            have e0 := pw_cell_below hbq c0
            have e2 := pw_cell_below hbq c2
            have g8 := pw_cell_below hbq g6
            have g9 := pw_cell_below hbq g7
            have HLW7 := Aside0.mk (below_then HLW6.out HLW6.out.size hbq)
            have HGI7 := Aside0.mk (HGI6.out.below hbq)
            have HT7 := Aside0.mk (HT4.out.after HLW7.out)
            have HBX7 := Aside0.mk (blk_below HBX.out hbq)
            have hgs : grps s k L (i + 1) = addR xr (if newG L i then grps s k L i ++ [⟨keyG s k xc, []⟩] else grps s k L i) := by
              show addR (L.getD i z67).f1 _ = _
              rw [HX.out]
            clear c0 c2 g6 g7 HLW6 HGI6 hbq HBX
            by_cases hng : newG L i
            · rw [if_pos hng] at hgs
              rw [decide_eq_true hng]
              have HGS := Aside0.mk hgs
              clear hgs hng
              have HGL := Aside0.mk (grps_len s k L i)
              generalize grps s k L i = gs at HGS HGI7 HGL
              have hxr : Rng xc := by
                have h1 : i < L.length := by rw [HLN.out]; exact hin
                have h2 := HRG.out (L.getD i z67) (by simp [List.getD, h1])
                rw [HX.out] at h2
                exact h2
              have hz1 : (childB s k).size ≤ 10100 := by
                unfold childB
                rw [ByteArray.size_append, ByteArray.size_append]
                have := itoB_size hk
                have h1 : (⟨#[46]⟩ : ByteArray).size = 1 := rfl
                omega
              have hz2 := itoB_size hxr
              have HCH := Aside0.mk (child_c s (.slice A ranks.length c) k wc.drew hk HT7.out.drew (by omega))
              have HIT := Aside0.mk (fun (W : World) (hT : Tab W) => itoa_c xc W hxr hT)
              have HKY := Aside0.mk (show keyG s k xc = childB s k ++ ⟨#[58]⟩ ++ itoB xc from rfl)
              generalize hky : keyG s k xc = ky at HKY HGS
              clear hky
              generalize childB s k = t1 at HCH hz1 HKY
              generalize itoB xc = t2 at HIT hz2 HKY
              have hs1 : ¬ 9223372036854775807 < t1.size + 1 := by omega
              have hs2 : ¬ 9223372036854775807 < t1.size + 1 + t2.size := by omega
              have hdl : hd.length ≤ 80 := by have := HHL.out.1; omega
              go_upto_region 16 with fail
              go_region_held3 (fun W => W.cell? ⟨gb, 0, none⟩ = some (.string s) ∧ W.cell? ⟨gb, 1, none⟩ = some (.slice A ranks.length c) ∧ W.cell? ⟨bx, 0, none⟩ = some (.int .i64 xc))
                (first | exact ⟨s3_0, s3_1, s3_2⟩ | exact ⟨s2_0, s2_1, s2_2⟩ | exact ⟨cell_alloc1 s2_0 _, cell_alloc1 s2_1 _, cell_alloc1 s2_2 _⟩ | exact ⟨s1_0, s1_1, s1_2⟩ | exact ⟨g8, g9, e0⟩)
                (first
                  | (go_at_call 25; with_reducible refine HCH.out.mono ?_; rintro e wA ⟨rfl, hb⟩; have HBA := Aside0.mk (below_of_drew hb); have s1_0 := pw_cell_below HBA.out g8; have s1_1 := pw_cell_below HBA.out g9; have s1_2 := pw_cell_below HBA.out e0; clear hb)
                  | (go_at_call 33; with_reducible refine (HIT.out wA (HT7.out.after HBA.out)).mono ?_; rintro e wB ⟨rfl, hb⟩; have HBB := Aside0.mk (below_then HBA.out HBA.out.size hb); have s2_0 := pw_cell_below HBB.out g8; have s2_1 := pw_cell_below HBB.out g9; have s2_2 := pw_cell_below HBB.out e0; have HGI8 := Aside0.mk (HGI7.out.below HBB.out); have HLW8 := Aside0.mk (below_then HLW7.out HLW7.out.size HBB.out); clear hb)
                  | (refine app_one_step kH (w0 := w4) w4.heap.size wB.heap.size (by rfl) (.tmp 75) (.tmp 86) 33 24 (.agg #[.string ⟨#[]⟩, .slice none 0 0]) 40 (by rfl) Tryd.underlying33 infoG (by rfl) (by decide) (by omega) u11 hd ((t1 ++ ⟨#[58]⟩ ++ t2, (none, 0, 0)) : Hd) [.string (t1 ++ ⟨#[58]⟩ ++ t2), .slice none 0 0] (fun _ => True) (fun _ => False) (by rfl) (by rfl) (blk_new wB _) (kH_mkM _ _ _ _) (fun _ h => h.elim) (fun _ _ => trivial) (Kd.Q_alloc HGI8.out.row _) (HLW8.out.alloc HLW8.out.size _) (Nat.le_trans HLW8.out.size (by rw [World.size_alloc]; omega)) (by omega) ?_; intro v1 w8 hq hbl hgr hat; have HGI9 := Aside0.mk (GI.push ((HGI8.out).below (below_alloc (Below.refl _ _) _)) hq hgr); have HLW9 := Aside0.mk hbl; have s3_0 := pw_cell_below hbl g2; have s3_1 := pw_cell_below hbl g3; have HBX9 := Aside0.mk (box_grown (Kd.Q_alloc HGI8.out.row _) (blk_alloc (blk_below HBX7.out HBB.out) _) hgr); have s3_2 := (blk_cell HBX9.out 0).trans rfl; clear hq hbl hgr hat))
              all_goals (
                rw [HKY.out] at HGS
                have hdl2 : (hd ++ [((t1 ++ ⟨#[58]⟩ ++ t2, (none, 0, 0)) : Hd)]).length ≤ i + 1 := by rw [List.length_append, List.length_singleton]; have := HHL.out.1; omega
                have hdp2 : 0 < (hd ++ [((t1 ++ ⟨#[58]⟩ ++ t2, (none, 0, 0)) : Hd)]).length := by rw [List.length_append, List.length_singleton]; omega
                clear s1_0 s1_1 s1_2 s2_0 s2_1 s2_2 s3_0 s3_1 s3_2 g8 g9 e0 e2 HBA HBB HGI8 HLW8 HGI7 HLW7 HBX7 HCH HIT HT7 hs1 hs2 hz1 hz2 HKY
                have HIN9 := Aside0.mk (HIN.out.push (key := t1 ++ ⟨#[58]⟩ ++ t2))
                generalize hd ++ [((t1 ++ ⟨#[58]⟩ ++ t2, (none, 0, 0)) : Hd)] = hd1 at HGI9 hdl2 hdp2 HIN9
                have HGL2 : Aside0 (∀ g ∈ gs ++ [(⟨t1 ++ ⟨#[58]⟩ ++ t2, []⟩ : Grp)], g.f1.length ≤ i) := ⟨fun g hg => by
                  rcases List.mem_append.1 hg with hg | hg
                  · exact HGL.out g hg
                  · rw [List.mem_singleton.1 hg]; exact Nat.zero_le _⟩
                have HB9 := Aside0.mk HLW9.out.size
                generalize gs ++ [(⟨t1 ++ ⟨#[58]⟩ ++ t2, []⟩ : Grp)] = gs1 at HGI9 HGS HGL2
                obtain ⟨m, hm⟩ : ∃ m, m + 1 = hd1.length := ⟨hd1.length - 1, by omega⟩
                obtain ⟨xh, hxh⟩ : ∃ x, hd1[m]? = some x := ⟨hd1[m]'(by omega), by simp⟩
                obtain ⟨xg, hxg⟩ : ∃ x, gs1[m]? = some x := ⟨gs1[m]'(by have := HGI9.out.len; omega), by simp⟩
                obtain ⟨gB, o, cap, hv, hgbb, _, _⟩ := Kd.Q_form HGI9.out.row (by omega)
                subst hv
                have HGBB := Aside0.mk hgbb
                clear hgbb
                rw [← hm] at HGI9 ⊢
                have hml : m + 1 ≤ 81 := by omega
                have HXH := Aside0.mk hxh
                have HXG := Aside0.mk hxg
                have HMM := Aside0.mk hm
                have hgd := HGI9.out.below (below_drew (Below.refl w8.heap.size w8))
                have HGD := Aside0.mk hgd
                obtain ⟨z1, zf1⟩ := Qh_cell HGI9.out.row (m := m) (by omega) hxh
                have HBD := Aside0.mk (blk_below HBX9.out (below_drew (Below.refl w8.heap.size w8)))
                have b2 : w8.cell? ⟨bx, 2, none⟩ = some (.int .i64 xr) := (blk_cell HBX9.out 2).trans rfl
                have wm1 : IntKind.i64.wrap (((m + 1 : Nat) : Int) - 1) = (m : Int) := (i64w (by omega) (by omega)).trans (by omega)
                have wm2 : IntKind.i64.wrap ((m : Int) + 1 - 1) = (m : Int) := (i64w (by omega) (by omega)).trans (by omega)
                have fm1 : (m : Int) < (m : Int) + 1 := by omega
                have hlst := HGD.out.last m xh xg hm hxh hxg
                have HLST := Aside0.mk hlst
                have HLEN := Aside0.mk (HGL2.out xg (List.mem_of_getElem? hxg))
                obtain ⟨xkey, xA, xn, xcap⟩ := xh
                dsimp only at z1
                clear hxh hxg hm hgd hlst
                have HBB0 := HB9
                go_upto_region 17 with fail
                go_wp2_with fail
                go_region_law ((refine Kd.R_append_step (Kd.int .i64) (w0 := w8.drew) (W := w8.drew) w8.heap.size (by rfl) (.tmp 97) (.tmp 100) 22 3 (.int .i64 0) 8 (by rfl) Tryd.underlying22 infoI (by rfl) (by decide) (by omega) (.slice xA xn xcap) xg.f1 xr [.int .i64 xr] (fun _ => True) (fun _ => False) (by rfl) (by rfl) rfl (fun _ h => h.elim) (fun _ _ => trivial) HLST.out (Below.refl _ _) HGD.out.hB (by have := HLEN.out; omega) ?_; intro v2 w9 ho hbl hgr hat; obtain ⟨A9, c9, rfl, hl9, _⟩ := Kd.R_reads ho; have row9 := GI.row_grown HGD.out HMM.out HXH.out HXG.out hgr; obtain ⟨cz, fz⟩ := Qh_cell row9 (m := m) (by omega) HXH.out; have HEND := Aside0.mk (GI.put HGD.out HMM.out HXH.out HXG.out ho hbl hgr); have HBE := Aside0.mk (hbl.mono HBB0.out); have HINE := Aside0.mk (HIN9.out.put HGI9.out HBB0.out HMM.out ho (key := xkey)); clear ho hbl hgr hat row9))
                all_goals (
                  have HGF := Aside0.mk (HGS.out.trans (addR_put (by have := HGI9.out.len; have := HMM.out; omega) HXG.out))
                  rw [← HGF.out] at HEND
                  clear cz fz z1 zf1 b2 HGI9 HBX9 HGD HBD HLST HGF HGS
                  have HLF := Aside0.mk (((HLW9.out.trans (below_drew (Below.refl w4.heap.size w8))).trans HBE.out).setCell (p := ⟨gB, o + m * 2 + 1, none⟩) HGBB.out (.slice A9 (xg.f1 ++ [xr]).length c9))
                  rw [List.length_append, List.length_singleton] at HEND HLF HINE
                  have HHF : Aside0 ((hd1.set m (xkey, (A9, xg.f1.length + 1, c9))).length ≤ i + 1 ∧ (0 < i + 1 → 0 < (hd1.set m (xkey, (A9, xg.f1.length + 1, c9))).length) ∧ w4.heap.size ≤ w8.heap.size) := ⟨by rw [List.length_set]; have := HMM.out; omega, by rw [List.length_set]; have := HMM.out; omega, HBB0.out⟩
                  go_wp2
                  refine ⟨⟨i + 1, w8.heap.size, _, by omega, by go_num, HEND, HHF, HINE, HLF⟩, ?_⟩
                  simp [intOf]
                  omega))
            · rw [if_neg hng] at hgs
              rw [decide_eq_false hng]
              have HGS := Aside0.mk hgs
              have hdp : 0 < hd.length := HHL.out.2.1 (Nat.pos_of_ne_zero (fun h => hng (.inl h)))
              clear hgs hng
              have HGL := Aside0.mk (grps_len s k L i)
              generalize grps s k L i = gs at HGS HGI7 HGL
              have hdl2 : hd.length ≤ i + 1 := by have := HHL.out.1; omega
              obtain ⟨m, hm⟩ : ∃ m, m + 1 = hd.length := ⟨hd.length - 1, by omega⟩
              obtain ⟨xh, hxh⟩ : ∃ x, hd[m]? = some x := ⟨hd[m]'(by omega), by simp⟩
              obtain ⟨xg, hxg⟩ : ∃ x, gs[m]? = some x := ⟨gs[m]'(by have := HGI7.out.len; omega), by simp⟩
              obtain ⟨gB, o, cap, hv, hgbb, _, _⟩ := Kd.Q_form HGI7.out.row (by omega)
              subst hv
              have HGBB := Aside0.mk hgbb
              clear hgbb
              rw [← hm] at HGI7 ⊢
              have hml : m + 1 ≤ 81 := by omega
              have HXH := Aside0.mk hxh
              have HXG := Aside0.mk hxg
              have HMM := Aside0.mk hm
              have hgd := HGI7.out.below (below_drew (Below.refl wc.heap.size wc))
              have HGD := Aside0.mk hgd
              obtain ⟨z1, zf1⟩ := Qh_cell HGI7.out.row (m := m) (by omega) hxh
              have HBD := Aside0.mk (blk_below HBX7.out (below_drew (Below.refl wc.heap.size wc)))
              have b2 : wc.cell? ⟨bx, 2, none⟩ = some (.int .i64 xr) := (blk_cell HBX7.out 2).trans rfl
              have wm1 : IntKind.i64.wrap (((m + 1 : Nat) : Int) - 1) = (m : Int) := (i64w (by omega) (by omega)).trans (by omega)
              have wm2 : IntKind.i64.wrap ((m : Int) + 1 - 1) = (m : Int) := (i64w (by omega) (by omega)).trans (by omega)
              have fm1 : (m : Int) < (m : Int) + 1 := by omega
              have hlst := HGD.out.last m xh xg hm hxh hxg
              have HLST := Aside0.mk hlst
              have HLEN := Aside0.mk (HGL.out xg (List.mem_of_getElem? hxg))
              obtain ⟨xkey, xA, xn, xcap⟩ := xh
              dsimp only at z1
              clear hxh hxg hm hgd hlst
              have HBB0 := Aside0.mk HHL.out.2.2
              go_upto_region 17 with fail
              go_wp2_with fail
              go_region_law ((refine Kd.R_append_step (Kd.int .i64) (w0 := wc.drew) (W := wc.drew) B (by rfl) (.tmp 97) (.tmp 100) 22 3 (.int .i64 0) 8 (by rfl) Tryd.underlying22 infoI (by rfl) (by decide) (by omega) (.slice xA xn xcap) xg.f1 xr [.int .i64 xr] (fun _ => True) (fun _ => False) (by rfl) (by rfl) rfl (fun _ h => h.elim) (fun _ _ => trivial) HLST.out (Below.refl _ _) HGD.out.hB (by have := HLEN.out; omega) ?_; intro v2 w9 ho hbl hgr hat; obtain ⟨A9, c9, rfl, hl9, _⟩ := Kd.R_reads ho; have row9 := GI.row_grown HGD.out HMM.out HXH.out HXG.out hgr; obtain ⟨cz, fz⟩ := Qh_cell row9 (m := m) (by omega) HXH.out; have HEND := Aside0.mk (GI.put HGD.out HMM.out HXH.out HXG.out ho hbl hgr); have HBE := Aside0.mk (hbl.mono HBB0.out); have HINE := Aside0.mk (HIN.out.put HGI7.out HBB0.out HMM.out ho (key := xkey)); clear ho hbl hgr hat row9))
              all_goals (
                have HGF := Aside0.mk (HGS.out.trans (addR_put (by have := HGI7.out.len; have := HMM.out; omega) HXG.out))
                rw [← HGF.out] at HEND
                clear cz fz z1 zf1 b2 HGI7 HBX7 HGD HBD HLST HGF HGS
                have HLF := Aside0.mk (((HLW7.out.trans (below_drew (Below.refl w4.heap.size wc))).trans HBE.out).setCell (p := ⟨gB, o + m * 2 + 1, none⟩) HGBB.out (.slice A9 (xg.f1 ++ [xr]).length c9))
                rw [List.length_append, List.length_singleton] at HEND HLF HINE
                have HHF : Aside0 ((hd.set m (xkey, (A9, xg.f1.length + 1, c9))).length ≤ i + 1 ∧ (0 < i + 1 → 0 < (hd.set m (xkey, (A9, xg.f1.length + 1, c9))).length) ∧ w4.heap.size ≤ B) := ⟨by rw [List.length_set]; have := HMM.out; omega, by rw [List.length_set]; have := HMM.out; omega, HBB0.out⟩
                go_wp2
                refine ⟨⟨i + 1, B, _, by omega, by go_num, HEND, HHF, HINE, HLF⟩, ?_⟩
                simp [intOf]
                omega)
        · obtain rfl : i = n := by omega
          have hfin := (HB2.out.trans (HL4.out.mono hz2)).trans (HLW.out.mono (by have := HG4.out; omega))
          have HFIN := Aside0.mk hfin
          have HZF := Aside0.mk (show w.heap.size ≤ w4.heap.size by rw [HGB.out]; exact Nat.le_of_lt HG4.out)
          have HGF := HGI
          rw [← HSG.out] at HGF
          obtain ⟨vv, hvv⟩ : ∃ vv, vv = u11 := ⟨_, rfl⟩
          clear hfin
          go_wp2
          go_ret2
          exact ⟨_, _, _, _, rfl, HGF.out, HIN.out, HZF.out, by rw [HGB.out]; exact HFIN.out⟩
end Go.Proofs.YtkifmhfgplhabaaDoor.HQ

namespace Go.Proofs.YtkifmhfgplhabaaDoor.HQ
open Go.Proofs.YtkifmhfgplhabaaDoor.HU Go.RowKit Go.Proofs.YtkifmhfgplhabaaDoor.HK Go.Proofs.YtkifmhfgplhabaaDoor.HP Go.Proofs.YtkifmhfgplhabaaDoorW.PrintWords Go.Proofs.YtkifmhfgplhabaaDoorW.PrintLast Go.Proofs.YtkifmhfgplhabaaDoorW.PrintMore
set_option linter.unusedVariables false
set_option linter.unusedSimpArgs false
theorem rmay_in (s : ByteArray) (l : List Int) (i : Nat) (hi : i < l.length) (hl : l.length ≤ 64) (r : Bool) (hno : rd l (i : Int) ∈ l.take i → r = false)
    (hgo : rd l (i : Int) ∉ l.take i → Ev (fun k => Qcsbase.dispatcherref11_May.l0 k ((i + 1 : Nat) : Int) s l) r) : ∀ n j, n = i - j → j ≤ i → (∀ m : Nat, m < j → rd l (m : Int) ≠ rd l (i : Int)) → Ev (fun k => Qcsbase.dispatcherref11_May.l1 k (i : Int) (j : Int) s l) r := by
  intro n
  induction n with
  | zero =>
    intro j hn hj hall
    obtain rfl : j = i := by omega
    refine Ev.round ?_ (fun k => by simp only [Qcsbase.dispatcherref11_May.l1]; rfl)
    refine Ev.neg (by omega) ?_
    rw [wrap64_nat j (by omega)]
    exact hgo (fun h => by obtain ⟨m, hm, he⟩ := (mem_take_rd (by omega)).1 h; exact hall m hm he)
  | succ n ih =>
    intro j hn hj hall
    refine Ev.round ?_ (fun k => by simp only [Qcsbase.dispatcherref11_May.l1]; rfl)
    refine Ev.pos (by omega) ?_
    refine Ev.pos (by omega) ?_
    refine Ev.pos (by omega) ?_
    refine Ev.pos (by omega) ?_
    refine Ev.pos (by omega) ?_
    refine Ev.ite (fun h => ?_) (fun h => ?_)
    · exact Ev.const (by rw [hno ((mem_take_rd (by omega)).2 ⟨j, by omega, h⟩)])
    · rw [wrap64_nat j (by omega)]
      exact ih (j + 1) (by omega) (by omega) (fun m hm => by
        rcases Nat.lt_or_ge m j with h' | h'
        · exact hall m h'
        · obtain rfl : m = j := by omega
          exact h)
instance (l : List Int) : Decidable (Pre l) := by unfold Pre; infer_instance
theorem rmay_out (s : ByteArray) (l : List Int) (hl : l.length ≤ 64) : ∀ n i, n = l.length - i → i ≤ l.length → Pre (l.take i) → Ev (fun k => Qcsbase.dispatcherref11_May.l0 k (i : Int) s l) (decide (Pre l)) := by
  intro n
  induction n with
  | zero =>
    intro i hn hi hp
    refine Ev.round ?_ (fun k => by simp only [Qcsbase.dispatcherref11_May.l0]; rfl)
    refine Ev.neg (by omega) (Ev.const ?_)
    rw [List.take_of_length_le (by omega)] at hp
    rw [decide_eq_true hp]
  | succ n ih =>
    intro i hn hi hp
    have hlt : i < l.length := by omega
    have hno : ¬ (0 ≤ rd l (i : Int) ∧ rd l (i : Int) < 64 ∧ rd l (i : Int) ∉ l.take i) → decide (Pre l) = false := fun h => decide_eq_false (fun hp => h (by
      have := pre_take (i := i + 1) hp
      rw [take_snoc hlt, pre_snoc] at this
      exact this.2))
    refine Ev.round ?_ (fun k => by simp only [Qcsbase.dispatcherref11_May.l0]; rfl)
    refine Ev.pos (by omega) ?_
    refine Ev.pos (by omega) ?_
    refine Ev.ite (fun h => ?_) (fun h => ?_)
    · refine Ev.round ?_ (fun k => by simp only [Qcsbase.dispatcherref11_May.j2]; rfl)
      exact Ev.pos trivial (Ev.const (by rw [hno (by omega)]))
    · refine Ev.round ?_ (fun k => by simp only [Qcsbase.dispatcherref11_May.j2]; rfl)
      refine Ev.ite (fun h2 => ?_) (fun h2 => ?_)
      · rw [decide_eq_true_eq] at h2
        exact Ev.const (by rw [hno (by omega)])
      · rw [decide_eq_true_eq] at h2
        exact rmay_in s l i hlt hl _ (fun hm => hno (fun hh => hh.2.2 hm)) (fun hm => ih (i + 1) (by omega) (by omega) (by rw [take_snoc hlt, pre_snoc]; exact ⟨hp, by omega, by omega, hm⟩)) i 0 (by omega) (by omega) (fun m hm => by omega)
theorem rmay_ev (s : ByteArray) (l : List Int) : Ev (fun k => Qcsbase.dispatcherref11_May.f k s l) (mayB l) := by
  unfold Qcsbase.dispatcherref11_May.f
  refine Ev.ite (fun h => ?_) (fun h => ?_)
  · refine Ev.round ?_ (fun k => by simp only [Qcsbase.dispatcherref11_May.j0]; rfl)
    exact Ev.pos trivial (Ev.const (by unfold mayB; rw [decide_eq_false (fun hm => by have := hm.1; omega)]))
  · refine Ev.round ?_ (fun k => by simp only [Qcsbase.dispatcherref11_May.j0]; rfl)
    refine Ev.ite (fun h2 => ?_) (fun h2 => ?_)
    · rw [decide_eq_true_eq] at h2
      exact Ev.const (by unfold mayB; rw [decide_eq_false (fun hm => by have := pre_len (l := l) ⟨hm.2.1, hm.2.2⟩; omega)])
    · rw [decide_eq_true_eq] at h2
      have := rmay_out s l (by omega) l.length 0 (by omega) (by omega) ⟨by simp, by simp⟩
      refine Ev.eq (by simpa using this) ?_
      unfold mayB
      refine decide_eq_decide.2 ⟨fun hp => ⟨by omega, hp.1, hp.2⟩, fun hm => ⟨hm.2.1, hm.2.2⟩⟩
theorem rmay_c (s : ByteArray) (A : Option Addr) (c : Nat) (l : List Int) (w : World) (hr : Kd.C (Kd.int .i64) w A l.length l) (hc : l.length ≤ c) :
    Calls Tryd.prog 27 #[.agg #[.string s, .slice A l.length c]] w fun e w' => e = .returned (.bool (mayB l)) ∧ Below w.heap.size w w' := by
  obtain ⟨K, h⟩ := rmay_ev s l
  exact Qcsbase.dispatcherref11_May.calls K s A c l (mayB l) w hr hc (h K (Nat.le_refl _))
theorem rcopy_c (s : ByteArray) (A : Option Addr) (c : Nat) (l : List Int) (w : World) (hr : Kd.C (Kd.int .i64) w A l.length l) (hc : l.length ≤ c) (hl : l.length ≤ 3518437208882) :
    Calls Tryd.prog 10 #[.agg #[.string s, .slice A l.length c]] w fun e w' => ∃ v0_ : Value, e = .returned (.agg #[.string s, v0_]) ∧ Kd.R (Kd.int .i64) 3 w' w.heap.size (fun _ => True) v0_ l ∧ Below w.heap.size w w' :=
  Qcsbase.dispatcherref11_Copy.calls s A c l s l w hr hc (by unfold Qcsbase.dispatcherref11_Copy.f; simp; omega)
theorem bytes_append (a b : List UInt8) : (⟨a.toArray⟩ : ByteArray) ++ ⟨b.toArray⟩ = ⟨(a ++ b).toArray⟩ := by
  apply ByteArray.ext
  simp [ByteArray.data_append]
def bs (l : List UInt8) : ByteArray := ⟨l.toArray⟩
theorem bs_size (l : List UInt8) : (bs l).size = l.length := by simp [bs, ByteArray.size]
theorem bs_app (a b : List UInt8) : bs a ++ bs b = bs (a ++ b) := bytes_append a b
theorem dec_len {n : Nat} (h : n ≤ 9223372036854775808) : (Lib.decDigits n).length ≤ 20 := by
  have := Lib.itoa_length_le (-(n : Int)) (by omega) (by omega)
  rw [Lib.itoa] at this
  split at this
  · rw [show (-(n : Int)).natAbs = n by omega] at this
    simp only [List.length_cons] at this
    omega
  · have : n = 0 := by omega
    subst this
    rw [dec_small (by decide)]
    decide
theorem digits (n : Nat) (hn : n ≤ 9223372036854775807) : Ev (fun k => Qcsbase.dispatcherref11_Digits.f k (n : Int)) (bs (Lib.decDigits n)) := by
  induction n using Nat.strongRecOn with
  | ind n ih =>
    by_cases h : n < 10
    · refine Ev.round (f := fun _ => some (bs (Lib.decDigits n))) (Ev.now _) (fun k => ?_)
      rw [Qcsbase.dispatcherref11_Digits.f, if_pos (by omega), dec_small h]
      rw [show (48 + (n : Int) % 256) % 256 = ((48 + n : Nat) : Int) by omega]
      rcases (by omega : n = 0 ∨ n = 1 ∨ n = 2 ∨ n = 3 ∨ n = 4 ∨ n = 5 ∨ n = 6 ∨ n = 7 ∨ n = 8 ∨ n = 9) with rfl | rfl | rfl | rfl | rfl | rfl | rfl | rfl | rfl | rfl <;> rfl
    · have h1 := ih (n / 10) (by omega) (by omega)
      have h2 := ih (n % 10) (by omega) (by omega)
      refine Ev.round (f := fun k => (Qcsbase.dispatcherref11_Digits.f k ((n / 10 : Nat) : Int)).bind fun t131 => ((Qcsbase.dispatcherref11_Digits.f k ((n % 10 : Nat) : Int)).bind fun t132 => (if t131.size + t132.size ≤ 9223372036854775807 then (some (t131 ++ t132)) else (none)))) ?_ (fun k => ?_)
      · refine Ev.bind_of h1 (Ev.bind_of h2 ?_)
        refine Ev.pos ?_ ?_
        · rw [bs_size, bs_size]
          have := dec_len (n := n / 10) (by omega)
          have := dec_len (n := n % 10) (by omega)
          omega
        · exact Ev.const (by rw [bs_app, ← dec_big h])
      · rw [Qcsbase.dispatcherref11_Digits.f, if_neg (by omega), Int.tdiv_eq_ediv_of_nonneg (by omega), Int.tmod_eq_emod_of_nonneg (by omega), wrap64_of (by omega) (by omega)]
        rfl
theorem digits_c (m : Nat) (hm : m ≤ 9223372036854775807) (w : World) : Calls Tryd.prog 28 #[.int .i64 (m : Int)] w fun e w' => e = .returned (.string (bs (Lib.decDigits m))) ∧ Below w.heap.size w w' := by
  obtain ⟨k, hk⟩ := (digits m hm).rounds
  exact Qcsbase.dispatcherref11_Digits.calls k (m : Int) _ w hk
theorem digits_k {k : Int} (h0 : 0 ≤ k) (h : Rng k) (w : World) : Calls Tryd.prog 28 #[.int .i64 k] w fun e w' => e = .returned (.string (itoB k)) ∧ Below w.heap.size w w' := by
  obtain ⟨m, rfl⟩ : ∃ m : Nat, k = m := ⟨k.toNat, by omega⟩
  have e : itoB (m : Int) = bs (Lib.decDigits m) := by
    unfold itoB
    rw [Lib.itoa, if_neg (by omega), Int.toNat_natCast]
    rfl
  rw [e]
  exact digits_c m (by have := h.2; omega) w
set_option maxHeartbeats 4000000 in
theorem dup_bad (s : ByteArray) (A : Option Addr) (c : Nat) (l : List Int) (k : Int) (w : World) (hr : Kd.C (Kd.int .i64) w A l.length l) (hc : l.length ≤ c) (hbad : mayB l = false ∨ k < 0) :
    Calls Tryd.prog 11 #[.agg #[.string s, .slice A l.length c], .int .i64 k] w fun e w' => e = .returned (.tuple #[.agg #[.string ⟨#[]⟩, .slice none 0 0], .int .i64 2]) ∧ Below w.heap.size w w' := by
  have b0 := blk_alloc (blk_new w (.cells #[.string s, .slice A l.length c] 24)) (.cells #[.string ⟨#[]⟩, .slice none 0 0] 24)
  have b1 := blk_second w (.cells #[.string s, .slice A l.length c] 24) (.cells #[.string ⟨#[]⟩, .slice none 0 0] 24)
  have hba := below_alloc2 w (.cells #[.string s, .slice A l.length c] 24) (.cells #[.string ⟨#[]⟩, .slice none 0 0] 24)
  have HL1 := Aside0.mk hba
  have HMY := Aside0.mk (may_c s A c l _ (Kd.C_below hr hba) hc)
  clear hr hba
  go_enter Tryd.func11, Tryd.ntmps11
  go_wp2_with fail
  generalize (w.alloc (.cells #[.string s, .slice A l.length c] 24)).alloc (.cells #[.string ⟨#[]⟩, .slice none 0 0] 24) = w1 at b0 b1 HL1 HMY ⊢
  refine HMY.out.mono ?_
  rintro e w2 ⟨rfl, hb⟩
  have B1 := Aside0.mk (blk_below b1 hb)
  have HL2 := Aside0.mk (below_then HL1.out HL1.out.size hb)
  clear b0 b1 hb HMY HL1
  have g0 := (blk_cell B1.out 0).trans rfl
  have g1 := (blk_cell B1.out 1).trans rfl
  have f0 := blk_frozen B1.out 0
  have f1 := blk_frozen B1.out 1
  have hfin : ∀ W : World, W = (w2.setCell ⟨w.heap.size + 1, 0, none⟩ (.string ⟨#[]⟩)).setCell ⟨w.heap.size + 1, 1, none⟩ (.slice none 0 0) → W.heap[w.heap.size + 1]? = some (.cells #[.string ⟨#[]⟩, .slice none 0 0] 24 (0, 0)) ∧ Below w.heap.size w W := fun W hW => by
    subst hW
    have C1 := blk_put (cs' := #[.string ⟨#[]⟩, .slice none 0 0]) B1.out 0 (.string ⟨#[]⟩) rfl
    exact ⟨blk_put (cs' := #[.string ⟨#[]⟩, .slice none 0 0]) C1 1 (.slice none 0 0) rfl, (HL2.out.setCell (p := ⟨w.heap.size + 1, 0, none⟩) (Nat.le_succ _) _).setCell (p := ⟨w.heap.size + 1, 1, none⟩) (Nat.le_succ _) _⟩
  have HFIN := Aside0.mk hfin
  clear hfin
  cases hm : mayB l with
  | false =>
    clear hbad
    go_wp2
    refine bodyPost_ret (results_ct rfl _ _ (w.heap.size + 1) 24 #[.string ⟨#[]⟩, .slice none 0 0] (0, 0) _ rfl (HFIN.out _ rfl).1 Tryd.underlying24 rfl (by kernel_rfl)) rfl ?_
    exact ⟨rfl, (HFIN.out _ rfl).2⟩
  | true =>
    have hk : k < 0 := by
      rcases hbad with h | h
      · rw [hm] at h; cases h
      · exact h
    clear hbad
    go_wp2
    refine bodyPost_ret (results_ct rfl _ _ (w.heap.size + 1) 24 #[.string ⟨#[]⟩, .slice none 0 0] (0, 0) _ rfl (HFIN.out _ rfl).1 Tryd.underlying24 rfl (by kernel_rfl)) rfl ?_
    exact ⟨rfl, (HFIN.out _ rfl).2⟩
set_option maxHeartbeats 4000000 in
theorem rdup_bad (s : ByteArray) (A : Option Addr) (c : Nat) (l : List Int) (k : Int) (w : World) (hr : Kd.C (Kd.int .i64) w A l.length l) (hc : l.length ≤ c) (hbad : mayB l = false ∨ k < 0) :
    Calls Tryd.prog 12 #[.agg #[.string s, .slice A l.length c], .int .i64 k] w fun e w' => e = .returned (.tuple #[.agg #[.string ⟨#[]⟩, .slice none 0 0], .int .i64 2]) ∧ Below w.heap.size w w' := by
  have b0 := blk_alloc (blk_new w (.cells #[.string s, .slice A l.length c] 24)) (.cells #[.string ⟨#[]⟩, .slice none 0 0] 24)
  have b1 := blk_second w (.cells #[.string s, .slice A l.length c] 24) (.cells #[.string ⟨#[]⟩, .slice none 0 0] 24)
  have hba := below_alloc2 w (.cells #[.string s, .slice A l.length c] 24) (.cells #[.string ⟨#[]⟩, .slice none 0 0] 24)
  have HL1 := Aside0.mk hba
  have HMY := Aside0.mk (rmay_c s A c l _ (Kd.C_below hr hba) hc)
  clear hr hba
  go_enter Tryd.func12, Tryd.ntmps12
  go_wp2_with fail
  generalize (w.alloc (.cells #[.string s, .slice A l.length c] 24)).alloc (.cells #[.string ⟨#[]⟩, .slice none 0 0] 24) = w1 at b0 b1 HL1 HMY ⊢
  refine HMY.out.mono ?_
  rintro e w2 ⟨rfl, hb⟩
  have B1 := Aside0.mk (blk_below b1 hb)
  have HL2 := Aside0.mk (below_then HL1.out HL1.out.size hb)
  clear b0 b1 hb HMY HL1
  have g0 := (blk_cell B1.out 0).trans rfl
  have g1 := (blk_cell B1.out 1).trans rfl
  have f0 := blk_frozen B1.out 0
  have f1 := blk_frozen B1.out 1
  have hfin : ∀ W : World, W = (w2.setCell ⟨w.heap.size + 1, 0, none⟩ (.string ⟨#[]⟩)).setCell ⟨w.heap.size + 1, 1, none⟩ (.slice none 0 0) → W.heap[w.heap.size + 1]? = some (.cells #[.string ⟨#[]⟩, .slice none 0 0] 24 (0, 0)) ∧ Below w.heap.size w W := fun W hW => by
    subst hW
    have C1 := blk_put (cs' := #[.string ⟨#[]⟩, .slice none 0 0]) B1.out 0 (.string ⟨#[]⟩) rfl
    exact ⟨blk_put (cs' := #[.string ⟨#[]⟩, .slice none 0 0]) C1 1 (.slice none 0 0) rfl, (HL2.out.setCell (p := ⟨w.heap.size + 1, 0, none⟩) (Nat.le_succ _) _).setCell (p := ⟨w.heap.size + 1, 1, none⟩) (Nat.le_succ _) _⟩
  have HFIN := Aside0.mk hfin
  clear hfin
  cases hm : mayB l with
  | false =>
    clear hbad
    go_wp2
    refine bodyPost_ret (results_ct rfl _ _ (w.heap.size + 1) 24 #[.string ⟨#[]⟩, .slice none 0 0] (0, 0) _ rfl (HFIN.out _ rfl).1 Tryd.underlying24 rfl (by kernel_rfl)) rfl ?_
    exact ⟨rfl, (HFIN.out _ rfl).2⟩
  | true =>
    have hk : k < 0 := by
      rcases hbad with h | h
      · rw [hm] at h; cases h
      · exact h
    clear hbad
    go_wp2
    refine bodyPost_ret (results_ct rfl _ _ (w.heap.size + 1) 24 #[.string ⟨#[]⟩, .slice none 0 0] (0, 0) _ rfl (HFIN.out _ rfl).1 Tryd.underlying24 rfl (by kernel_rfl)) rfl ?_
    exact ⟨rfl, (HFIN.out _ rfl).2⟩
set_option maxHeartbeats 4000000 in
theorem rdup_c (s : ByteArray) (A : Option Addr) (c : Nat) (l : List Int) (k : Int) (w : World) (hr : Kd.C (Kd.int .i64) w A l.length l) (hc : l.length ≤ c) (hs : s.size ≤ 100000) (hm : mayB l = true) (hk0 : 0 ≤ k) (hk : Rng k) (hl : l.length ≤ 1000) :
    Calls Tryd.prog 12 #[.agg #[.string s, .slice A l.length c], .int .i64 k] w fun e w' => ∃ u : Value, e = .returned (.tuple #[.agg #[.string (childB s k), u], .int .i64 0]) ∧ Kd.R (Kd.int .i64) 3 w' w.heap.size (fun _ => True) u l ∧ Below w.heap.size w w' := by
  have b0 := blk_alloc (blk_new w (.cells #[.string s, .slice A l.length c] 24)) (.cells #[.string ⟨#[]⟩, .slice none 0 0] 24)
  have b1 := blk_second w (.cells #[.string s, .slice A l.length c] 24) (.cells #[.string ⟨#[]⟩, .slice none 0 0] 24)
  have hba := below_alloc2 w (.cells #[.string s, .slice A l.length c] 24) (.cells #[.string ⟨#[]⟩, .slice none 0 0] 24)
  have HL1 := Aside0.mk hba
  have HR1 := Aside0.mk (Kd.C_below hr hba)
  have dk : decide (k < 0) = false := decide_eq_false (by omega)
  have HMY := Aside0.mk (rmay_c s A c l _ HR1.out hc)
  rw [hm] at HMY
  have HK0 := Aside0.mk hk0
  clear hr hba hm hk0
  go_enter Tryd.func12, Tryd.ntmps12
  go_wp2_with fail
  generalize (w.alloc (.cells #[.string s, .slice A l.length c] 24)).alloc (.cells #[.string ⟨#[]⟩, .slice none 0 0] 24) = w1 at b0 b1 HL1 HR1 HMY ⊢
  refine HMY.out.mono ?_
  rintro e w2 ⟨rfl, hb⟩
  have B0 := Aside0.mk (blk_below b0 hb)
  have B1 := Aside0.mk (blk_below b1 hb)
  have HL2 := Aside0.mk (below_then HL1.out HL1.out.size hb)
  have HR2 := Aside0.mk (Kd.C_below HR1.out hb)
  clear b0 b1 hb HMY HL1 HR1
  have p0 := (blk_cell B0.out 0).trans rfl
  have p1 := (blk_cell B0.out 1).trans rfl
  go_wp2_with fail
  refine (rcopy_c s A c l w2 HR2.out hc (by omega)).mono ?_
  rintro e w3 ⟨u, rfl, hR, hb⟩
  obtain ⟨An, cn, rfl, hln, _⟩ := Kd.R_reads hR
  have hbb := hb.trans ((below_alloc (Below.refl w3.heap.size w3) (.cells #[.string s, .slice An l.length cn] 24)).mono hb.size)
  have B0' := Aside0.mk (blk_below B0.out hbb)
  have B1' := Aside0.mk (blk_below B1.out hbb)
  have BX := Aside0.mk (blk_new w3 (.cells #[.string s, .slice An l.length cn] 24))
  have HL3 := Aside0.mk (below_then HL2.out HL2.out.size hbb)
  have HN3 := Aside0.mk (Kd.R_alloc (Kd.R_lower hR HL2.out.size) (.cells #[.string s, .slice An l.length cn] 24))
  have hne : w.heap.size + 1 ≠ w3.heap.size := by
    have h1 := blk_lt B1.out
    have h2 := hb.size
    omega
  have hzz : w.heap.size ≤ w3.heap.size := Nat.le_trans HL2.out.size hb.size
  have HNE := Aside0.mk hne
  have HN0 : Aside0 (w.heap.size ≠ w3.heap.size) := ⟨by
    have h1 := blk_lt B1.out
    have h2 := hb.size
    omega⟩
  have HZZ := Aside0.mk hzz
  clear hR hb hbb p0 p1 hne hzz
  go_upto_region 4 with fail
  generalize w3.alloc (.cells #[.string s, .slice An l.length cn] 24) = w4 at B0' B1' BX HL3 HN3 ⊢
  generalize w3.heap.size = bx at BX HNE HZZ HN0 ⊢
  have HDG := Aside0.mk (digits_k HK0.out hk w4.drew)
  have hz2 := itoB_size hk
  have HCK := Aside0.mk (show childB s k = s ++ ⟨#[46]⟩ ++ itoB k from rfl)
  generalize itoB k = t2 at HDG hz2 HCK
  have hs1 : ¬ 9223372036854775807 < s.size + 1 := by omega
  have hs2 : ¬ 9223372036854775807 < s.size + 1 + t2.size := by omega
  have q0 : w4.cell? ⟨w.heap.size, 0, none⟩ = some (.string s) := (blk_cell B0'.out 0).trans rfl
  have x0 : w4.cell? ⟨bx, 0, none⟩ = some (.string s) := (blk_cell BX.out 0).trans rfl
  have xf : w4.frozen? ⟨bx, 0, none⟩ = false := blk_frozen BX.out 0
  go_region_held3 (fun W => W.cell? ⟨w.heap.size, 0, none⟩ = some (.string s))
    (first | exact keep_set r0 HN0.out _ | exact r0 | exact q0)
    (first | (go_at_call 28; with_reducible refine HDG.out.mono ?_; rintro e w5 ⟨rfl, hb⟩; have hb := below_of_drew hb; have HB5 := Aside0.mk hb; have r0 := pw_cell_below hb q0; have BX5 := Aside0.mk (blk_below BX.out hb); have y0 := (blk_cell BX5.out 0).trans rfl; have yf := blk_frozen BX5.out 0; clear hb))
  all_goals (
    clear q0 x0 xf
    have hX6 := blk_put (cs' := #[.string (s ++ ⟨#[46]⟩ ++ t2), .slice An l.length cn]) BX5.out 0 (.string (s ++ ⟨#[46]⟩ ++ t2)) rfl
    have hB6 := blk_far (blk_below B1'.out HB5.out) HNE.out (p := ⟨bx, 0, none⟩) (.string (s ++ ⟨#[46]⟩ ++ t2))
    have HN6 := Aside0.mk (Kd.R_set (Kd.R_below HN3.out HB5.out) BX5.out E24 0 (.string (s ++ ⟨#[46]⟩ ++ t2)))
    have HL6 := Aside0.mk ((below_then HL3.out HL3.out.size HB5.out).setCell (p := ⟨bx, 0, none⟩) HZZ.out (.string (s ++ ⟨#[46]⟩ ++ t2)))
    generalize w5.setCell ⟨bx, 0, none⟩ (.string (s ++ ⟨#[46]⟩ ++ t2)) = w6 at hX6 hB6 HN6 HL6 ⊢
    have X6 := Aside0.mk hX6
    have B6 := Aside0.mk hB6
    have z0 : w6.cell? ⟨bx, 0, none⟩ = some (.string (s ++ ⟨#[46]⟩ ++ t2)) := (blk_cell hX6 0).trans rfl
    have z1 : w6.cell? ⟨bx, 1, none⟩ = some (.slice An l.length cn) := (blk_cell hX6 1).trans rfl
    have g0 := (blk_cell hB6 0).trans rfl
    have g1 := (blk_cell hB6 1).trans rfl
    have f0 := blk_frozen hB6 0
    have f1 := blk_frozen hB6 1
    clear hX6 hB6 r0 y0 yf
    go_wp2
    have C1 := blk_put (cs' := #[.string (s ++ ⟨#[46]⟩ ++ t2), .slice none 0 0]) B6.out 0 (.string (s ++ ⟨#[46]⟩ ++ t2)) rfl
    have C2 := blk_put (cs' := #[.string (s ++ ⟨#[46]⟩ ++ t2), .slice An l.length cn]) C1 1 (.slice An l.length cn) rfl
    have R1 := Kd.R_set HN6.out B6.out E24 0 (.string (s ++ ⟨#[46]⟩ ++ t2))
    have R2 := Kd.R_set R1 C1 E24 1 (.slice An l.length cn)
    refine bodyPost_ret (results_ct rfl _ _ (w.heap.size + 1) 24 #[.string (s ++ ⟨#[46]⟩ ++ t2), .slice An l.length cn] (0, 0) _ rfl C2 Tryd.underlying24 rfl (by kernel_rfl)) rfl ?_
    exact ⟨_, by rw [HCK.out]; rfl, R2, (HL6.out.setCell (p := ⟨w.heap.size + 1, 0, none⟩) (Nat.le_succ _) _).setCell (p := ⟨w.heap.size + 1, 1, none⟩) (Nat.le_succ _) _⟩)
end Go.Proofs.YtkifmhfgplhabaaDoor.HQ

namespace Go.Proofs.YtkifmhfgplhabaaDoor.HQ
open Go.Proofs.YtkifmhfgplhabaaDoor.HU Go.RowKit Go.Proofs.YtkifmhfgplhabaaDoor.HK Go.Proofs.YtkifmhfgplhabaaDoor.HP Go.Proofs.YtkifmhfgplhabaaDoorW.PrintWords Go.Proofs.YtkifmhfgplhabaaDoorW.PrintLast Go.Proofs.YtkifmhfgplhabaaDoorW.PrintMore
set_option linter.unusedVariables false
set_option linter.unusedSimpArgs false
abbrev ask (asks : List Ask_) (m : Nat) : Ask_ := asks.getD m z40
def LexLt (asks : List Ask_) (m u : Nat) : Prop := (ask asks m).f0 < (ask asks u).f0 ∨ (ask asks m).f0 = (ask asks u).f0 ∧ ((ask asks m).f1 < (ask asks u).f1 ∨ (ask asks m).f1 = (ask asks u).f1 ∧ m < u)
/-- the sorted askers: who is where, all of them -/
theorem sorted_all (asks : List Ask_) (ranks : List Int) (hl : asks.length = ranks.length) : ∃ N : Nat → Nat, (∀ t, t < (pick asks ranks asks.length).length → asd (HS.sortA (pick asks ranks asks.length)) t = ⟨ask asks (N t), ranks.getD (N t) 0⟩ ∧ N t < asks.length ∧ 0 ≤ (ask asks (N t)).f0) ∧
    (∀ t u, t < u → u < (pick asks ranks asks.length).length → LexLt asks (N t) (N u)) ∧ ∀ m, m < asks.length → 0 ≤ (ask asks m).f0 → ∃ t, t < (pick asks ranks asks.length).length ∧ N t = m := by
  have hp := pick_nums asks ranks hl asks.length (Nat.le_refl _)
  have hup := numsA_up asks asks.length
  have hmem := fun m => @numsA_mem asks asks.length m
  have hall : ∀ m, m < asks.length → 0 ≤ (ask asks m).f0 → m ∈ numsA asks asks.length := fun m h1 h2 => List.mem_filter.2 ⟨List.mem_range.2 h1, decide_eq_true h2⟩
  generalize numsA asks asks.length = ns at hp hup hmem hall
  obtain ⟨P, hP⟩ : ∃ P, P = pick asks ranks asks.length := ⟨_, rfl⟩
  rw [← hP] at hp ⊢
  have hPl : P.length = ns.length := by rw [hp, List.length_map]
  rw [hPl]
  obtain ⟨es, he⟩ : ∃ es, es = HS.isort (HS.els P) := ⟨_, rfl⟩
  have hel : es.length = ns.length := by rw [he, (HS.isort_perm _).length_eq, HS.els_len, hPl]
  have hat : ∀ t (ht : t < es.length), es[t].i < ns.length ∧ ∀ h : es[t].i < P.length, es[t] = HS.toEl (P[es[t].i]) es[t].i := fun t ht => by
    have h1 : es[t] ∈ HS.els P := (HS.isort_perm (HS.els P)).mem_iff.1 (he ▸ List.getElem_mem ht)
    obtain ⟨j, hj, h2⟩ := List.getElem_of_mem h1
    have hj' : j < P.length := by rw [HS.els_len] at hj; exact hj
    rw [HS.els_get hj'] at h2
    rw [← h2]
    exact ⟨by show j < _; omega, fun h => rfl⟩
  have hnd : es.Pairwise (fun a b => a.i ≠ b.i) := by
    have h1 : (HS.els P).Pairwise (fun a b => a.i ≠ b.i) := by
      rw [List.pairwise_iff_getElem]
      intro i j hi hj hij
      rw [HS.els_len] at hi hj
      rw [HS.els_get hi, HS.els_get hj]
      show i ≠ j
      omega
    rw [he]
    exact ((HS.isort_perm (HS.els P)).pairwise_iff (fun {a b} h => Ne.symm h)).2 h1
  have hso : es.Pairwise (fun a b => HS.ltI b a = false) := he ▸ HS.isort_sorted _
  have hPg : ∀ q (hq : q < P.length) (hn : q < ns.length), P[q] = ⟨ask asks ns[q], ranks.getD ns[q] 0⟩ := fun q hq hn => by
    have : ∀ (Q : List Asd) (hQ : q < Q.length), P = Q → P[q]'hq = Q[q]'hQ := fun Q hQ e => by subst e; rfl
    rw [this _ (by rw [List.length_map]; exact hn) hp, List.getElem_map]
  have hval : ∀ v (hv : v < es.length) (h : es[v].i < ns.length), (ask asks ns[es[v].i]).f0 = es[v].c ∧ (ask asks ns[es[v].i]).f1 = es[v].k := fun v hv h => by
    have hpl : es[v].i < P.length := by omega
    have h7 := (hat v hv).2 hpl
    rw [hPg _ hpl h] at h7
    have hc := congrArg HS.El.c h7
    have hk := congrArg HS.El.k h7
    exact ⟨hc.symm, hk.symm⟩
  obtain ⟨N, hN⟩ : ∃ N : Nat → Nat, ∀ t, N t = ns.getD ((es.getD t ⟨0, 0, 0, 0⟩).i) 0 := ⟨_, fun _ => rfl⟩
  have hNg : ∀ t (ht : t < es.length) (h : es[t].i < ns.length), N t = ns[es[t].i] := fun t ht h => by
    rw [hN t, show es.getD t ⟨0, 0, 0, 0⟩ = es[t] by simp [List.getD, ht]]
    simp [List.getD, h]
  refine ⟨N, fun t ht => ?_, fun t u htu hu => ?_, fun m hm h0 => ?_⟩
  · have ht' : t < es.length := by omega
    obtain ⟨h1, h2⟩ := hat t ht'
    rw [hNg t ht' h1]
    refine ⟨?_, hmem _ (List.getElem_mem h1)⟩
    have h5 : asd (HS.sortA P) t = HS.ofEl es[t] := by
      unfold HS.sortA asd
      rw [← he]
      simp [List.getD, ht']
    have hpl : es[t].i < P.length := by omega
    have h6 := hPg _ hpl h1
    rw [h5, ← h6]
    generalize hx : P[es[t].i]'hpl = x
    have h7 := h2 hpl
    rw [hx] at h7
    rw [h7]
    rfl
  · have hu' : u < es.length := by omega
    have ht' : t < es.length := by omega
    obtain ⟨h1, h2⟩ := hat t ht'
    obtain ⟨h1', h2'⟩ := hat u hu'
    rw [hNg t ht' h1, hNg u hu' h1']
    obtain ⟨c1, c2⟩ := hval t ht' h1
    obtain ⟨d1, d2⟩ := hval u hu' h1'
    have h8 := List.pairwise_iff_getElem.1 hso t u ht' hu' htu
    have h9 := List.pairwise_iff_getElem.1 hnd t u ht' hu' htu
    rw [HS.ltI_false] at h8
    unfold HS.LtE at h8
    unfold LexLt
    rw [c1, d1, c2, d2]
    have h10 : es[t].i < es[u].i → ns[es[t].i] < ns[es[u].i] := fun h => List.pairwise_iff_getElem.1 hup _ _ h1 h1' h
    by_cases hc : es[t].c < es[u].c
    · exact .inl hc
    · refine .inr ⟨by omega, ?_⟩
      by_cases hk : es[t].k < es[u].k
      · exact .inl hk
      · exact .inr ⟨by omega, h10 (by omega)⟩
  · obtain ⟨j, hj, hjm⟩ := List.getElem_of_mem (hall m hm h0)
    have hjP : j < P.length := by omega
    have h1 : HS.toEl P[j] j ∈ es := by
      rw [he]
      refine (HS.isort_perm (HS.els P)).mem_iff.2 ?_
      rw [← HS.els_get hjP]
      exact List.getElem_mem _
    obtain ⟨t, ht, h2⟩ := List.getElem_of_mem h1
    refine ⟨t, by omega, ?_⟩
    have h3 : es[t].i = j := by rw [h2]; rfl
    have h4 : es[t].i < ns.length := by omega
    rw [hNg t ht h4]
    simp only [h3]
    exact hjm
/-- who is in a group behind t rounds -/
def dn (N : Nat → Nat) (t j : Nat) : Bool := (List.range t).any (fun u => N u == j)
theorem dn_iff {N : Nat → Nat} {t j : Nat} : dn N t j = true ↔ ∃ u, u < t ∧ N u = j := by
  unfold dn
  rw [List.any_eq_true]
  constructor
  · rintro ⟨u, hu, h⟩
    exact ⟨u, List.mem_range.1 hu, by simpa using h⟩
  · rintro ⟨u, hu, h⟩
    exact ⟨u, List.mem_range.2 hu, by simpa using h⟩
def doneL (N : Nat → Nat) (t n : Nat) : List Bool := (List.range n).map (dn N t)
theorem doneL_len (N : Nat → Nat) (t n : Nat) : (doneL N t n).length = n := by simp [doneL]
theorem doneL_get {N : Nat → Nat} {t n j : Nat} (h : j < n) : (doneL N t n)[j]? = some (dn N t j) := by simp [doneL, h]
theorem doneL_zero (N : Nat → Nat) (n : Nat) : doneL N 0 n = List.replicate n false := by
  apply List.ext_getElem (by simp [doneL])
  intro i h1 h2
  simp [doneL, dn]
theorem doneL_succ {N : Nat → Nat} {t n : Nat} (h : N t < n) : doneL N (t + 1) n = (doneL N t n).set (N t) true := by
  apply List.ext_getElem (by simp [doneL])
  intro i h1 h2
  rw [List.getElem_set]
  simp only [doneL, List.getElem_map, List.getElem_range]
  split
  · rename_i he
    rw [dn_iff]
    exact ⟨t, by omega, he⟩
  · rename_i he
    rw [Bool.eq_iff_iff, dn_iff, dn_iff]
    constructor
    · rintro ⟨u, hu, h3⟩
      refine ⟨u, ?_, h3⟩
      rcases Nat.lt_or_ge u t with h4 | h4
      · exact h4
      · exact absurd (by rw [show t = u by omega]; exact h3) he
    · rintro ⟨u, hu, h3⟩
      exact ⟨u, by omega, h3⟩
/-- who is next, among the first i -/
def selF (asks : List Ask_) (d : Nat → Bool) : Nat → Int
  | 0 => -1
  | i + 1 => if d i = true ∨ (ask asks i).f0 < 0 then selF asks d i else
      if selF asks d i < 0 ∨ (ask asks i).f0 < (ask asks (selF asks d i).toNat).f0 ∨ ((ask asks i).f0 = (ask asks (selF asks d i).toNat).f0 ∧ (ask asks i).f1 < (ask asks (selF asks d i).toNat).f1) then (i : Int) else selF asks d i
def Cand (asks : List Ask_) (d : Nat → Bool) (j : Nat) : Prop := d j = false ∧ 0 ≤ (ask asks j).f0
theorem selF_inv (asks : List Ask_) (d : Nat → Bool) : ∀ i, (selF asks d i = -1 ∧ ∀ j, j < i → ¬ Cand asks d j) ∨ ∃ b : Nat, b < i ∧ selF asks d i = (b : Int) ∧ Cand asks d b ∧ ∀ j, j < i → Cand asks d j → j = b ∨ LexLt asks b j
  | 0 => .inl ⟨rfl, fun j h => absurd h (Nat.not_lt_zero _)⟩
  | i + 1 => by
    have ih := selF_inv asks d i
    by_cases hs : d i = true ∨ (ask asks i).f0 < 0
    · have hn : ¬ Cand asks d i := fun h => by
        rcases hs with h1 | h1
        · rw [h.1] at h1; cases h1
        · have := h.2; omega
      have e : selF asks d (i + 1) = selF asks d i := by rw [selF, if_pos hs]
      rw [e]
      rcases ih with ⟨h1, h2⟩ | ⟨b, hb, h1, h2, h3⟩
      · refine .inl ⟨h1, fun j hj => ?_⟩
        rcases Nat.lt_or_ge j i with h | h
        · exact h2 j h
        · rw [show j = i by omega]; exact hn
      · refine .inr ⟨b, by omega, h1, h2, fun j hj hc => ?_⟩
        rcases Nat.lt_or_ge j i with h | h
        · exact h3 j h hc
        · rw [show j = i by omega] at hc; exact absurd hc hn
    · have hc : Cand asks d i := by
        refine ⟨?_, by omega⟩
        cases h : d i
        · rfl
        · exact absurd (.inl h) hs
      rcases ih with ⟨h1, h2⟩ | ⟨b, hb, h1, h2, h3⟩
      · have e : selF asks d (i + 1) = (i : Int) := by rw [selF, if_neg hs, h1, if_pos (.inl (by omega))]
        rw [e]
        refine .inr ⟨i, by omega, rfl, hc, fun j hj hcj => ?_⟩
        rcases Nat.lt_or_ge j i with h | h
        · exact absurd hcj (h2 j h)
        · exact .inl (by omega)
      · by_cases hl : (ask asks i).f0 < (ask asks b).f0 ∨ ((ask asks i).f0 = (ask asks b).f0 ∧ (ask asks i).f1 < (ask asks b).f1)
        · have e : selF asks d (i + 1) = (i : Int) := by rw [selF, if_neg hs, h1, if_pos (.inr (by rw [Int.toNat_natCast]; exact hl))]
          rw [e]
          refine .inr ⟨i, by omega, rfl, hc, fun j hj hcj => ?_⟩
          rcases Nat.lt_or_ge j i with h | h
          · rcases h3 j h hcj with rfl | h4
            · refine .inr ?_
              unfold LexLt
              rcases hl with h5 | h5
              · exact .inl h5
              · exact .inr ⟨h5.1, .inl h5.2⟩
            · refine .inr ?_
              unfold LexLt at h4 ⊢
              omega
          · exact .inl (by omega)
        · have e : selF asks d (i + 1) = (b : Int) := by rw [selF, if_neg hs, h1, if_neg (by rw [Int.toNat_natCast]; omega)]
          rw [e]
          refine .inr ⟨b, by omega, rfl, h2, fun j hj hcj => ?_⟩
          rcases Nat.lt_or_ge j i with h | h
          · exact h3 j h hcj
          · rw [show j = i by omega]
            refine .inr ?_
            unfold LexLt
            omega
theorem lex_irrefl {asks : List Ask_} {m u : Nat} (h1 : LexLt asks m u) (h2 : LexLt asks u m) : False := by
  unfold LexLt at h1 h2
  omega
/-- behind t rounds the next one is the t-th of the sorted ones -/
theorem selF_is {asks : List Ask_} {cnt : Nat} {N : Nat → Nat} (h1 : ∀ t, t < cnt → N t < asks.length ∧ 0 ≤ (ask asks (N t)).f0) (h2 : ∀ t u, t < u → u < cnt → LexLt asks (N t) (N u)) (h3 : ∀ m, m < asks.length → 0 ≤ (ask asks m).f0 → ∃ t, t < cnt ∧ N t = m) {t : Nat} (ht : t ≤ cnt) :
    selF asks (dn N t) asks.length = if t < cnt then (N t : Int) else -1 := by
  have hinj : ∀ a b, a < cnt → b < cnt → N a = N b → a = b := fun a b ha hb he => by
    rcases Nat.lt_trichotomy a b with h | h | h
    · have := h2 a b h hb; rw [he] at this; exact absurd this (fun h => lex_irrefl h h)
    · exact h
    · have := h2 b a h ha; rw [he] at this; exact absurd this (fun h => lex_irrefl h h)
  rcases selF_inv asks (dn N t) asks.length with ⟨e, hn⟩ | ⟨b, hb, e, hc, hl⟩
  · rw [e]
    by_cases htc : t < cnt
    · exfalso
      refine hn (N t) (h1 t htc).1 ⟨?_, (h1 t htc).2⟩
      cases hd : dn N t (N t)
      · rfl
      · obtain ⟨u, hu, he⟩ := dn_iff.1 hd
        have := hinj u t (by omega) htc he
        omega
    · rw [if_neg htc]
  · obtain ⟨q, hq, hqb⟩ := h3 b hb hc.2
    have hqt : t ≤ q := by
      rcases Nat.lt_or_ge q t with h | h
      · have := dn_iff.2 ⟨q, h, hqb⟩
        rw [hc.1] at this
        cases this
      · exact h
    have htc : t < cnt := by omega
    rw [if_pos htc, e]
    rcases Nat.eq_or_lt_of_le hqt with h | h
    · rw [h, hqb]
    · have hct : Cand asks (dn N t) (N t) := by
        refine ⟨?_, (h1 t htc).2⟩
        cases hd : dn N t (N t)
        · rfl
        · obtain ⟨u, hu, he⟩ := dn_iff.1 hd
          have := hinj u t (by omega) htc he
          omega
      have h5 := h2 t q h hq
      rw [hqb] at h5
      rcases hl (N t) (h1 t htc).1 hct with h6 | h6
      · rw [h6] at h5; exact absurd h5 (fun h => lex_irrefl h h)
      · exact absurd h6 (fun h => lex_irrefl h5 h)
end Go.Proofs.YtkifmhfgplhabaaDoor.HQ

namespace Go.Proofs.YtkifmhfgplhabaaDoor.HQ
open Go.Proofs.YtkifmhfgplhabaaDoor.HU Go.RowKit Go.Proofs.YtkifmhfgplhabaaDoor.HK Go.Proofs.YtkifmhfgplhabaaDoor.HP Go.Proofs.YtkifmhfgplhabaaDoorW.PrintWords Go.Proofs.YtkifmhfgplhabaaDoorW.PrintLast Go.Proofs.YtkifmhfgplhabaaDoorW.PrintMore
set_option linter.unusedVariables false
set_option linter.unusedSimpArgs false
theorem infoBo : (Tryd.prog.info? 4).map (fun i => (i.zero, i.size, i.bytes)) = some (some (.bool false), 1, 1) := by kernel_rfl
theorem EB_G : ∀ q, q ∈ 4 :: (Kd.bool).E → q ≠ 24 := by decide
theorem EB_I : ∀ q, q ∈ 4 :: (Kd.bool).E → q ≠ 3 := by decide
theorem EH_B : ∀ q, q ∈ 24 :: kH.E → q ≠ 4 := by decide
theorem EI_B : ∀ q, q ∈ 3 :: (Kd.int .i64).E → q ≠ 4 := by decide
/-- a mark is set: the groups under way stay -/
theorem GI.boolset {W : World} {base B b j : Nat} {v u : Value} {hs : List Hd} {gs : List Grp} {cells : Array Value} (h : GI W base B v hs gs) (hb : W.heap[b]? = some (.cells cells 4 (0, 0))) : GI (W.setCell ⟨b, j, none⟩ u) base B v hs gs := by
  have hblk : ∀ ad : Addr, (∃ cells f, W.heap[ad.block]? = some (.cells cells 3 f)) → (W.setCell ⟨b, j, none⟩ u).heap[ad.block]? = W.heap[ad.block]? := fun ad ⟨c2, f, h4⟩ => by
    refine Below.heap_setCell W _ _ _ (fun he => ?_)
    rw [he] at h4
    rw [hb] at h4
    injection h4 with h4
    injection h4 with _ h4 _
    exact absurd h4 (by decide)
  exact ⟨Kd.Q_set h.row hb EH_B _ _, h.len, h.key, fun i x g h1 h2 h3 => ⟨(h.fin i x g h1 h2 h3).1.same (fun ad ha => hblk ad ((h.fin i x g h1 h2 h3).1.ty ad ha)), (h.fin i x g h1 h2 h3).2⟩, fun i x g h1 h2 h3 => Kd.R_set (h.last i x g h1 h2 h3) hb EI_B _ _, Nat.le_trans h.hB (by simp)⟩
theorem le_alloc_grown {n : Nat} {W W' : World} {o : Obj} {r : Option Nat} (h : n ≤ W.heap.size) (hg : (W.alloc o).grownBy W' r) : n ≤ W'.heap.size := by
  have := hg.size
  simp at this
  omega
theorem rd_ask (asks : List Ask_) (j : Nat) : rd_T40 asks (j : Int) = ask asks j := by simp [rd_T40]
def colA (L : List Asd) : Nat → Int
  | 0 => -1
  | t + 1 => (asd L t).f0.f0
theorem colA_new {L : List Asd} {t : Nat} (h0 : 0 ≤ (asd L t).f0.f0) : ((asd L t).f0.f0 != colA L t) = decide (newG L t) := by
  cases t with
  | zero =>
    rw [decide_eq_true (.inl rfl)]
    show ((asd L 0).f0.f0 != -1) = true
    exact bne_iff_ne.2 (fun e => by rw [e] at h0; omega)
  | succ t =>
    by_cases h : newG L (t + 1)
    · rw [decide_eq_true h]
      rcases h with h | h
      · cases h
      · show ((asd L (t + 1)).f0.f0 != (asd L t).f0.f0) = true
        simp
        exact fun e => h e.symm
    · rw [decide_eq_false h]
      show ((asd L (t + 1)).f0.f0 != (asd L t).f0.f0) = false
      simp
      exact Decidable.byContradiction (fun e => h (.inr (fun e2 => e e2.symm)))
set_option maxRecDepth 100000 in
set_option maxHeartbeats 4000000 in
theorem rsplit_bad (s : ByteArray) (A : Option Addr) (c : Nat) (ranks : List Int) (k : Int) (A2 : Option Addr) (n2 c2 : Nat) (w : World) (hr : Kd.C (Kd.int .i64) w A ranks.length ranks) (hc : ranks.length ≤ c) (hbad : mayB ranks = false ∨ k < 0 ∨ n2 ≠ ranks.length) :
    Calls Tryd.prog 14 #[.agg #[.string s, .slice A ranks.length c], .int .i64 k, .slice A2 n2 c2] w fun e w' => e = .returned (.tuple #[.slice none 0 0, .int .i64 2]) ∧ Below w.heap.size w w' := by
  have b0 := blk_new w (.cells #[.string s, .slice A ranks.length c] 24)
  have hba := below_alloc (Below.refl w.heap.size w) (.cells #[.string s, .slice A ranks.length c] 24)
  have HB0 := Aside0.mk hba
  have HR0 := Aside0.mk (Kd.C_below hr hba)
  have HMY := Aside0.mk (rmay_c s A c ranks (w.alloc (.cells #[.string s, .slice A ranks.length c] 24)) HR0.out hc)
  have p0 : (w.alloc (.cells #[.string s, .slice A ranks.length c] 24)).cell? ⟨w.heap.size, 0, none⟩ = some (.string s) := (blk_cell b0 0).trans rfl
  have p1 : (w.alloc (.cells #[.string s, .slice A ranks.length c] 24)).cell? ⟨w.heap.size, 1, none⟩ = some (.slice A ranks.length c) := (blk_cell b0 1).trans rfl
  clear hr hba b0
  go_enter Tryd.func14, Tryd.ntmps14
  go_wp2_with fail
  generalize (w.alloc (.cells #[.string s, .slice A ranks.length c] 24)) = w1 at p0 p1 HB0 HR0 HMY ⊢
  refine HMY.out.mono ?_
  rintro e w2 ⟨rfl, hb⟩
  have HB2 := Aside0.mk (below_then HB0.out HB0.out.size hb)
  have q0 := pw_cell_below hb p0
  have q1 := pw_cell_below hb p1
  clear hb HMY HB0 HR0 p0 p1
  cases hm : mayB ranks with
  | false =>
    clear hbad
    go_wp2
    go_ret2
    exact ⟨rfl, HB2.out⟩
  | true =>
    by_cases hk : k < 0
    · clear hbad
      go_wp2
      go_ret2
      exact ⟨rfl, HB2.out⟩
    · have hne : ((n2 : Int) != (ranks.length : Int)) = true := by
        have : n2 ≠ ranks.length := by
          rcases hbad with h | h | h
          · rw [hm] at h; cases h
          · exact absurd h hk
          · exact h
        rw [bne, beq_eq_false_iff_ne.2 (fun h => this (by omega))]
        rfl
      clear hbad
      go_wp2
      go_ret2
      exact ⟨rfl, HB2.out⟩
set_option maxRecDepth 100000 in
set_option maxHeartbeats 16000000 in
theorem rsplit_n (s : ByteArray) (A : Option Addr) (c : Nat) (ranks : List Int) (k : Int) (A2 : Option Addr) (c2 : Nat) (asks : List Ask_) (w : World) (hr : Kd.C (Kd.int .i64) w A ranks.length ranks) (hc : ranks.length ≤ c) (hr2 : Kd.C k40 w A2 asks.length asks) (hc2 : asks.length ≤ c2)
    (hs : s.size ≤ 10000) (hm : mayB ranks = true) (hk0 : 0 ≤ k) (hk : Rng k) (hcr : ∀ x ∈ asks, Rng x.f0) (hl : asks.length = ranks.length) (hl80 : ranks.length ≤ 80) :
    Calls Tryd.prog 14 #[.agg #[.string s, .slice A ranks.length c], .int .i64 k, .slice A2 asks.length c2] w fun e w' => ∃ (v : Value) (B0 B : Nat) (hs : List Hd), e = .returned (.tuple #[v, .int .i64 0]) ∧ GI w' B0 B v hs (splitG s k ranks asks) ∧ GInc B0 hs ∧ w.heap.size ≤ B0 ∧ Below w.heap.size w w' := by
  have b0 := blk_new w (.cells #[.string s, .slice A ranks.length c] 24)
  have hba := below_alloc (Below.refl w.heap.size w) (.cells #[.string s, .slice A ranks.length c] 24)
  have HB0 := Aside0.mk hba
  have HR0 := Aside0.mk (Kd.C_below hr hba)
  have HA0 := Aside0.mk (Kd.C_below hr2 hba)
  have HMY := Aside0.mk (rmay_c s A c ranks (w.alloc (.cells #[.string s, .slice A ranks.length c] 24)) HR0.out hc)
  rw [hm] at HMY
  have p0 : (w.alloc (.cells #[.string s, .slice A ranks.length c] 24)).cell? ⟨w.heap.size, 0, none⟩ = some (.string s) := (blk_cell b0 0).trans rfl
  have p1 : (w.alloc (.cells #[.string s, .slice A ranks.length c] 24)).cell? ⟨w.heap.size, 1, none⟩ = some (.slice A ranks.length c) := (blk_cell b0 1).trans rfl
  have dk : decide (k < 0) = false := decide_eq_false (by omega)
  have dln : ((asks.length : Int) != (ranks.length : Int)) = false := by rw [hl]; simp
  have HLN := Aside0.mk hl
  have HCR := Aside0.mk hcr
  have hn100 : asks.length ≤ 80 := by omega
  have hn0 : 0 < asks.length := by
    have h : MayG ranks := of_decide_eq_true hm
    have := h.1
    omega
  obtain ⟨N, hN1, hN2, hN3⟩ := sorted_all asks ranks hl
  have hpl := pick_len asks ranks asks.length
  have hsl := HS.sortA_len (pick asks ranks asks.length)
  have HSG : Aside0 (splitG s k ranks asks = grps s k (HS.sortA (pick asks ranks asks.length)) (pick asks ranks asks.length).length) := ⟨rfl⟩
  generalize HS.sortA (pick asks ranks asks.length) = L at hN1 HSG hsl
  generalize (pick asks ranks asks.length).length = cnt at hN1 hN2 hN3 HSG hpl hsl
  have HN1 := Aside0.mk hN1
  have HSEL := Aside0.mk (fun (t : Nat) (ht : t ≤ cnt) => selF_is (fun u hu => (hN1 u hu).2) hN2 hN3 ht)
  clear hr hr2 hba b0 hm hl hN1 hN2 hN3 hsl hcr
  go_enter Tryd.func14, Tryd.ntmps14
  go_wp2_with fail
  generalize (w.alloc (.cells #[.string s, .slice A ranks.length c] 24)) = w1 at p0 p1 HB0 HR0 HA0 HMY ⊢
  refine HMY.out.mono ?_
  rintro e w2 ⟨rfl, hb⟩
  have HB2 := Aside0.mk (below_then HB0.out HB0.out.size hb)
  have HR2 := Aside0.mk (Kd.C_below HR0.out hb)
  have HA2 := Aside0.mk (Kd.C_below HA0.out hb)
  have q0 := pw_cell_below hb p0
  have q1 := pw_cell_below hb p1
  clear hb HMY HB0 HR0 HA0 p0 p1
  have HZ2 := Aside0.mk HB2.out.size
  generalize hgb : w.heap.size = gb at q0 q1 HB2 HZ2 ⊢
  have HGB := Aside0.mk hgb
  clear hgb
  go_wp2_with (first | ((with_reducible refine gate_dst (N := 31) rfl ?_); refine Kd.R_make Kd.bool (w0 := w2) w2.heap.size 4 rfl (N := 31) rfl 53 _ _ rfl (asks.length : Int) rfl rfl Tryd.underlying53 (.bool false) 1 infoBo rfl (by decide) (by decide) false (ok := fun _ => True) (okp := fun _ => False) rfl (fun _ hk => hk.elim) trivial (by omega) (by omega) (Below.refl _ _) (Nat.le_refl _) ?_; intro v3 w3 ho hb hg hnew; rw [Int.toNat_natCast, ← doneL_zero N asks.length] at ho; have HO3 := Aside0.mk ho; have HB3 := Aside0.mk hb; clear ho hb hg hnew))
  obtain ⟨bd, cd, hvd, hbd, _, _⟩ := Kd.R_form HO3.out (by rw [doneL_len]; exact hn0)
  rw [doneL_len] at hvd
  subst hvd
  have HBD := Aside0.mk hbd
  clear hbd
  have HR3 := Aside0.mk (Kd.C_below HR2.out HB3.out)
  have HA3 := Aside0.mk (Kd.C_below HA2.out HB3.out)
  have HL3 := Aside0.mk (HB2.out.trans (HB3.out.mono HZ2.out))
  have U0 := Aside0.mk q0
  have U1 := Aside0.mk q1
  clear q0 q1
  have HZ3 := Aside0.mk HB3.out.size
  have HQ3 := Aside0.mk (Kd.Q_of_R HO3.out)
  clear HO3
  go_loopg [8, 10] cnt (fun kx v8 v10 wr => ∃ (t B : Nat) (hs : List Hd), t ≤ cnt ∧ cnt - t ≤ kx ∧ v10 = .int .i64 (colA L t) ∧ Aside0 (GI wr w3.heap.size B v8 hs (grps s k L t)) ∧ Aside0 (hs.length ≤ t ∧ (0 < t → 0 < hs.length) ∧ w3.heap.size ≤ B) ∧ Aside0 (GInc w3.heap.size hs) ∧ Aside0 (Kd.Q Kd.bool 4 wr w2.heap.size (fun _ => True) (.slice (some ⟨bd, 0, none⟩) asks.length cd) (doneL N t asks.length)) ∧ Aside0 (Below w2.heap.size w2 wr))
  case atStart => exact ⟨0, w3.heap.size, [], by omega, by omega, rfl, ⟨GI.nil _ _⟩, ⟨by simp⟩, ⟨GInc.nil _⟩, HQ3, HB3⟩
  case round =>
    obtain ⟨t, B, hs, ht, hkx, rfl, HGI, HHL, HIN, HDN, HLW⟩ := hrel
    obtain ⟨w5, rfl⟩ : ∃ w5 : World, w5 = wr := ⟨_, rfl⟩
    clear HQ3
    go_wp2_with fail
    go_loopw [11, 12] (fun v11 v12 wr => ∃ i : Nat, i ≤ asks.length ∧ v12 = .int .i64 i ∧ v11 = .int .i64 (selF asks (dn N t) i) ∧ Aside0 (Below w5.heap.size w5 wr)) (fun _ v12 _ => asks.length - (intOf v12).toNat)
    case atStart => exact ⟨0, by omega, rfl, rfl, ⟨Below.refl _ _⟩⟩
    case round =>
      obtain ⟨i, hi, rfl, rfl, HLI⟩ := hrel
      obtain ⟨w6, rfl⟩ : ∃ w6 : World, w6 = wr := ⟨_, rfl⟩
      by_cases hin : i < asks.length
      · have hi64 : IntKind.i64.wrap ((i : Int) + 1) = (i : Int) + 1 := i64w (by omega) (by omega)
        have hii : (i : Int) < (asks.length : Int) := by omega
        have HI1 := Aside0.mk (show i + 1 ≤ asks.length by omega)
        have HMM : Aside0 (asks.length - (i + 1) < asks.length - i) := ⟨by omega⟩
        have hcd := Kd.Q_cell false (Kd.Q_below HDN.out HLI.out) (i : Int) (by omega) (by omega)
        have hdg : rdOf false (doneL N t asks.length) (i : Int) = dn N t i := by simp [rdOf, List.getD, doneL_get hin]
        rw [hdg, Int.toNat_natCast] at hcd
        have d0 : w6.cell? ⟨bd, 0 + i, none⟩ = some (.bool (dn N t i)) := hcd.1
        rw [Nat.zero_add] at d0
        obtain ⟨aA, hAA, a0, a1⟩ := at_T40 (Kd.C_below HA2.out (below_then HLW.out HLW.out.size HLI.out)) (i : Int) (by omega) (by omega)
        rw [Int.toNat_natCast] at a0 a1
        subst hAA
        rw [rd_ask] at a0 a1
        have hsu : selF asks (dn N t) (i + 1) = if dn N t i = true ∨ (ask asks i).f0 < 0 then selF asks (dn N t) i else
            if selF asks (dn N t) i < 0 ∨ (ask asks i).f0 < (ask asks (selF asks (dn N t) i).toNat).f0 ∨ ((ask asks i).f0 = (ask asks (selF asks (dn N t) i).toNat).f0 ∧ (ask asks i).f1 < (ask asks (selF asks (dn N t) i).toNat).f1) then (i : Int) else selF asks (dn N t) i := rfl
        have hsi := selF_inv asks (dn N t) i
        have HSU := Aside0.mk hsu
        clear hsu hcd hdg
        by_cases hd : dn N t i = true
        · rw [hd] at d0
          have HE : Aside0 (selF asks (dn N t) (i + 1) = selF asks (dn N t) i) := ⟨by rw [HSU.out, if_pos (.inl hd)]⟩
          generalize selF asks (dn N t) i = nx at HE
          clear hsi hd HSU
          go_wp2
          exact ⟨⟨i + 1, HI1.out, by go_num, by rw [HE.out], HLI⟩, by simp [intOf]; have := HMM.out; omega⟩
        have hd : dn N t i = false := by simpa using hd
        rw [hd] at d0
        by_cases hc0 : (ask asks i).f0 < 0
        · have HE : Aside0 (selF asks (dn N t) (i + 1) = selF asks (dn N t) i) := ⟨by rw [HSU.out, if_pos (.inr hc0)]⟩
          generalize selF asks (dn N t) i = nx at HE
          generalize (ask asks i).f0 = xc at a0 hc0
          clear hsi hd HSU
          go_wp2
          exact ⟨⟨i + 1, HI1.out, by go_num, by rw [HE.out], HLI⟩, by simp [intOf]; have := HMM.out; omega⟩
        have hno : ¬ (dn N t i = true ∨ (ask asks i).f0 < 0) := fun h => h.elim (fun h => by rw [hd] at h; cases h) hc0
        rw [if_neg hno] at HSU
        clear hno hd
        rcases hsi with ⟨e, -⟩ | ⟨b, hb, e, -, -⟩
        · have HE : Aside0 (selF asks (dn N t) (i + 1) = (i : Int)) := ⟨by rw [HSU.out, e]; exact if_pos (.inl (by decide))⟩
          rw [e]
          generalize (ask asks i).f0 = xc at a0 hc0
          generalize (ask asks i).f1 = xk at a1
          clear e HSU
          go_wp2_with fail
          go_big_quiet (fail)
          go_wp2
          exact ⟨⟨i + 1, HI1.out, by go_num, by rw [HE.out], ⟨pw_below_drewN HLI.out _⟩⟩, by simp [intOf]; have := HMM.out; omega⟩
        · obtain ⟨aA', hAA', b0, b1⟩ := at_T40 (Kd.C_below HA2.out (below_then HLW.out HLW.out.size HLI.out)) (b : Int) (by omega) (by omega)
          rw [Int.toNat_natCast, rd_ask] at b0 b1
          injection hAA' with hAA'
          subst hAA'
          rw [e, Int.toNat_natCast] at HSU
          rw [e]
          have fb0 : ¬ (b : Int) < 0 := by omega
          have fb9 : decide ((b : Int) < 0) = false := decide_eq_false (by omega)
          have fb1 : 0 ≤ (b : Int) := by omega
          have fb2 : (b : Int) < (asks.length : Int) := by omega
          generalize (ask asks i).f0 = xc at a0 hc0 HSU
          generalize (ask asks i).f1 = xk at a1 HSU
          generalize (ask asks b).f0 = yc at b0 HSU
          generalize (ask asks b).f1 = yk at b1 HSU
          clear e hb
          by_cases h1 : xc < yc
          · have HE : Aside0 (selF asks (dn N t) (i + 1) = (i : Int)) := ⟨by rw [HSU.out]; exact if_pos (.inr (.inl h1))⟩
            have dl1 : decide (xc < yc) = true := decide_eq_true h1
            clear HSU
            go_wp2_with fail
            go_big_quiet (fail)
            go_wp2
            exact ⟨⟨i + 1, HI1.out, by go_num, by rw [HE.out], ⟨pw_below_drewN HLI.out _⟩⟩, by simp [intOf]; have := HMM.out; omega⟩
          have dl1 : decide (xc < yc) = false := decide_eq_false h1
          by_cases h2 : xc = yc
          · have dl2 : (xc == yc) = true := by rw [h2]; simp
            by_cases h3 : xk < yk
            · have HE : Aside0 (selF asks (dn N t) (i + 1) = (i : Int)) := ⟨by rw [HSU.out]; exact if_pos (.inr (.inr ⟨h2, h3⟩))⟩
              have dl3 : decide (xk < yk) = true := decide_eq_true h3
              clear HSU h2 h1
              go_wp2_with fail
              go_big_quiet (fail)
              go_wp2
              exact ⟨⟨i + 1, HI1.out, by go_num, by rw [HE.out], ⟨pw_below_drewN HLI.out _⟩⟩, by simp [intOf]; have := HMM.out; omega⟩
            · have HE : Aside0 (selF asks (dn N t) (i + 1) = (b : Int)) := ⟨by rw [HSU.out]; exact if_neg (fun h => h.elim (fun h => by omega) (fun h => h.elim h1 (fun h => h3 h.2)))⟩
              have dl3 : decide (xk < yk) = false := decide_eq_false h3
              clear HSU h2 h1
              go_wp2_with fail
              go_big_quiet (fail)
              go_wp2
              exact ⟨⟨i + 1, HI1.out, by go_num, by rw [HE.out], ⟨pw_below_drewN HLI.out _⟩⟩, by simp [intOf]; have := HMM.out; omega⟩
          · have HE : Aside0 (selF asks (dn N t) (i + 1) = (b : Int)) := ⟨by rw [HSU.out]; exact if_neg (fun h => h.elim (fun h => by omega) (fun h => h.elim h1 (fun h => h2 h.1)))⟩
            have dl2 : (xc == yc) = false := beq_eq_false_iff_ne.2 h2
            clear HSU h2 h1
            go_wp2_with fail
            go_big_quiet (fail)
            go_wp2
            exact ⟨⟨i + 1, HI1.out, by go_num, by rw [HE.out], ⟨pw_below_drewN HLI.out _⟩⟩, by simp [intOf]; have := HMM.out; omega⟩
      · obtain rfl : i = asks.length := by omega
        rw [HSEL.out t ht]
        have HLW6 := Aside0.mk (below_then HLW.out HLW.out.size HLI.out)
        have HGI6 := Aside0.mk (HGI.out.below HLI.out)
        have HDN6 := Aside0.mk (Kd.Q_below HDN.out HLI.out)
        clear HGI HDN HLW HLI hi hin
        by_cases htc : t < cnt
        · rw [if_pos htc]
          obtain ⟨hLt, hNl, hc0⟩ := HN1.out t htc
          have HDS := Aside0.mk (doneL_succ (N := N) (t := t) hNl)
          obtain ⟨m, hm⟩ : ∃ m, m = N t := ⟨_, rfl⟩
          rw [← hm] at hLt hNl hc0 HDS ⊢
          clear hm
          have hxr : Rng (ask asks m).f0 := HCR.out _ (by
            have : ask asks m = asks[m] := by simp [List.getD, hNl]
            rw [this]
            exact List.getElem_mem hNl)
          have hgs : grps s k L (t + 1) = addR (ranks.getD m 0) (if newG L t then grps s k L t ++ [⟨keyG s k (ask asks m).f0, []⟩] else grps s k L t) := by
            show addR (L.getD t z67).f1 (if newG L t then grps s k L t ++ [⟨keyG s k (L.getD t z67).f0.f0, []⟩] else grps s k L t) = _
            rw [show L.getD t z67 = asd L t from rfl, hLt]
          have hcn := colA_new (L := L) (t := t) (by rw [hLt]; exact hc0)
          have hce : colA L (t + 1) = (ask asks m).f0 := by show (asd L t).f0.f0 = _; rw [hLt]
          rw [hLt] at hcn
          dsimp only at hcn
          have HCE := Aside0.mk hce
          have HGS := Aside0.mk hgs
          have HLN6 := Aside0.mk (grps_len s k L t)
          have HT1 := Aside0.mk (show t + 1 ≤ cnt by omega)
          have HKX := Aside0.mk (show cnt - (t + 1) < gk by omega)
          have htl : t ≤ 80 := by omega
          have hml : m < ranks.length := by rw [← HLN.out]; exact hNl
          have hrr : rd ranks (m : Int) = ranks.getD m 0 := by rw [rd_lt hml]; simp [List.getD, hml]
          have fm0 : ¬ (m : Int) < 0 := by omega
          have fm9 : decide ((m : Int) < 0) = false := decide_eq_false fm0
          have fm1 : 0 ≤ (m : Int) := by omega
          have fm2 : (m : Int) < (asks.length : Int) := by omega
          have fm3 : (m : Int) < (ranks.length : Int) := by omega
          obtain ⟨d0, df⟩ := Kd.Q_cell false HDN6.out (m : Int) (by omega) (by omega)
          rw [Int.toNat_natCast, Nat.zero_add] at d0 df
          have hq := (Kd.Q_putg HDN6.out (m : Int) (by omega) (by omega) true).1
          rw [Int.toNat_natCast, Nat.zero_add, ← HDS.out] at hq
          obtain ⟨cells, hcl⟩ := Kd.Q_typed HDN6.out bd rfl
          have HGI7 := Aside0.mk (HGI6.out.boolset (j := m) (u := .bool true) hcl)
          have HDN7 := Aside0.mk hq
          have HLW7 := Aside0.mk (HLW6.out.setCell (p := ⟨bd, m, none⟩) HBD.out (.bool true))
          clear hgs hce hLt hq hcl
          go_upto_region 16 with fail
          generalize w6.setCell ⟨bd, m, none⟩ (.bool true) = w7 at HGI7 HDN7 HLW7 ⊢
          clear d0 df HGI6 HDN6 HLW6
          obtain ⟨aA, hAA, a0, a1⟩ := at_T40 (Kd.C_below HA2.out HLW7.out) (m : Int) (by omega) (by omega)
          rw [Int.toNat_natCast, rd_ask] at a0
          subst hAA
          have g0 := pw_cell_below HLW7.out U0.out
          have HRG := Aside0.mk hxr
          have HC0 := Aside0.mk hc0
          generalize (ask asks m).f0 = xc at a0 HCE HGS HRG hcn HC0
          have HRR := Aside0.mk hrr
          clear a1 hxr hc0 hrr
          have HNG := Aside0.mk hcn
          go_upto_if 104 with fail
          go_cut [8, 10] from 98 to 123 (fun v8 v10 wx => ∃ (B' : Nat) (hs' : List Hd) (gs1 : List Grp), v10 = .int .i64 xc ∧ Aside0 (gs1 = if newG L t then grps s k L t ++ [⟨keyG s k xc, []⟩] else grps s k L t) ∧ Aside0 (GI wx w3.heap.size B' v8 hs' gs1) ∧ Aside0 (hs'.length ≤ t + 1 ∧ 0 < hs'.length ∧ w3.heap.size ≤ B') ∧ Aside0 (GInc w3.heap.size hs') ∧ Aside0 (∀ g ∈ gs1, g.f1.length ≤ t) ∧ Aside0 (Kd.Q Kd.bool 4 wx w2.heap.size (fun _ => True) (.slice (some ⟨bd, 0, none⟩) asks.length cd) (doneL N (t + 1) asks.length)) ∧ Aside0 (Below w2.heap.size w2 wx))
          case first =>
            by_cases hng : newG L t
            · have hq1 : (xc != colA L t) = true := by rw [HNG.out]; exact decide_eq_true hng
              have hks := itoB_size hk
              have hxs := itoB_size HRG.out
              have HD1 := Aside0.mk (digits_k hk0 hk w7.drew)
              have HD2 := Aside0.mk (fun (W : World) => digits_k HC0.out HRG.out W)
              have HKY := Aside0.mk (show keyG s k xc = s ++ ⟨#[46]⟩ ++ itoB k ++ ⟨#[58]⟩ ++ itoB xc from rfl)
              generalize itoB k = t1 at HD1 hks HKY
              generalize itoB xc = t2 at HD2 hxs HKY
              have hs1 : ¬ 9223372036854775807 < s.size + 1 := by omega
              have hs2 : ¬ 9223372036854775807 < s.size + 1 + t1.size := by omega
              have hs3 : ¬ 9223372036854775807 < s.size + 1 + t1.size + 1 := by omega
              have hs4 : ¬ 9223372036854775807 < s.size + 1 + t1.size + 1 + t2.size := by omega
              have hdl : hs.length ≤ 80 := by have := HHL.out.1; omega
              clear hcn
              go_upto_region 18 with fail
              go_region_held3 (fun W => W.cell? ⟨gb, 0, none⟩ = some (.string s))
                (first | exact s3_0 | exact s2_0 | exact cell_alloc1 s2_0 _ | exact s1_0 | exact g0)
                (first
                  | (go_at_call 28; with_reducible refine HD1.out.mono ?_; rintro e wA ⟨rfl, hb⟩; have HBA := Aside0.mk (below_of_drew hb); have s1_0 := pw_cell_below HBA.out g0; clear hb)
                  | (go_at_call 28; with_reducible refine (HD2.out wA).mono ?_; rintro e wB ⟨rfl, hb⟩; have HBB := Aside0.mk (below_then HBA.out HBA.out.size hb); have s2_0 := pw_cell_below HBB.out g0; have HGI8 := Aside0.mk (HGI7.out.below HBB.out); have HDN8 := Aside0.mk (Kd.Q_below HDN7.out HBB.out); have HLW8 := Aside0.mk (below_then HLW7.out HLW7.out.size HBB.out); have HZ8 := Aside0.mk (Nat.le_trans HHL.out.2.2 HGI8.out.hB); clear hb)
                  | (refine app_one_step kH (w0 := wB) w3.heap.size wB.heap.size (by rfl) (.tmp 110) (.tmp 122) 33 24 (.agg #[.string ⟨#[]⟩, .slice none 0 0]) 40 (by rfl) Tryd.underlying33 infoG (by rfl) (by decide) (by omega) u8 hs ((s ++ ⟨#[46]⟩ ++ t1 ++ ⟨#[58]⟩ ++ t2, (none, 0, 0)) : Hd) [.string (s ++ ⟨#[46]⟩ ++ t1 ++ ⟨#[58]⟩ ++ t2), .slice none 0 0] (fun _ => True) (fun _ => False) (by rfl) (by rfl) (blk_new wB _) (kH_mkM _ _ _ _) (fun _ h => h.elim) (fun _ _ => trivial) (Kd.Q_alloc HGI8.out.row _) ((below_alloc (Below.refl wB.heap.size wB) _).mono HZ8.out) (Nat.le_trans HZ8.out (by rw [World.size_alloc]; omega)) (by omega) ?_; intro v1 w8 hq hbl hgr hat; have HGI9 := Aside0.mk (GI.push ((HGI8.out).below (below_alloc (Below.refl _ _) _)) hq hgr); have HLW9 := Aside0.mk (HLW8.out.trans (hbl.mono HZ3.out)); have HDN9 := Aside0.mk (Kd.Q_over' (Kd.Q_alloc HDN8.out _) (Kd.Q_typed (Kd.Q_alloc HGI8.out.row _)) EB_G hgr); have HZ9 := Aside0.mk (le_alloc_grown HZ8.out hgr); have s3_0 := pw_cell_below HLW9.out U0.out; clear hq hbl hgr hat))
              all_goals (
                go_wp2_with fail
                go_meet
                exact ⟨_, _, _, rfl, ⟨by rw [if_pos hng, HKY.out]⟩, HGI9, ⟨by simp; have := HHL.out.1; omega, by simp, HZ9.out⟩, ⟨HIN.out.push⟩, ⟨fun g hg => by
                  rcases List.mem_append.1 hg with hg | hg
                  · exact HLN6.out g hg
                  · rw [List.mem_singleton.1 hg]; exact Nat.zero_le _⟩, HDN9, HLW9⟩)
            · have hq1 : (xc != colA L t) = false := by rw [HNG.out]; exact decide_eq_false hng
              have hxe : colA L t = xc := by
                have := hq1
                simp at this
                exact this.symm
              have HXE := Aside0.mk hxe
              have hdp : 0 < hs.length := HHL.out.2.1 (Nat.pos_of_ne_zero (fun h => hng (.inl h)))
              clear hcn hxe
              go_wp2_with fail
              go_meet
              exact ⟨_, _, _, by rw [HXE.out], ⟨by rw [if_neg hng]⟩, HGI7, ⟨by have := HHL.out.1; omega, hdp, HHL.out.2.2⟩, HIN, HLN6, HDN7, HLW7⟩
          case rest =>
            obtain ⟨B1, hd1, gs1, rfl, HG1, HGI9, HHL9, HIN9, HGL2, HDN9, HLW9⟩ := hcut
            obtain ⟨w8, rfl⟩ : ∃ w8 : World, w8 = wc := ⟨_, rfl⟩
            rw [← HG1.out] at HGS
            clear HG1 HNG HGI7 HDN7 HLW7 a0 g0 hcn HLN6
            have g1 := pw_cell_below HLW9.out U1.out
            obtain ⟨aR, hAR, r0⟩ := Kd.at_int (Kd.C_below HR2.out HLW9.out) (m : Int) (by omega) (by omega)
            rw [Int.toNat_natCast, HRR.out] at r0
            subst hAR
            generalize ranks.getD m 0 = xr at r0 HGS
            have hdl2 := HHL9.out.1
            have hdp2 := HHL9.out.2.1
            obtain ⟨p, hp⟩ : ∃ p, p + 1 = hd1.length := ⟨hd1.length - 1, by omega⟩
            obtain ⟨xh, hxh⟩ : ∃ x, hd1[p]? = some x := ⟨hd1[p]'(by omega), by simp⟩
            obtain ⟨xg, hxg⟩ : ∃ x, gs1[p]? = some x := ⟨gs1[p]'(by have := HGI9.out.len; omega), by simp⟩
            obtain ⟨gB, o, cap, hv, hgbb, _, _⟩ := Kd.Q_form HGI9.out.row (by omega)
            subst hv
            have HGBB := Aside0.mk hgbb
            clear hgbb
            rw [← hp] at HGI9 ⊢
            have hml2 : p + 1 ≤ 81 := by omega
            have HXH := Aside0.mk hxh
            have HXG := Aside0.mk hxg
            have HPP := Aside0.mk hp
            have hgd := HGI9.out.below (below_drew (Below.refl w8.heap.size w8))
            have HGD := Aside0.mk hgd
            have HDD := Aside0.mk (Kd.Q_below HDN9.out (below_drew (Below.refl w8.heap.size w8)))
            obtain ⟨z1, zf1⟩ := Qh_cell HGI9.out.row (m := p) (by omega) hxh
            have wm1 : IntKind.i64.wrap (((p + 1 : Nat) : Int) - 1) = (p : Int) := (i64w (by omega) (by omega)).trans (by omega)
            have wm2 : IntKind.i64.wrap ((p : Int) + 1 - 1) = (p : Int) := (i64w (by omega) (by omega)).trans (by omega)
            have fp1 : (p : Int) < (p : Int) + 1 := by omega
            have hlst := HGD.out.last p xh xg hp hxh hxg
            have HLST := Aside0.mk hlst
            have HLEN := Aside0.mk (HGL2.out xg (List.mem_of_getElem? hxg))
            obtain ⟨xkey, xA, xn, xcap⟩ := xh
            dsimp only at z1
            have HBB0 := Aside0.mk HHL9.out.2.2
            clear hxh hxg hp hgd hlst hdl2 hdp2 fm9
            go_upto_region 20 with fail
            go_region_law ((refine Kd.R_append_step (Kd.int .i64) (w0 := w8.drew) (W := w8.drew) B1 (by rfl) (.tmp 133) (.tmp 139) 22 3 (.int .i64 0) 8 (by rfl) Tryd.underlying22 infoI (by rfl) (by decide) (by omega) (.slice xA xn xcap) xg.f1 xr [.int .i64 xr] (fun _ => True) (fun _ => False) (by rfl) (by rfl) rfl (fun _ h => h.elim) (fun _ _ => trivial) HLST.out (Below.refl _ _) HGD.out.hB (by have := HLEN.out; omega) ?_; intro v2 w9 ho hbl hgr hat; obtain ⟨A9, c9, rfl, hl9, _⟩ := Kd.R_reads ho; have row9 := GI.row_grown HGD.out HPP.out HXH.out HXG.out hgr; obtain ⟨cz, fz⟩ := Qh_cell row9 (m := p) (by omega) HXH.out; have HEND := Aside0.mk (GI.put HGD.out HPP.out HXH.out HXG.out ho hbl hgr); have HINE := Aside0.mk (HIN9.out.put HGI9.out HBB0.out HPP.out ho (key := xkey)); have HDE := Aside0.mk (Kd.Q_over' HDD.out (Kd.R_typed HLST.out) EB_I hgr); obtain ⟨cells9, hcl9⟩ := Kd.Q_typed row9 gB rfl; have HDF := Aside0.mk (Kd.Q_set HDE.out hcl9 EB_G (o + p * 2 + 1) (.slice A9 (xg.f1 ++ [xr]).length c9)); have HBE := Aside0.mk (hbl.mono (Nat.le_trans HZ3.out HBB0.out)); clear ho hbl hgr hat row9 hcl9))
            all_goals (
              have HGF := Aside0.mk (HGS.out.trans (addR_put (by have := HGI9.out.len; have := HPP.out; omega) HXG.out))
              rw [← HGF.out] at HEND
              clear cz fz z1 zf1 g1 r0 HGD HLST HGF HGS HDD HDE
              have HLF := Aside0.mk (((HLW9.out.trans (below_drew (Below.refl w2.heap.size w8))).trans HBE.out).setCell (p := ⟨gB, o + p * 2 + 1, none⟩) (Nat.le_trans HZ3.out HGBB.out) (.slice A9 (xg.f1 ++ [xr]).length c9))
              rw [List.length_append, List.length_singleton] at HEND HLF HINE HDF
              have HHF : Aside0 ((hd1.set p (xkey, (A9, xg.f1.length + 1, c9))).length ≤ t + 1 ∧ (0 < t + 1 → 0 < (hd1.set p (xkey, (A9, xg.f1.length + 1, c9))).length) ∧ w3.heap.size ≤ B1) := ⟨by rw [List.length_set]; exact HHL9.out.1, by rw [List.length_set]; have := HHL9.out.2.1; omega, HBB0.out⟩
              clear HGI9 HHL9
              go_wp2
              go_roundg (cnt - (t + 1))
              case measure => exact HKX.out
              case rel => exact ⟨t + 1, B1, _, HT1.out, Nat.le_refl _, by rw [HCE.out], HEND, HHF, HINE, HDF, HLF⟩)
        · rw [if_neg htc]
          obtain rfl : t = cnt := by omega
          have HGF := HGI6
          rw [← HSG.out] at HGF
          have HFIN := Aside0.mk (show Below gb w w6 from HB2.out.trans (HLW6.out.mono HZ2.out))
          have HZF := Aside0.mk (show w.heap.size ≤ w3.heap.size by rw [HGB.out]; exact Nat.le_trans HZ2.out HZ3.out)
          go_wp2
          go_ret2
          exact ⟨_, _, _, _, rfl, HGF.out, HIN.out, HZF.out, by rw [HGB.out]; exact HFIN.out⟩
end Go.Proofs.YtkifmhfgplhabaaDoor.HQ

namespace Go.Proofs.YtkifmhfgplhabaaDoor.HQ
open Go.Proofs.YtkifmhfgplhabaaDoor.HU Go.RowKit Go.Proofs.YtkifmhfgplhabaaDoor.HK Go.Proofs.YtkifmhfgplhabaaDoor.HP Go.Proofs.YtkifmhfgplhabaaDoorW.PrintWords Go.Proofs.YtkifmhfgplhabaaDoorW.PrintLast Go.Proofs.YtkifmhfgplhabaaDoorW.PrintMore
set_option linter.unusedVariables false
set_option linter.unusedSimpArgs false
theorem grps_cntU (s : ByteArray) (k : Int) (L : List Asd) : ∀ i, (grps s k L i).length ≤ i
  | 0 => Nat.le_refl _
  | i + 1 => by
    have h : ∀ (r : Int) (gs : List Grp), (addR r gs).length = gs.length := fun r gs => by
      have := congrArg List.length (addR_keys r gs)
      rw [List.length_map, List.length_map] at this
      exact this
    show (addR _ _).length ≤ i + 1
    rw [h]
    have := grps_cntU s k L i
    split
    · rw [List.length_append, List.length_singleton]
      omega
    · omega
theorem split_cntU (s : ByteArray) (k : Int) (l : List Int) (asks : List Ask_) : (splitG s k l asks).length ≤ asks.length := Nat.le_trans (grps_cntU _ _ _ _) (pick_len _ _ _)
theorem ints_loopU (a : List Int) (hl : a.length ≤ maxLen) : ∀ n i, n = a.length - i → i ≤ a.length → Ev (fun k => Qgnbase.dispatcherref11_Ints.l0 k a a (i : Int)) true := by
  have hM : maxLen = 9223372036854775807 := rfl
  intro n
  induction n with
  | zero =>
    intro i hn hi
    refine Ev.round ?_ (fun k => by simp only [Qgnbase.dispatcherref11_Ints.l0]; rfl)
    exact Ev.neg (by omega) (Ev.const rfl)
  | succ n ih =>
    intro i hn hi
    refine Ev.round ?_ (fun k => by simp only [Qgnbase.dispatcherref11_Ints.l0]; rfl)
    refine Ev.pos (by omega) ?_
    refine Ev.pos (by omega) ?_
    refine Ev.pos (by omega) ?_
    refine Ev.pos trivial ?_
    rw [wrap64_nat i (by omega)]
    exact ih (i + 1) (by omega) (by omega)
theorem same_cU (s : ByteArray) (A : Option Addr) (c : Nat) (A2 : Option Addr) (c2 : Nat) (a : List Int) (w : World) (hr : Kd.C (Kd.int .i64) w A a.length a) (hc : a.length ≤ c) (hr2 : Kd.C (Kd.int .i64) w A2 a.length a) (hc2 : a.length ≤ c2) :
    Calls Tryd.prog 15 #[.agg #[.string s, .slice A a.length c], .agg #[.string s, .slice A2 a.length c2]] w fun e w' => e = .returned (.bool true) ∧ Below w.heap.size w w' := by
  have hi : Ev (fun k => Qgnbase.dispatcherref11_Ints.f k a a) true := by
    unfold Qgnbase.dispatcherref11_Ints.f
    refine Ev.pos rfl ?_
    simpa using ints_loopU a (Kd.C_max hr) a.length 0 (by omega) (by omega)
  have hs : Ev (fun k => Qgnbase.dispatcherref11_Same.f k s a s a) true := by
    unfold Qgnbase.dispatcherref11_Same.f
    exact Ev.pos rfl (Ev.bind hi (Ev.const rfl))
  obtain ⟨K, h⟩ := hs
  exact Qgnbase.dispatcherref11_Same.calls K s A c a s A2 c2 a true w hr hc hr2 hc2 (h K (Nat.le_refl _))
theorem eqAsk (d : Nat) (w : World) (x0 y0 x1 y1 : Int) : (Op.equalIn (d + 2) 40 (.agg #[.int .i64 x0, .int .i64 x1]) (.agg #[.int .i64 y0, .int .i64 y1])).run Tryd.prog w = .ok (x0 == y0 && (x1 == y1)) w := by
  refine eqA_of Tryd.underlying40 (by kernel_rfl) ?_
  refine eqf_cons (by rfl) (by go_simp; rfl) (by go_simp; rfl) (by go_simp) ?_
  exact eqf_last (by rfl) (by go_simp; rfl) (by go_simp; rfl) (by go_simp)
attribute [local go_sem high] eqAsk
def okD (l : List Int) (k : Int) : Prop := mayB l = true ∧ 0 ≤ k
instance (l : List Int) (k : Int) : Decidable (okD l k) := by unfold okD; exact inferInstance
def dK (s : ByteArray) (l : List Int) (k : Int) : ByteArray := if okD l k then childB s k else ⟨#[]⟩
def dL (l : List Int) (k : Int) : List Int := if okD l k then l else []
def dE (l : List Int) (k : Int) : Int := if okD l k then 0 else 2
theorem dup_any (s : ByteArray) (A : Option Addr) (c : Nat) (l : List Int) (k : Int) (w : World) (hr : Kd.C (Kd.int .i64) w A l.length l) (hc : l.length ≤ c) (ht : Tab w) (hs : s.size ≤ 100000) (hk : Rng k) (hl : l.length ≤ 1000) :
    Calls Tryd.prog 11 #[.agg #[.string s, .slice A l.length c], .int .i64 k] w fun e w' => ∃ (Av : Option Addr) (cv : Nat), e = .returned (.tuple #[.agg #[.string (dK s l k), .slice Av (dL l k).length cv], .int .i64 (dE l k)]) ∧ (dL l k).length ≤ cv ∧ Kd.R (Kd.int .i64) 3 w' w.heap.size (fun _ => True) (.slice Av (dL l k).length cv) (dL l k) ∧ Below w.heap.size w w' := by
  unfold dK dL dE
  by_cases h : okD l k
  · rw [if_pos h, if_pos h, if_pos h]
    refine (dup_c s A c l k w hr hc ht hs h.1 h.2 hk hl).mono ?_
    rintro e w' ⟨u, rfl, hR, hb⟩
    obtain ⟨Av, cv, rfl, hcv, _⟩ := Kd.R_reads hR
    exact ⟨Av, cv, rfl, hcv, hR, hb⟩
  · rw [if_neg h, if_neg h, if_neg h]
    refine (dup_bad s A c l k w hr hc ?_).mono ?_
    · unfold okD at h
      cases hm : mayB l
      · exact .inl rfl
      · exact .inr (by rw [hm] at h; simp at h; exact h)
    · rintro e w' ⟨rfl, hb⟩
      exact ⟨none, 0, rfl, Nat.le_refl _, Kd.R_nil _ _ _ _ _, hb⟩
theorem rdup_any (s : ByteArray) (A : Option Addr) (c : Nat) (l : List Int) (k : Int) (w : World) (hr : Kd.C (Kd.int .i64) w A l.length l) (hc : l.length ≤ c) (hs : s.size ≤ 100000) (hk : Rng k) (hl : l.length ≤ 1000) :
    Calls Tryd.prog 12 #[.agg #[.string s, .slice A l.length c], .int .i64 k] w fun e w' => ∃ (Av : Option Addr) (cv : Nat), e = .returned (.tuple #[.agg #[.string (dK s l k), .slice Av (dL l k).length cv], .int .i64 (dE l k)]) ∧ (dL l k).length ≤ cv ∧ Kd.R (Kd.int .i64) 3 w' w.heap.size (fun _ => True) (.slice Av (dL l k).length cv) (dL l k) ∧ Below w.heap.size w w' := by
  unfold dK dL dE
  by_cases h : okD l k
  · rw [if_pos h, if_pos h, if_pos h]
    refine (rdup_c s A c l k w hr hc hs h.1 h.2 hk hl).mono ?_
    rintro e w' ⟨u, rfl, hR, hb⟩
    obtain ⟨Av, cv, rfl, hcv, _⟩ := Kd.R_reads hR
    exact ⟨Av, cv, rfl, hcv, hR, hb⟩
  · rw [if_neg h, if_neg h, if_neg h]
    refine (rdup_bad s A c l k w hr hc ?_).mono ?_
    · unfold okD at h
      cases hm : mayB l
      · exact .inl rfl
      · exact .inr (by rw [hm] at h; simp at h; exact h)
    · rintro e w' ⟨rfl, hb⟩
      exact ⟨none, 0, rfl, Nat.le_refl _, Kd.R_nil _ _ _ _ _, hb⟩
def okS (l : List Int) (k : Int) (n : Nat) : Prop := (mayB l = true ∧ 0 ≤ k) ∧ n = l.length
instance (l : List Int) (k : Int) (n : Nat) : Decidable (okS l k n) := by unfold okS; exact inferInstance
def sL (s : ByteArray) (l : List Int) (k : Int) (asks : List Ask_) : List Grp := if okS l k asks.length then splitG s k l asks else []
def sE (l : List Int) (k : Int) (asks : List Ask_) : Int := if okS l k asks.length then 0 else 2
theorem okS_no {l : List Int} {k : Int} {n : Nat} (h : ¬ okS l k n) : mayB l = false ∨ k < 0 ∨ n ≠ l.length := by
  unfold okS at h
  cases hm : mayB l
  · exact .inl rfl
  · refine .inr ?_
    by_cases hk : k < 0
    · exact .inl hk
    · exact .inr (fun hn => h ⟨⟨hm, by omega⟩, hn⟩)
theorem sL_len (s : ByteArray) (l : List Int) (k : Int) (asks : List Ask_) : (sL s l k asks).length ≤ asks.length := by
  unfold sL
  split
  · exact split_cntU s k l asks
  · simp
theorem sL_in (s : ByteArray) (l : List Int) (k : Int) (asks : List Ask_) : ∀ g ∈ sL s l k asks, 0 < g.f1.length ∧ g.f1.length ≤ asks.length := by
  unfold sL
  split
  · rename_i h
    intro g hg
    obtain ⟨M, h1, h2, _⟩ := split_parts s k l asks h.2
    obtain ⟨i, hi, rfl⟩ := List.getElem_of_mem hg
    have hp := h2 i (by omega) hi
    refine ⟨?_, Nat.le_trans (grps_len _ _ _ _ _ hg) (pick_len _ _ _)⟩
    rw [hp.is, List.length_map]
    exact List.length_pos_iff.2 hp.ne
  · intro g hg
    cases hg
/-- what a split tells, whatever comes in -/
def SplP (w w' : World) (e : Ending) (gs : List Grp) (er : Int) : Prop := ∃ (v : Value) (B0 B : Nat) (hs : List Hd), e = .returned (.tuple #[v, .int .i64 er]) ∧ GI w' B0 B v hs gs ∧ GInc B0 hs ∧ w.heap.size ≤ B0 ∧ Below w.heap.size w w'
theorem spl_any (s : ByteArray) (A : Option Addr) (c : Nat) (l : List Int) (k : Int) (A2 : Option Addr) (c2 : Nat) (asks : List Ask_) (w : World) (hr : Kd.C (Kd.int .i64) w A l.length l) (hc : l.length ≤ c) (hr2 : Kd.C k40 w A2 asks.length asks) (hc2 : asks.length ≤ c2) (ht : Tab w) (hs : s.size ≤ 10000) (hk : Rng k) (hcr : ∀ x ∈ asks, Rng x.f0) (hl80 : l.length ≤ 80) :
    Calls Tryd.prog 13 #[.agg #[.string s, .slice A l.length c], .int .i64 k, .slice A2 asks.length c2] w fun e w' => SplP w w' e (sL s l k asks) (sE l k asks) := by
  unfold sL sE
  by_cases h : okS l k asks.length
  · rw [if_pos h, if_pos h]
    exact split_n s A c l k A2 c2 asks w hr hc hr2 hc2 ht hs h.1.1 h.1.2 hk hcr h.2 hl80
  · rw [if_neg h, if_neg h]
    refine (split_bad s A c l k A2 asks.length c2 w hr hc (okS_no h)).mono ?_
    rintro e w' ⟨rfl, hb⟩
    exact ⟨_, w'.heap.size, _, [], rfl, GI.nil _ _, GInc.nil _, hb.size, hb⟩
theorem rspl_any (s : ByteArray) (A : Option Addr) (c : Nat) (l : List Int) (k : Int) (A2 : Option Addr) (c2 : Nat) (asks : List Ask_) (w : World) (hr : Kd.C (Kd.int .i64) w A l.length l) (hc : l.length ≤ c) (hr2 : Kd.C k40 w A2 asks.length asks) (hc2 : asks.length ≤ c2) (hs : s.size ≤ 10000) (hk : Rng k) (hcr : ∀ x ∈ asks, Rng x.f0) (hl80 : l.length ≤ 80) :
    Calls Tryd.prog 14 #[.agg #[.string s, .slice A l.length c], .int .i64 k, .slice A2 asks.length c2] w fun e w' => SplP w w' e (sL s l k asks) (sE l k asks) := by
  unfold sL sE
  by_cases h : okS l k asks.length
  · rw [if_pos h, if_pos h]
    exact rsplit_n s A c l k A2 c2 asks w hr hc hr2 hc2 hs h.1.1 h.1.2 hk hcr h.2 hl80
  · rw [if_neg h, if_neg h]
    refine (rsplit_bad s A c l k A2 asks.length c2 w hr hc (okS_no h)).mono ?_
    rintro e w' ⟨rfl, hb⟩
    exact ⟨_, w'.heap.size, _, [], rfl, GI.nil _ _, GInc.nil _, hb.size, hb⟩
theorem q_keepU {α : Type} {d : Kd α} {e base b t : Nat} {ok : Nat → Prop} {W W1 : World} {v : Value} {xs : List α} {cells : Array Value} (h : d.Q e W base ok v xs) (hb : W.heap[b]? = some (.cells cells t (0, 0))) (ht : ∀ q, q ∈ e :: d.E → q ≠ t) (hk : Kept W W1 (fun k => k = b)) : d.Q e W1 base ok v xs :=
  Kd.Q_mono (Kd.Q_kept (Kd.Q_types h hb ht) hk (fun k hk => hk.2)) (fun _ hk => hk.1)
theorem Qh_both {W : World} {base : Nat} {ok : Nat → Prop} {A : Option Addr} {n cap : Nat} {hs : List Hd} (row : kH.Q 24 W base ok (.slice A n cap) hs) {m : Nat} {x : Hd} (h2 : hs[m]? = some x) :
    ∃ b o, A = some ⟨b, o, none⟩ ∧ base ≤ b ∧ W.cell? ⟨b, o + m * 2, none⟩ = some (.string x.1) ∧ W.cell? ⟨b, o + m * 2 + 1, none⟩ = some (.slice x.2.1 x.2.2.1 x.2.2.2) := by
  have hm : m < hs.length := (List.getElem?_eq_some_iff.1 h2).1
  obtain ⟨b, o, c, hv, hb, _, cells, hcp⟩ := Kd.Q_form row (by omega)
  injection hv with e1 e2 e3
  subst e1 e2 e3
  have hc1 := Qh_cell row hm h2
  obtain ⟨cs, hcl, hM, hcc, hfr⟩ := Kd.Q_elem row x (m : Int) (by omega) (by omega)
  rw [Int.toNat_natCast] at hM hcc
  have hgd : hs.getD m x = x := by simp [List.getD, h2]
  rw [hgd] at hM
  have hce := kH_openM hM
  exact ⟨b, o, rfl, hb, hcc 0 _ (by rw [hce]; rfl), hc1.1⟩
theorem cell_keptU {W W1 : World} {b c i : Nat} {v : Value} (h : W.cell? ⟨c, i, none⟩ = some v) (hk : Kept W W1 (fun k => k = b)) (hne : c ≠ b) : W1.cell? ⟨c, i, none⟩ = some v := by
  have hl := World.block_lt_of_cell? W _ h
  have := hk.2 c hl hne
  rw [← h]
  simp [World.cell?, this]
theorem setU {W : World} {b j : Nat} {cells : Array Value} {t : Nat} (h : W.heap[b]? = some (.cells cells t (0, 0))) (v : Value) : ∃ cells', (W.setCell ⟨b, j, none⟩ v).heap[b]? = some (.cells cells' t (0, 0)) ∧ cells'.size = cells.size := ⟨_, blk_put (cs' := cells.setIfInBounds j v) h j v rfl, by simp⟩
theorem infoKU : (Tryd.prog.info? 40).map (fun i => (i.zero, i.size, i.bytes)) = some (some (.agg #[.int .i64 0, .int .i64 0]), 2, 16) := by kernel_rfl
theorem R_emptyU {α : Type} (d : Kd α) (e : Nat) (w : World) : d.R e (w.alloc (.cells #[] e)) w.heap.size (fun _ => True) (.slice (some ⟨w.heap.size, 0, none⟩) 0 0) [] :=
  ⟨fun _ _ => trivial, [], ⟨by simp, .inr ⟨w.heap.size, 0, #[], rfl, Nat.le_refl _, by simpa using heap_alloc_new w _, Nat.le_refl _, Nat.zero_le _, by simp, by simp⟩⟩, Reps.none _ _⟩
theorem RS_lt {W : World} {b n c : Nat} {l : List Int} {cells : Array Value} (h : RS W (some ⟨b, 0, none⟩, n, c) l) (hc : W.heap[b]? = some (.cells cells 3 (0, 0))) {j : Nat} (hj : j < l.length) : j < cells.size := by
  have hn : n = l.length := h.n
  obtain ⟨a, ha, hcell⟩ := Kd.at_int h.C (j : Int) (by omega) (by show (j : Int) < n; omega)
  injection ha with ha
  subst ha
  rw [Int.toNat_natCast, add_plain, blk_cell hc] at hcell
  exact (Array.getElem?_eq_some_iff.1 hcell).1
set_option maxRecDepth 100000 in
set_option maxHeartbeats 16000000 in
theorem splits_c (s : ByteArray) (A : Option Addr) (c : Nat) (l : List Int) (k : Int) (A2 : Option Addr) (c2 : Nat) (asks : List Ask_) (w : World) (hr : Kd.C (Kd.int .i64) w A l.length l) (hc : l.length ≤ c) (hk : Rng k) (hr2 : Kd.C k40 w A2 asks.length asks) (hc2 : asks.length ≤ c2) (hx : ∀ x ∈ asks, (Rng x.f0 ∧ Rng x.f1)) (ht : Tab w) :
    Calls Tryd.prog 3 #[.agg #[.string s, .slice A l.length c], .int .i64 k, .slice A2 asks.length c2] w fun e w' => e = .returned (.bool true) ∧ Below w.heap.size w w' := by
  have HCR := Aside0.mk (show ∀ x ∈ asks, Rng x.f0 from fun x h => (hx x h).1)
  clear hx
  have b0 := blk_new w (.cells #[.string s, .slice A l.length c] 24)
  have hba := below_alloc (Below.refl w.heap.size w) (.cells #[.string s, .slice A l.length c] 24)
  have HB0 := Aside0.mk hba
  have HT0 := Aside0.mk (ht.after hba)
  have HRW := Aside0.mk hr
  have HAW := Aside0.mk hr2
  have p0 : (w.alloc (.cells #[.string s, .slice A l.length c] 24)).cell? ⟨w.heap.size, 0, none⟩ = some (.string s) := (blk_cell b0 0).trans rfl
  have p1 : (w.alloc (.cells #[.string s, .slice A l.length c] 24)).cell? ⟨w.heap.size, 1, none⟩ = some (.slice A l.length c) := (blk_cell b0 1).trans rfl
  clear hr hr2 ht hba b0
  go_enter Tryd.func3, Tryd.ntmps3
  go_wp2_with fail
  generalize (w.alloc (.cells #[.string s, .slice A l.length c] 24)) = w1 at p0 p1 HB0 HT0 ⊢
  refine (great_c s A c l w1 (Kd.C_below HRW.out HB0.out) hc).mono ?_
  rintro e w2 ⟨rfl, hb⟩
  have HB2 := Aside0.mk (below_then HB0.out HB0.out.size hb)
  have HT2 := Aside0.mk (HT0.out.after hb)
  have q0 := pw_cell_below hb p0
  have q1 := pw_cell_below hb p1
  clear hb HB0 HT0 p0 p1
  by_cases hg : 80 < l.length ∨ 200 < s.size
  · have dg : decide (80 < l.length ∨ 200 < s.size) = true := decide_eq_true hg
    rw [dg]
    clear hg dg
    go_wp2
    go_ret
    exact ⟨rfl, HB2.out⟩
  have dg : decide (80 < l.length ∨ 200 < s.size) = false := decide_eq_false hg
  rw [dg]
  have hl80 : l.length ≤ 80 := by omega
  have hs200 : s.size ≤ 200 := by omega
  clear hg dg
  by_cases ha : 100 < asks.length
  · have da : (asks.length : Int) > 100 := by omega
    go_wp2
    go_ret
    exact ⟨rfl, HB2.out⟩
  have da : ¬ (asks.length : Int) > 100 := by omega
  clear ha
  go_wp2_with fail
  refine (rcopy_c s A c l w2 (Kd.C_below HRW.out HB2.out) hc (by omega)).mono ?_
  rintro e w3 ⟨u, rfl, hR, hb⟩
  obtain ⟨Am, cm, rfl, hcm, hCm⟩ := Kd.R_reads hR
  have hba := below_alloc (Below.refl w3.heap.size w3) (.cells #[.string s, .slice Am l.length cm] 24)
  have hbb := below_then hb hb.size hba
  have HB4 := Aside0.mk (below_then HB2.out HB2.out.size hbb)
  have HT4 := Aside0.mk (HT2.out.after hbb)
  have BM4 := Aside0.mk (blk_new w3 (.cells #[.string s, .slice Am l.length cm] 24))
  have HM4 := Aside0.mk (Kd.C_below hCm hba)
  have r0 := pw_cell_below hbb q0
  have r1 := pw_cell_below hbb q1
  clear hR hCm hb hba hbb q0 q1 HB2 HT2
  go_upto_region 4 with fail
  generalize w3.alloc (.cells #[.string s, .slice Am l.length cm] 24) = w4 at HB4 HT4 BM4 HM4 r0 r1 ⊢
  generalize w3.heap.size = bm at BM4 ⊢
  go_wp2_with (at_builtin; refine Kd.R_append_rows k40 (w0 := w4) w4.heap.size rfl (.tmp 30) (.tmp 31) 25 40 (.agg #[.int .i64 0, .int .i64 0]) 16 rfl Tryd.underlying25 infoKU rfl (by decide) (by decide) _ [] asks _ _ _ (fun _ => True) (fun _ => False) rfl rfl ?aO ?aR (fun _ _ h => h) (fun _ h => h.elim) (fun _ _ => trivial) ?aB ?aS ?aL ?_; (case aO => exact R_emptyU _ _ _); (case aR => exact Kd.C_alloc (Kd.C_below HAW.out HB4.out) _); (case aB => exact below_alloc (Below.refl _ _) _); (case aS => simp); (case aL => simp; omega); intro v5 w5 ho hb hgr hat; rw [List.nil_append] at ho; obtain ⟨Ao, co, rfl, hco, hCo⟩ := Kd.R_reads ho; have HB5 := Aside0.mk (below_then HB4.out HB4.out.size hb); have HT5 := Aside0.mk (HT4.out.after hb); have BM5 := Aside0.mk (blk_below BM4.out hb); have HM5 := Aside0.mk (Kd.C_below HM4.out hb); have HO5 := Aside0.mk hCo; have s0 := pw_cell_below hb r0; have s1 := pw_cell_below hb r1; have m0 := (blk_cell BM5.out 0).trans rfl; have m1 := (blk_cell BM5.out 1).trans rfl; clear ho hb hgr hat hCo r0 r1 HB4 HT4 BM4 HM4)
  refine (dup_any s Am cm l k w5 HM5.out hcm HT5.out (by omega) hk (by omega)).mono ?_
  rintro e w6 ⟨Ad, cd, rfl, hcd, hR, hb⟩
  have hba := below_alloc (Below.refl w6.heap.size w6) (.cells #[.string (dK s l k), .slice Ad (dL l k).length cd] 24)
  have hbb := below_then hb hb.size hba
  have HL7 := Aside0.mk hbb
  have HT7 := Aside0.mk (HT5.out.after hbb)
  have BD7 := Aside0.mk (blk_new w6 (.cells #[.string (dK s l k), .slice Ad (dL l k).length cd] 24))
  have HD7 := Aside0.mk (Kd.R_alloc hR (.cells #[.string (dK s l k), .slice Ad (dL l k).length cd] 24))
  have t0 := pw_cell_below hbb s0
  have t1 := pw_cell_below hbb s1
  have n0 := pw_cell_below hbb m0
  have n1 := pw_cell_below hbb m1
  have HBD := Aside0.mk hb.size
  have hdl : (dL l k).length ≤ 80 := by unfold dL; split; exact hl80; simp
  clear hR hb hba hbb m0 m1
  go_upto_region 6 with fail
  generalize w6.alloc (.cells #[.string (dK s l k), .slice Ad (dL l k).length cd] 24) = w7 at HL7 HT7 BD7 HD7 t0 t1 n0 n1 ⊢
  generalize w6.heap.size = bdx at BD7 HBD ⊢
  go_wp2_with fail
  refine (rdup_any s A c l k w7 (Kd.C_below HRW.out (below_then HB5.out HB5.out.size HL7.out)) hc (by omega) hk (by omega)).mono ?_
  rintro e w8 ⟨Ax, cx, rfl, hcx, hR, hb⟩
  obtain ⟨_, _, hv, _, hCx⟩ := Kd.R_reads hR
  injection hv with e1 e2 e3
  subst e1 e3
  have hba := below_alloc (Below.refl w8.heap.size w8) (.cells #[.string (dK s l k), .slice Ax (dL l k).length cx] 24)
  have hbb := below_then hb hb.size hba
  have HL9 := Aside0.mk (below_then HL7.out HL7.out.size hbb)
  have HT9 := Aside0.mk (HT7.out.after hbb)
  have BX9 := Aside0.mk (blk_new w8 (.cells #[.string (dK s l k), .slice Ax (dL l k).length cx] 24))
  have HX9 := Aside0.mk (Kd.C_below hCx hba)
  have BD9 := Aside0.mk (blk_below BD7.out hbb)
  have HD9 := Aside0.mk (Kd.R_below HD7.out hbb)
  have u0 := pw_cell_below hbb t0
  have u1 := pw_cell_below hbb t1
  have o0 := pw_cell_below hbb n0
  have o1 := pw_cell_below hbb n1
  clear hR hCx hb hba hbb t0 t1 n0 n1 e2 HL7 HT7 BD7 HD7
  go_upto_region 7 with fail
  generalize w8.alloc (.cells #[.string (dK s l k), .slice Ax (dL l k).length cx] 24) = w9 at HL9 HT9 BX9 HX9 BD9 HD9 u0 u1 o0 o1 ⊢
  generalize w8.heap.size = bxx at BX9 ⊢
  have HSP := Aside0.mk (spl_any s Am cm l k Ao co asks w9 (Kd.C_below HM5.out HL9.out) hcm (Kd.C_below HO5.out HL9.out) hco HT9.out (by omega) hk HCR.out hl80)
  have HSR := Aside0.mk (fun (W : World) (h : Below w9.heap.size w9 W) => rspl_any s A c l k A2 c2 asks W (Kd.C_below HRW.out (below_then HB5.out HB5.out.size (below_then HL9.out HL9.out.size h))) hc (Kd.C_below HAW.out (below_then HB5.out HB5.out.size (below_then HL9.out HL9.out.size h))) hc2 (by omega) hk HCR.out hl80)
  have hgl := sL_len s l k asks
  have HGN := Aside0.mk (sL_in s l k asks)
  generalize sL s l k asks = gs at HSP HSR hgl HGN
  generalize sE l k asks = er at HSP HSR
  go_wp2_with fail
  refine HSP.out.mono ?_
  rintro e w10 ⟨v10, B0, B, hs, rfl, hG, hI, hz, hb⟩
  obtain ⟨Av, cv, hv, hcv, _⟩ := hG.reads
  subst hv
  have HG10 := Aside0.mk hG
  have HI10 := Aside0.mk hI
  have HZ10 := Aside0.mk hz
  have HL10 := Aside0.mk hb
  have HSR10 := Aside0.mk (HSR.out w10 hb)
  have u0 := pw_cell_below hb u0
  have u1 := pw_cell_below hb u1
  clear hG hI hz hb HSP HSR
  go_wp2_with fail
  refine HSR10.out.mono ?_
  rintro e w11 ⟨v11, C0, C, hs2, rfl, hG, hI, hz, hb⟩
  obtain ⟨Aw, cw, hv, hcw, _⟩ := hG.reads
  subst hv
  have HG11 := Aside0.mk (HG10.out.below hb)
  have HH11 := Aside0.mk hG
  have HJ11 := Aside0.mk hI
  have HZ11 := Aside0.mk hz
  have HL11 := Aside0.mk (below_then HL10.out HL10.out.size hb)
  have HLT : Aside0 (∀ (j : Nat) (h : Hd) (ad : Addr), hs[j]? = some h → h.2.1 = some ad → ad.block < w10.heap.size) := ⟨fun j h ad hj ha => by
    have hjl : j < gs.length := by rw [← HG10.out.len]; exact (List.getElem?_eq_some_iff.1 hj).1
    exact (HG10.out.all hj (List.getElem?_eq_getElem hjl)).lt ad ha⟩
  have BD11 := Aside0.mk (blk_below BD9.out HL11.out)
  have BX11 := Aside0.mk (blk_below BX9.out HL11.out)
  have HD11 := Aside0.mk (Kd.R_below HD9.out HL11.out)
  have HX11 := Aside0.mk (Kd.C_below HX9.out HL11.out)
  clear hG hI hz hb HSR10 u0 u1 o0 o1 BX9 HX9 HG10
  have d0 := (blk_cell BD11.out 0).trans rfl
  have d1 := (blk_cell BD11.out 1).trans rfl
  have x0 := (blk_cell BX11.out 0).trans rfl
  have x1 := (blk_cell BX11.out 1).trans rfl
  have dne : (dE l k != dE l k) = false := by simp
  have ene : (er != er) = false := by simp
  have lne : ((gs.length : Int) != (gs.length : Int)) = false := by simp
  go_wp2_with fail
  refine (same_cU (dK s l k) Ad cd Ax cx (dL l k) w11 (Kd.R_reads' HD11.out).2.2 hcd HX11.out hcx).mono ?_
  rintro e w12 ⟨rfl, hb⟩
  have HG12 := Aside0.mk (HG11.out.below hb)
  have HH12 := Aside0.mk (HH11.out.below hb)
  have HL12 := Aside0.mk (below_then HL11.out HL11.out.size hb)
  clear hb d0 d1 x0 x1 BD11 BX11 HD11 HX11 HG11 HH11 HL11
  go_wp2_with fail
  have HK1 := Aside0.mk HG12.out.key
  have HK2 := Aside0.mk HH12.out.key
  have HN1 := Aside0.mk HG12.out.len
  have HN2 := Aside0.mk HH12.out.len
  have HQ1 := Aside0.mk HG12.out.row
  have HQ2 := Aside0.mk HH12.out.row
  have HS1 : Aside0 (∀ (j : Nat) (h : Hd) (g : Grp), 0 ≤ j → hs[j]? = some h → gs[j]? = some g → RS w12 h.2 g.f1) := ⟨fun j h g _ h1 h2 => HG12.out.all h1 h2⟩
  have HS2 : Aside0 (∀ (j : Nat) (h : Hd) (g : Grp), hs2[j]? = some h → gs[j]? = some g → RS w12 h.2 g.f1) := ⟨fun j h g h1 h2 => HH12.out.all h1 h2⟩
  clear HG12 HH12
  go_loopw [17] (fun v17 wr => ∃ n : Nat, n ≤ gs.length ∧ v17 = .int .i64 n ∧ Aside0 (kH.Q 24 wr B0 (fun _ => True) (.slice Av gs.length cv) hs) ∧ Aside0 (kH.Q 24 wr C0 (fun _ => True) (.slice Aw gs.length cw) hs2) ∧ Aside0 (∀ (j : Nat) (h : Hd) (g : Grp), n ≤ j → hs[j]? = some h → gs[j]? = some g → RS wr h.2 g.f1) ∧ Aside0 (∀ (j : Nat) (h : Hd) (g : Grp), hs2[j]? = some h → gs[j]? = some g → RS wr h.2 g.f1) ∧ Aside0 (Below w9.heap.size w9 wr)) (fun v17 _ => gs.length - (intOf v17).toNat)
  case atStart => exact ⟨0, by omega, rfl, HQ1, HQ2, HS1, HS2, HL12⟩
  case round =>
    obtain ⟨n, hn, rfl, HR1, HR2, HE1, HE2, HLR⟩ := hrel
    obtain ⟨w13, rfl⟩ : ∃ w13 : World, w13 = wr := ⟨_, rfl⟩
    clear HQ1 HQ2 HS1 HS2
    by_cases hnl : n < gs.length
    · have hn64 : IntKind.i64.wrap ((n : Int) + 1) = (n : Int) + 1 := i64w (by omega) (by omega)
      have hni : (n : Int) < (gs.length : Int) := by omega
      have HNI := Aside0.mk (show n + 1 ≤ gs.length by omega)
      have HMM : Aside0 (gs.length - (n + 1) < gs.length - n) := ⟨by omega⟩
      obtain ⟨g, hg⟩ : ∃ g, gs[n]? = some g := ⟨_, List.getElem?_eq_getElem hnl⟩
      obtain ⟨h1, hh1⟩ : ∃ h, hs[n]? = some h := ⟨hs[n]'(by have := HN1.out; omega), by simp⟩
      obtain ⟨h2, hh2⟩ : ∃ h, hs2[n]? = some h := ⟨hs2[n]'(by have := HN2.out; omega), by simp⟩
      have rs1 := HE1.out n h1 g (Nat.le_refl _) hh1 hg
      have rs2 := HE2.out n h2 g hh2 hg
      have k1 := HK1.out n h1 g hh1 hg
      have k2 := HK2.out n h2 g hh2 hg
      obtain ⟨b1, o1, e1, hb1, y0, y1⟩ := Qh_both HR1.out hh1
      obtain ⟨b2, o2, e2, hb2, z0, z1⟩ := Qh_both HR2.out hh2
      subst e1 e2
      obtain ⟨hg0, hga⟩ := HGN.out _ (List.mem_of_getElem? hg)
      obtain ⟨hk1, hA1, hn1, hc1⟩ := h1
      obtain ⟨hk2, hA2, hn2, hc2'⟩ := h2
      obtain ⟨gk, gr⟩ := g
      dsimp only at k1 k2 y0 y1 z0 z1 hg0 hga
      obtain rfl : hn1 = gr.length := rs1.n
      obtain rfl : hn2 = gr.length := rs2.n
      subst k1
      subst k2
      obtain ⟨ad, hA, _⟩ := rs1.C.2.2 hg0
      dsimp only at hA
      subst hA
      obtain ⟨b, cells, e, hcl⟩ := rs1.own ad rfl
      subst e
      have hB0b := HI10.out.ge n _ _ hh1 rfl
      have hb10 := HLT.out n _ _ hh1 rfl
      have HBB0 := Aside0.mk hB0b
      have HB10 := Aside0.mk hb10
      have HH1 := Aside0.mk hh1
      have HGG := Aside0.mk hg
      have HSZ := Aside0.mk (fun j hj => RS_lt rs1 hcl (j := j) hj)
      have hne1 : b1 ≠ b := fun he => by
        obtain ⟨c3, hc3⟩ := Kd.Q_typed HR1.out b1 rfl
        rw [he, hcl] at hc3
        injection hc3 with hc3
        injection hc3 with _ hc3 _
        exact absurd hc3 (by decide)
      have HNE := Aside0.mk hne1
      have hne2 : Aside0 (∀ ad, hA2 = some ad → C0 ≤ ad.block) := ⟨fun ad ha => HJ11.out.ge n _ ad hh2 ha⟩
      have SA := Aside0.mk (same_cU hk2 (some ⟨b, 0, none⟩) hc1 hA2 hc2' gr w13.drew (C_drew rs1.C) rs1.c (C_drew rs2.C) rs2.c)
      have HCL := Aside0.mk hcl
      clear rs1 rs2 hh1 hh2 hg hcl hB0b hb10 hne1 hb1 hb2
      go_upto_region 14 with fail
      go_region_held3 (fun W => W.cell? ⟨b1, o1 + n * 2, none⟩ = some (.string hk2) ∧ W.cell? ⟨b1, o1 + n * 2 + 1, none⟩ = some (.slice (some ⟨b, 0, none⟩) gr.length hc1) ∧ W.cell? ⟨b2, o2 + n * 2, none⟩ = some (.string hk2) ∧ W.cell? ⟨b2, o2 + n * 2 + 1, none⟩ = some (.slice hA2 gr.length hc2'))
        (first | exact ⟨j0, j1, j2, j3⟩ | exact ⟨y0, y1, z0, z1⟩)
        (first | (go_at_call 15; with_reducible refine SA.out.mono ?_; rintro e w14 ⟨rfl, hb⟩; have hb := below_of_drew hb; have HX14 := Aside0.mk hb; have j0 := pw_cell_below hb y0; have j1 := pw_cell_below hb y1; have j2 := pw_cell_below hb z0; have j3 := pw_cell_below hb z1; clear hb))
      all_goals (
        clear y0 y1 z0 z1 j0 j2 j3
        have HR1' := Aside0.mk (Kd.Q_below HR1.out HX14.out)
        have HR2' := Aside0.mk (Kd.Q_below HR2.out HX14.out)
        have HE1' : Aside0 (∀ (j : Nat) (h : Hd) (g : Grp), n ≤ j → hs[j]? = some h → gs[j]? = some g → RS w14 h.2 g.f1) := ⟨fun j h g h1 h2 h3 => (HE1.out j h g h1 h2 h3).below HX14.out⟩
        have HE2' : Aside0 (∀ (j : Nat) (h : Hd) (g : Grp), hs2[j]? = some h → gs[j]? = some g → RS w14 h.2 g.f1) := ⟨fun j h g h1 h2 => (HE2.out j h g h1 h2).below HX14.out⟩
        have HL14 := Aside0.mk (below_then HLR.out HLR.out.size HX14.out)
        have HC14 := Aside0.mk (blk_below HCL.out HX14.out)
        clear HR1 HR2 HE1 HE2 HLR HX14 HCL SA
        go_wp2_with fail
        go_loopw [18] (fun v18 wr => ∃ j : Nat, j ≤ gr.length ∧ v18 = .int .i64 j ∧ Aside0 (∃ cs' : Array Value, wr.heap[b]? = some (.cells cs' 3 (0, 0)) ∧ cs'.size = cells.size) ∧ Aside0 (Kept w14 wr (fun k => k = b)) ∧ Aside0 (Below B0 w14 wr)) (fun v18 _ => gr.length - (intOf v18).toNat)
        case atStart => exact ⟨0, by omega, rfl, ⟨_, HC14.out, rfl⟩, ⟨Kept.refl _ _⟩, ⟨Below.refl _ _⟩⟩
        case round =>
          obtain ⟨j, hj, rfl, HCS, HKK, HBK⟩ := hrel
          obtain ⟨w15, rfl⟩ : ∃ w15 : World, w15 = wr := ⟨_, rfl⟩
          have y2 := cell_keptU j1 HKK.out HNE.out
          by_cases hjl : j < gr.length
          · obtain ⟨cs', hcs, hsz⟩ := HCS.out
            have hjc : j < cs'.size := by rw [hsz]; exact HSZ.out j hjl
            have cu : w15.cell? ⟨b, j, none⟩ = some cs'[j] := by rw [blk_cell hcs]; exact Array.getElem?_eq_getElem hjc
            have fu := blk_frozen hcs j
            obtain ⟨cs2, h1, h2⟩ := setU hcs (j := j) (.int .i64 99)
            have HS2 : Aside0 (∃ cs' : Array Value, (w15.setCell ⟨b, j, none⟩ (.int .i64 99)).heap[b]? = some (.cells cs' 3 (0, 0)) ∧ cs'.size = cells.size) := ⟨cs2, h1, h2.trans hsz⟩
            have HK2' := Aside0.mk (HKK.out.setCell (p := ⟨b, j, none⟩) (.inl rfl) (.int .i64 99))
            have HB2' := Aside0.mk (HBK.out.setCell (p := ⟨b, j, none⟩) HBB0.out (.int .i64 99))
            generalize cs'[j] = cv at cu
            have hj64 : IntKind.i64.wrap ((j : Int) + 1) = (j : Int) + 1 := i64w (by omega) (by omega)
            have hji : (j : Int) < (gr.length : Int) := by omega
            clear hcs hsz hjc h1 h2
            go_wp2
            exact ⟨⟨j + 1, by omega, by go_num, HS2, HK2', HB2'⟩, by simp [intOf]; omega⟩
          · have HRA := Aside0.mk (q_keepU HR1'.out HC14.out EHI HKK.out)
            have HRB := Aside0.mk (q_keepU HR2'.out HC14.out EHI HKK.out)
            have HEA : Aside0 (∀ (j : Nat) (h : Hd) (g : Grp), n + 1 ≤ j → hs[j]? = some h → gs[j]? = some g → RS w15 h.2 g.f1) := ⟨fun j h g hj h1 h2 => (HE1'.out j h g (by omega) h1 h2).kept HKK.out (fun ad ha he => by
              have := HI10.out.inc n j _ h ⟨b, 0, none⟩ ad (by omega) HH1.out h1 rfl ha
              rw [he] at this
              exact Nat.lt_irrefl _ this)⟩
            have HEB : Aside0 (∀ (j : Nat) (h : Hd) (g : Grp), hs2[j]? = some h → gs[j]? = some g → RS w15 h.2 g.f1) := ⟨fun j h g h1 h2 => (HE2'.out j h g h1 h2).kept HKK.out (fun ad ha he => by
              have h3 := HJ11.out.ge j h ad h1 ha
              have h4 : b < w10.heap.size := HB10.out
              have h5 := HZ11.out
              rw [he] at h3
              omega)⟩
            have HLB := Aside0.mk (HL14.out.trans (HBK.out.mono HZ10.out))
            go_wp2
            exact ⟨⟨n + 1, HNI.out, by go_num, HRA, HRB, HEA, HEB, HLB⟩, by simp [intOf]; have := HMM.out; omega⟩)
    · obtain rfl : n = gs.length := by omega
      have HL13 := Aside0.mk (below_then HL9.out HL9.out.size HLR.out)
      have HD13 := Aside0.mk (Kd.R_below HD9.out HLR.out)
      have BD13 := Aside0.mk (blk_below BD9.out HLR.out)
      clear HR1 HR2 HE1 HE2 HLR
      have HNX := Aside0.mk (Kd.R_ne HD13.out BD13.out (by decide))
      have HXL := Aside0.mk hdl
      generalize dL l k = dl at HD13 BD13 HXL ⊢
      obtain ⟨dn, hdn⟩ : ∃ dn, dn = dl.length := ⟨_, rfl⟩
      have HDN : Aside0 (dl.length = dn) := ⟨hdn.symm⟩
      rw [← hdn] at HD13 BD13 HXL ⊢
      clear hdn
      go_wp2_with fail
      go_loopw [19] (fun v19 wr => ∃ (j : Nat) (xs : List Int), j ≤ dn ∧ v19 = .int .i64 j ∧ Aside0 (xs.length = dn) ∧ Aside0 (Kd.R (Kd.int .i64) 3 wr w5.heap.size (fun _ => True) (.slice Ad dn cd) xs) ∧ Aside0 (wr.heap[bdx]? = some (.cells #[.string (dK s l k), .slice Ad dn cd] 24 (0, 0))) ∧ Aside0 (Below w5.heap.size w5 wr)) (fun v19 _ => dn - (intOf v19).toNat)
      case atStart => exact ⟨0, dl, by omega, rfl, HDN, HD13, BD13, HL13⟩
      case round =>
        obtain ⟨j, xs, hj, rfl, HX, HN8, HBX, HB8⟩ := hrel
        obtain ⟨w15, rfl⟩ : ∃ w15 : World, w15 = wr := ⟨_, rfl⟩
        have x1 : w15.cell? ⟨bdx, 1, none⟩ = some (.slice Ad dn cd) := (blk_cell HBX.out 1).trans rfl
        by_cases hjl : j < dn
        · obtain ⟨bu, cu, hav, hbu, _, _⟩ := Kd.R_form HN8.out (by have := HX.out; omega)
          injection hav with h1 h2 h3
          subst h1
          have hR9 := HN8.out
          rw [← HX.out] at hR9
          have hcf := Kd.R_cell (0 : Int) hR9 (j : Int) (by omega) (by have := HX.out; omega)
          have hpt := (Kd.R_put hR9 (j : Int) (99 : Int)).1
          rw [Int.toNat_natCast] at hcf hpt
          have hcu := hcf.1
          have hfu := hcf.2
          rw [HX.out] at hpt
          have HP9 := Aside0.mk hpt
          have HX9' : Aside0 ((xs.set j 99).length = dn) := ⟨by rw [List.length_set]; exact HX.out⟩
          have hxb : bdx ≠ bu := fun he => HNX.out (by rw [he]; rfl)
          have HBX9 := Aside0.mk (blk_far HBX.out (p := ⟨bu, j, none⟩) hxb (.int .i64 99))
          have HB9 := Aside0.mk (HB8.out.setCell (p := ⟨bu, j, none⟩) hbu (.int .i64 99))
          have hj64 : IntKind.i64.wrap ((j : Int) + 1) = (j : Int) + 1 := i64w (by omega) (by have := HXL.out; omega)
          have hji : (j : Int) < (dn : Int) := by omega
          clear hR9 hcf hpt h2 h3 hxb
          go_wp2
          exact ⟨⟨j + 1, _, by omega, by go_num, HX9', HP9, HBX9, HB9⟩, by simp [intOf]; omega⟩
        · have HO15 := Aside0.mk (Kd.C_below HO5.out HB8.out)
          have HA15 := Aside0.mk (Kd.C_below HAW.out (below_then HB5.out HB5.out.size HB8.out))
          go_wp2_with fail
          go_loopw [20] (fun v20 wr => ∃ j : Nat, j ≤ asks.length ∧ v20 = .int .i64 j ∧ Aside0 (Below w15.heap.size w15 wr)) (fun v20 _ => asks.length - (intOf v20).toNat)
          case atStart => exact ⟨0, by omega, rfl, ⟨Below.refl _ _⟩⟩
          case round =>
            obtain ⟨q, hq, rfl, HLQ⟩ := hrel
            obtain ⟨w16, rfl⟩ : ∃ w16 : World, w16 = wr := ⟨_, rfl⟩
            by_cases hql : q < asks.length
            · obtain ⟨aA, hAA, a0, a1⟩ := at_T40 (Kd.C_below HA15.out HLQ.out) (q : Int) (by omega) (by omega)
              obtain ⟨aO, hAO, b0, b1⟩ := at_T40 (Kd.C_below HO15.out HLQ.out) (q : Int) (by omega) (by omega)
              rw [Int.toNat_natCast] at a0 a1 b0 b1
              subst hAA
              subst hAO
              generalize rd_T40 asks (q : Int) = x at a0 a1 b0 b1
              obtain ⟨xc, xk⟩ := x
              dsimp only at a0 a1 b0 b1
              have hq64 : IntKind.i64.wrap ((q : Int) + 1) = (q : Int) + 1 := i64w (by omega) (by omega)
              have hqi : (q : Int) < (asks.length : Int) := by omega
              go_wp2_with fail
              go_quiet (fail)
              go_wp2
              exact ⟨⟨q + 1, by omega, by go_num, ⟨pw_below_drewN HLQ.out _⟩⟩, by simp [intOf]; omega⟩
            · have hb16 := below_then HB8.out HB8.out.size HLQ.out
              have BM16 := blk_below BM5.out hb16
              have m0 : w16.cell? ⟨bm, 0, none⟩ = some (.string s) := (blk_cell BM16 0).trans rfl
              have m1 : w16.cell? ⟨bm, 1, none⟩ = some (.slice Am l.length cm) := (blk_cell BM16 1).trans rfl
              have g0 := pw_cell_below hb16 s0
              have g1 := pw_cell_below hb16 s1
              have HS := Aside0.mk (same_cU s Am cm A c l w16 (Kd.C_below HM5.out hb16) hcm (Kd.C_below HRW.out (below_then HB5.out HB5.out.size hb16)) hc)
              have HF := Aside0.mk (below_then HB5.out HB5.out.size hb16)
              clear hb16 BM16
              go_wp2_with fail
              refine HS.out.mono ?_
              rintro e w17 ⟨rfl, hb⟩
              have HFF := Aside0.mk (below_then HF.out HF.out.size hb)
              clear hb
              go_wp2
              go_ret
              exact ⟨rfl, HFF.out⟩
end Go.Proofs.YtkifmhfgplhabaaDoor.HQ

namespace Go.Proofs.YtkifmhfgplhabaaDoor.groupSplits
open Go.ChangeShapes Go.WideShapes Go.ChangeAt Go.RowKit Go.Joins
open Go.ChangeMaps (open_string shut_string)
set_option linter.unusedVariables false
theorem own : ownKnob Tryd.prog.godebug = none := by kernel_rfl
theorem laidOut : laidOutB Tryd.prog = true := by kernel_rfl
theorem cellsG : Tryd.prog.cellsOf 24 = 2 := by kernel_rfl
set_option maxRecDepth 100000 in
theorem lifted (os : Os) (started : os.Started) (H : Type) (enc : TypeId × Value → H) :
    ReturnsInHanded {} Tryd.checked os 3 .any (fun w args => (Rows.groupSplitsSpec.pre enc Tryd.prog Tryd.f3 [] false w args ∧ laidMetH Tryd.prog HR.laid3 w) ∧ sizedMet enc Tryd.prog Tryd.f3 (OpenSpec.ofChange Rows.groupSplitsSpec) false w args)
      (Rows.groupSplitsSpec.post enc Tryd.prog Tryd.f3 false true false false) := by
  refine returnsInHanded_of_change_and (C := Tryd.checked) (X := fun w _ => laidMetH Tryd.prog HR.laid3 w) (fun _ _ _ hh h => h.of_heap hh) own started (by kernel_rfl) Tryd.func3
    (ChangeSpec.witness_shaped (enc := enc) (C := Tryd.checked) (os := os) (X := fun w _ => laidMetH Tryd.prog HR.laid3 w) false (World.doorLaid Tryd.prog 24 os) #[.agg #[.string ⟨#[]⟩, .slice none 0 0], .int .i64 0, .slice none 0 0] 8 rfl (World.shaped_of_RefB (by kernel_rfl) (by kernel_rfl)) (by kernel_rfl) (by kernel_rfl) (by kernel_rfl) (HR.door_met os _)) ?_
  intro W base args ds gs before hval0 hW _ _ hL _
  have hval : ∀ (j : Nat) t v, Tryd.f3.params[j]? = some t → args[j]? = some v → Value.okWide Tryd.prog W .any base t v := hval0
  have hW' := hW
  obtain ⟨p, q, hA0, hV, rfl, hfz, hnd⟩ := hW
  have hA : DataW.TrodAll enc Tryd.prog W 0 (fun _ => true) true Tryd.f3.params.toList args.toList ds p := hA0
  rw [Tryd.params3] at hA hval
  obtain ⟨v0, vs0, d0, ds0, p0, q0, hargs, rfl, rfl, h0, r0⟩ := trodAll_cons hA
  obtain ⟨v1, vs1, d1, ds1, p1, q1, rfl, rfl, rfl, h1, r1⟩ := trodAll_cons r0
  obtain ⟨v2, vs2, d2, ds2, p2, q2, rfl, rfl, rfl, h2, r2⟩ := trodAll_cons r1
  obtain ⟨rfl, rfl, rfl⟩ := trodAll_nil r2
  obtain rfl : args = #[v0, v1, v2] := by cases args; simp_all
  obtain ⟨rfl, rfl⟩ := trodVars_none hV
  have k0 := h0
  have lt0 : ∀ x ∈ p0, x.block < W.heap.size := by obtain ⟨m, hm⟩ := k0; exact DataW.trod_lt m _ _ _ hm
  obtain ⟨c00, c10, y00, y10, m0, rfl, rfl, rfl, hy00, hy10⟩ := open_agg2 Tryd.underlying24 (by kernel_rfl) cellsG (hval 0 24 v0 rfl rfl) h0
  obtain ⟨s0, hs10, hs20, hs30⟩ := DataW.trod_string Tryd.underlying9 hy00
  obtain rfl : c00 = .string s0 := by simpa using hs10
  obtain ⟨a0, cc0, ys0, hs40, hyc0, hyr0⟩ := HR.open_ints_kd hy10
  obtain rfl : c10 = .slice a0 ys0.length cc0 := by simpa using hs40
  have k1 := h1
  have lt1 : ∀ x ∈ p1, x.block < W.heap.size := by obtain ⟨m, hm⟩ := k1; exact DataW.trod_lt m _ _ _ hm
  obtain ⟨n1, rfl, _, _, w1⟩ := open_int Tryd.underlying3 (hval 1 3 v1 rfl rfl) h1
  have k2 := h2
  have lt2 : ∀ x ∈ p2, x.block < W.heap.size := by obtain ⟨m, hm⟩ := k2; exact DataW.trod_lt m _ _ _ hm
  obtain ⟨a2, l2, c2, rfl⟩ := okWide_slice Tryd.underlying25 (hval 2 25 v2 rfl rfl)
  obtain ⟨xs2, rfl, hc2, hr2, hx2⟩ := HR.open_asks h2
  have hT := HR.tab_of_laid hL
  clear hA0 hval0 hL
  refine (HQ.splits_c s0 a0 cc0 ys0 n1 a2 c2 xs2 W hyr0 hyc0 (HR.rng_of w1) hr2 hc2 hx2 hT).mono fun e W' ⟨he, bel⟩ => ?_
  subst he
  exact ⟨_, rfl, _, _, _, [], _, [], hW', trodAll_mk1 (shut_bool Tryd.underlying4 _), (trodAll_cons_mk (Below.trod laidOut (by kernel_rfl) (of_decide_eq_true (by kernel_rfl)) k0 bel lt0) (trodAll_cons_mk (Below.trod laidOut (by kernel_rfl) (of_decide_eq_true (by kernel_rfl)) k1 bel lt1) (trodAll_cons_mk (Below.trod laidOut (by kernel_rfl) (of_decide_eq_true (by kernel_rfl)) k2 bel lt2) trodAll_mk0))), rfl, bel.frame _, fun h => by cases h⟩
theorem proved : Rows.GroupSplitsSaid :=
  OpenClaim.holds_of_wide 3 Tryd.f3 rfl rfl rfl rfl rfl rfl rfl ⟨rfl, rfl, rfl, rfl, rfl⟩ rfl rfl rfl rfl rfl (by kernel_rfl) Tryd.func3 (by kernel_rfl)
    (of_decide_eq_true (by kernel_rfl)) (by unfold Func.isWrapper; first | (rw [if_pos (by decide +kernel)]; kernel_rfl) | (rw [if_neg (by decide +kernel)]; exact ⟨rfl, rfl⟩))
    (fun os started H enc _ => lifted os started H enc)
theorem whole : Rows.GroupSplitsCardSaid :=
  Claim7.holds_tied_plain_at .later [] [.data, .data, .data] true Rows.groupSplitsCard.stood.harness Rows.groupSplitsCard.stood.looks
    proved (fun _ h => by cases h) (by kernel_rfl) (fun _ h => by cases h) groupSplits_row_tie rfl ⟨rfl, rfl⟩ (by kernel_rfl) rfl
    (fun f fn hf hfn => by
      obtain rfl : f = 3 := Option.some.inj ((show Tryd.prog.funcNamed "dispatcher/dispatcherlaw11.GroupSplits" = some 3 by kernel_rfl).symm.trans hf) |>.symm
      obtain rfl : fn = Tryd.f3 := (Option.some.inj (Tryd.func3.symm.trans hfn)).symm
      exact ⟨by kernel_rfl, fun j t ht => by
        rw [Tryd.params3] at ht
        have hm : t ∈ [24, 3, 25] := by simpa using Array.mem_of_getElem? ht
        have hall : ([24, 3, 25].all fun u => !Tryd.prog.wantsStandIn u) = true := by kernel_rfl
        exact (show Tryd.prog.wantsStandIn t = false by simpa using List.all_eq_true.1 hall t hm)⟩)
    (by kernel_rfl)
end Go.Proofs.YtkifmhfgplhabaaDoor.groupSplits
namespace Go.Proofs.YtkifmhfgplhabaaDoor
/-- The card, under a short name, for the claim. -/
theorem groupSplits_holds : Rows.GroupSplitsCardSaid := groupSplits.whole
end Go.Proofs.YtkifmhfgplhabaaDoor
