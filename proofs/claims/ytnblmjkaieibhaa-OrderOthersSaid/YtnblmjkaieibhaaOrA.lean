/-
  CONTRACTS BY HAND (orders, 5): the document's order of a history: which ones happened ahead of which.
-/
import Derived.Test.YtnblmjkaieibhaaOdD
import Derived.Test.YtnblmjkaieibhaaQobasex2
import Derived.Deep.RegionLaw
namespace Go.Proofs.Ytnblmjkaieibhaa.HO
open Go.Proofs.Ytnblmjkaieibhaa.HU Go.RowKit Go.Proofs.Ytnblmjkaieibhaa.HK Go.Proofs.Ytnblmjkaieibhaa.HP Go.Proofs.YtnblmjkaieibhaaW.PrintWords Go.Proofs.YtnblmjkaieibhaaW.PrintLast Go.Proofs.YtnblmjkaieibhaaW.PrintMore
set_option linter.unusedVariables false
set_option linter.unusedSimpArgs false
theorem infoB : (Try.prog.info? 4).map (fun i => (i.zero, i.size, i.bytes)) = some (some (.bool false), 1, 1) := by kernel_rfl
theorem infoBs : (Try.prog.info? 41).map (fun i => (i.zero, i.size, i.bytes)) = some (some (.slice none 0 0), 1, 24) := by kernel_rfl
/-- a row of tests -/
def tab (L : Nat) (f : Nat → Bool) : List Bool := (List.range L).map f
theorem tab_len (L : Nat) (f : Nat → Bool) : (tab L f).length = L := by simp [tab]
theorem tab_rd {L : Nat} {f : Nat → Bool} {k : Nat} (h : k < L) : rdOf false (tab L f) (k : Int) = f k := by simp [rdOf, tab, h]
theorem tab_set {L : Nat} {f : Nat → Bool} (k : Nat) (b : Bool) : (tab L f).set k b = tab L (fun m => if m = k then b else f m) := by
  apply List.ext_getElem
  · simp [tab]
  · intro m h1 h2
    simp only [tab, List.getElem_set, List.getElem_map, List.getElem_range]
    by_cases h : k = m
    · simp [h]
    · simp [h, Ne.symm h]
theorem tab_congr {L : Nat} {f f' : Nat → Bool} (h : ∀ m, m < L → f m = f' m) : tab L f = tab L f' := by
  unfold tab
  refine List.map_congr_left (fun m hm => h m (by simpa using hm))
theorem tab_zero (L : Nat) : List.replicate L false = tab L (fun _ => false) := by
  unfold tab
  induction L with
  | zero => rfl
  | succ n ih => rw [List.replicate_succ', List.range_succ, List.map_append, ← ih]; rfl
/-- an event -/
def ek (l : List Ev_) (i : Nat) : Ev_ := l.getD i z56
theorem ek_eq {l : List Ev_} {i : Nat} (h : i < l.length) : ek l i = l[i] := by simp [ek, h]
/-- those of the same rank that came ahead, as far as k -/
def sameF (l : List Ev_) (i k : Nat) (m : Nat) : Bool := decide (m < k) && decide ((ek l m).f0 = (ek l i).f0)
/-- and the first j of those that it is after -/
def afterF (l : List Ev_) (i j : Nat) (m : Nat) : Bool := sameF l i i m || ((ek l i).f1.take j).any (fun a => a == (m : Int))
/-- and what happened ahead of k, and of all below -/
def dn (A : Nat → Nat → Bool) : Nat → (Nat → Bool) → (Nat → Bool)
  | 0, f => f
  | k + 1, f => dn A k (fun m => f m || (decide (m < k) && (f k && A k m)))
theorem dn_congr {A : Nat → Nat → Bool} {L : Nat} : ∀ (k : Nat) (f f' : Nat → Bool), k ≤ L → (∀ m, m < L → f m = f' m) → ∀ m, m < L → dn A k f m = dn A k f' m
  | 0, f, f', _, h, m, hm => h m hm
  | k + 1, f, f', hk, h, m, hm => dn_congr k _ _ (by omega) (fun m' hm' => by rw [h m' hm', h k (by omega)]) m hm
/-- the rows, as functions -/
def rowsF (l : List Ev_) : Nat → List (Nat → Bool)
  | 0 => []
  | i + 1 => rowsF l i ++ [dn (fun k => (rowsF l i).getD k (fun _ => false)) i (afterF l i (ek l i).f1.length)]
abbrev aH (l : List Ev_) (i : Nat) (k : Nat) : Nat → Bool := (rowsF l i).getD k (fun _ => false)
theorem rowsF_len (l : List Ev_) : ∀ i, (rowsF l i).length = i
  | 0 => rfl
  | i + 1 => by rw [rowsF, List.length_append, rowsF_len l i]; rfl
/-- may it be the event of a number? -/
def vldE (l : List Ev_) (n : Int) (i : Nat) : Bool := decide (0 ≤ (ek l i).f0) && decide ((ek l i).f0 < n) && (ek l i).f1.all (fun a => decide (0 ≤ a) && decide (a < (i : Int)))
/-- the document's order, as it lies -/
abbrev Rr (W : World) (g : Nat) (n : Int) (ranks : List Int) (rows : List (List Bool)) : Prop := Qobase.IsS44 W W g n ranks rows
theorem Rr.below {W W' : World} {g : Nat} {n : Int} {ranks : List Int} {rows : List (List Bool)} (h : Rr W g n ranks rows) (hb : Below W.heap.size W W') : Rr W' g n ranks rows := by
  obtain ⟨A1, c1, A2, c2, h1, h2, h3, h4⟩ := h
  exact ⟨A1, c1, A2, c2, blk_below h1 hb, h2, Kd.C_below h3 hb, Kd.C_below h4 hb⟩
def badH (n : Int) (l : List Ev_) : Prop := n < 1 ∨ 64 < n ∨ 2000 < l.length ∨ ∃ k, k < l.length ∧ vldE l n k = false
def RefPost (B : Nat) (n : Int) (l : List Ev_) (e : Ending) (W' : World) : Prop :=
  (badH n l ∧ e = .returned (.tuple #[.pointer none, .int .i64 2])) ∨
  (¬ badH n l ∧ ∃ g, e = .returned (.tuple #[.pointer (some ⟨g, 0, none⟩), .int .i64 0]) ∧ B ≤ g ∧ Rr W' g n (l.map (·.f0)) ((rowsF l l.length).map (tab l.length)))
/-- the document's maker -/
structure Rm (W : World) (base g : Nat) (n : Int) (vr va : Value) (ranks : List Int) (rows : List (List Bool)) : Prop where
  blk : W.heap[g]? = some (.cells #[.int .i64 n, vr, va] 44 (0, 0))
  hg : base ≤ g
  rks : Kd.R (Kd.int .i64) 3 W base (fun _ => True) vr ranks
  row : Kd.R (Kd.slice 4 Kd.bool) 41 W base (fun _ => True) va rows
theorem Rm.below {W W' : World} {base g : Nat} {n : Int} {vr va : Value} {ranks : List Int} {rows : List (List Bool)} (h : Rm W base g n vr va ranks rows) (hb : Below W.heap.size W W') : Rm W' base g n vr va ranks rows :=
  ⟨blk_below h.blk hb, h.hg, Kd.R_below h.rks hb, Kd.R_below h.row hb⟩
/-- what is below a number stays, though a block behind it is written -/
theorem Rm.kept {W0 W1 W : World} {base g gl : Nat} {n : Int} {vr va : Value} {ranks : List Int} {rows : List (List Bool)} (h : Rm W0 base g n vr va ranks rows) (hb : Below W0.heap.size W0 W1) (hk : Kept W1 W (fun k => k = gl)) (hgl : W0.heap.size ≤ gl) : Rm W base g n vr va ranks rows := by
  have hlt := blk_lt h.blk
  refine ⟨blk_kept (blk_below h.blk hb) hk (by omega), h.hg, Kd.R_mono (Kd.R_kept (Kd.R_below (Kd.R_bound h.rks) hb) hk (fun k hk => by have := hk.2.2.1; omega)) (fun _ _ => trivial), Kd.R_mono (Kd.R_kept (Kd.R_below (Kd.R_bound h.row) hb) hk (fun k hk => by have := hk.2.2.1; omega)) (fun _ _ => trivial)⟩
theorem ek_at {w : World} {A : Option Addr} {l : List Ev_} (h : Kd.C k56 w A l.length l) (i : Nat) (hi : i < l.length) : ∃ ad A1 c1, A = some ad ∧ w.cell? (ad.add (i * 2)) = some (.int .i64 (ek l i).f0) ∧
    w.cell? ⟨(ad.add (i * 2)).block, (ad.add (i * 2)).off + 1, none⟩ = some (.slice A1 (ek l i).f1.length c1) ∧ (ek l i).f1.length ≤ c1 ∧ Kd.C (Kd.int .i64) w A1 (ek l i).f1.length (ek l i).f1 := by
  rw [ek_eq hi]
  exact ev_at h i hi
/-- a row that is made: its block, what it holds; what else there was stays -/
structure Mid (w W2 W : World) (gl cl : Nat) (L : Nat) (f : Nat → Bool) : Prop where
  row : Kd.R Kd.bool 4 W w.heap.size (fun _ => True) (.slice (some ⟨gl, 0, none⟩) L cl) (tab L f)
  kpt : Kept W2 W (fun k => k = gl)
  bel : Below w.heap.size w W
theorem Mid.put {w W2 W : World} {gl cl L : Nat} {f f' : Nat → Bool} (h : Mid w W2 W gl cl L f) (hgl : w.heap.size ≤ gl) (k : Nat) (b : Bool) (hf : ∀ m, m < L → (if m = k then b else f m) = f' m) : Mid w W2 (W.setCell ⟨gl, k, none⟩ (.bool b)) gl cl L f' := by
  have h1 := Kd.R_putn h.row (k : Int) b
  rw [Int.toNat_natCast, tab_set, tab_congr hf] at h1
  exact ⟨h1, h.kpt.setCell (p := ⟨gl, k, none⟩) (.inl rfl) _, h.bel.setCell (p := ⟨gl, k, none⟩) hgl _⟩
theorem Mid.congr {w W2 W : World} {gl cl L : Nat} {f f' : Nat → Bool} (h : Mid w W2 W gl cl L f) (hf : ∀ m, m < L → f m = f' m) : Mid w W2 W gl cl L f' := ⟨by rw [← tab_congr hf]; exact h.row, h.kpt, h.bel⟩
theorem Mid.drew {w W2 W : World} {gl cl L : Nat} {f : Nat → Bool} (h : Mid w W2 W gl cl L f) (m : Nat) : Mid w W2 (W.drewN m) gl cl L f := ⟨Kd.R_drewN h.row m, h.kpt.drewN m, pw_below_drewN h.bel m⟩
theorem Mid.cell {w W2 W : World} {gl cl L : Nat} {f : Nat → Bool} (h : Mid w W2 W gl cl L f) {k : Nat} (hk : k < L) : W.cell? ⟨gl, k, none⟩ = some (.bool (f k)) ∧ W.frozen? ⟨gl, k, none⟩ = false := by
  have h1 := Kd.R_celln false h.row (k : Int) (by omega) (by omega)
  rw [Int.toNat_natCast, tab_rd hk] at h1
  exact h1
theorem sameF_succ {l : List Ev_} {i k m : Nat} (hk : k < i) : sameF l i (k + 1) m = (sameF l i k m || (decide (m = k) && decide ((ek l k).f0 = (ek l i).f0))) := by
  unfold sameF
  by_cases h : m = k
  · subst h
    simp
  · by_cases h2 : m < k
    · simp [h, h2, show m < k + 1 by omega]
    · simp [h, h2, show ¬ m < k + 1 by omega]
theorem afterF_succ {l : List Ev_} {i j m : Nat} (hj : j < (ek l i).f1.length) : afterF l i (j + 1) m = (afterF l i j m || ((ek l i).f1[j] == (m : Int))) := by
  unfold afterF
  rw [List.take_succ_eq_append_getElem hj, List.any_append]
  simp [Bool.or_assoc]
theorem rows_at {W : World} {A : Option Addr} {L : Nat} {fs : List (Nat → Bool)} {xs : List (List Bool)} (hxs : xs = fs.map (tab L)) (h : Kd.C (Kd.slice 4 Kd.bool) W A xs.length xs) (q m : Nat) (hq : q < fs.length) (hm : m < L) :
    ∃ ad c0 ad0, A = some ad ∧ W.cell? (ad.add q) = some (.slice (some ad0) L c0) ∧ W.cell? (ad0.add m) = some (.bool (fs.getD q (fun _ => false) m)) := by
  subst hxs
  obtain ⟨ad, c, e, _, hK, hc0⟩ := Kd.C_get h ([] : List Bool) (q : Int) (by omega) (by simp; omega)
  have hg : (fs.map (tab L)).getD (q : Int).toNat [] = tab L (fs.getD q (fun _ => false)) := by
    rw [Int.toNat_natCast]
    simp [List.getD, hq]
  rw [hg] at hK
  obtain ⟨A0, c0, rfl, hl, hC⟩ := hK
  have h0 := hc0 0 _ rfl
  obtain ⟨ad0, he0, hx⟩ := Kd.at_bool hC (m : Int) (by omega) (by rw [tab_len]; omega)
  rw [tab_rd hm, Int.toNat_natCast] at hx
  subst he0
  rw [tab_len] at h0
  refine ⟨ad, c0, ad0, e, ?_, hx⟩
  simpa [Kd.slice] using h0
/-- one of them is no event -/
theorem bad_of {n : Int} {l : List Ev_} {i : Nat} (hi : i < l.length) (h : vldE l n i = false) : badH n l := .inr (.inr (.inr ⟨i, hi, h⟩))
end Go.Proofs.Ytnblmjkaieibhaa.HO
