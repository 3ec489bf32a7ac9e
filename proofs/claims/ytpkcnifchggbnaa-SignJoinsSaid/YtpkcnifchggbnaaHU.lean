/-
  SMALL HELPERS OF THE WALKS BY HAND: what a call keeps of what was read before it; rows, draws. No program is walked here.
-/
import Derived.Test.YtpkcnifchggbnaaHW
import Derived.WalkMore
import Derived.Deep.RegionLaw
namespace Go.Proofs.Ytpkcnifchggbnaa.HU
open Go.RowKit Go.Proofs.YtpkcnifchggbnaaW.PrintWords Go.Proofs.YtpkcnifchggbnaaW.PrintLast Go.Proofs.YtpkcnifchggbnaaW.PrintMore
set_option linter.unusedVariables false
theorem ret_int {k : IntKind} {a b : Int} (h : a = b) : Ending.returned (.int k a) = .returned (.int k b) := by rw [h]
theorem ret_bool {a b : Bool} (h : a = b) : Ending.returned (.bool a) = .returned (.bool b) := by rw [h]
theorem keep_call {wr w' : World} (hb : Below wr.drew.heap.size wr.drew w') {p : Addr} {v : Value} (h : wr.cell? p = some v) : w'.cell? p = some v := pw_cell_below hb h
theorem keep_alloc {wr w' : World} (hb : Below wr.drew.heap.size wr.drew w') (o : Obj) {p : Addr} {v : Value} (h : wr.cell? p = some v) : (w'.alloc o).cell? p = some v :=
  pw_cell_below (below_alloc (w := wr.drew) hb o) h
theorem keep_call2 {wr w' : World} {o : Obj} (hb : Below (wr.alloc o).drew.heap.size (wr.alloc o).drew w') {p : Addr} {v : Value} (h : wr.cell? p = some v) : w'.cell? p = some v :=
  pw_cell_below hb (show (wr.alloc o).drew.cell? p = some v from pw_cell_below (below_alloc (Below.refl wr.heap.size wr) o) h)
theorem keep_blk {wr w' : World} {o : Obj} (hb : Below (wr.alloc o).drew.heap.size (wr.alloc o).drew w') : w'.heap[wr.heap.size]? = some o :=
  blk_below (w := (wr.alloc o).drew) (show (wr.alloc o).drew.heap[wr.heap.size]? = some o from blk_new wr o) hb
theorem below_drew1 {B : Nat} {w W : World} (h : Below B w W) : Below B w W.drew := below_drew h
/-- what a call made in a drawn world has left -/
theorem below_of_drew {w w' : World} (hb : Below w.drew.heap.size w.drew w') : Below w.heap.size w w' := below_then (w1 := w.drew) (below_drew (Below.refl _ _)) (Nat.le_refl _) hb
theorem C_drew {α : Type} {d : Kd α} {w : World} {A : Option Addr} {n : Nat} {xs : List α} (h : d.C w A n xs) : d.C w.drew A n xs := Kd.C_below h (below_drew (Below.refl _ _))
theorem C_drewN {α : Type} {d : Kd α} {w : World} {A : Option Addr} {n : Nat} {xs : List α} (h : d.C w A n xs) (m : Nat) : d.C (w.drewN m) A n xs := Kd.C_below h (pw_below_drewN (Below.refl _ _) m)
theorem snoc_cases {α : Type} (l : List α) : l = [] ∨ ∃ t x, l = t ++ [x] := by
  rcases List.eq_nil_or_concat l with h | ⟨t, x, h⟩
  · exact .inl h
  · exact .inr ⟨t, x, by rw [h, List.concat_eq_append]⟩
theorem cell_alloc1 {w : World} {p : Addr} {v : Value} (h : w.cell? p = some v) (o1 : Obj) : (w.alloc o1).cell? p = some v := pw_cell_below (below_alloc (Below.refl _ _) o1) h
theorem cell_alloc2 {w : World} {p : Addr} {v : Value} (h : w.cell? p = some v) (o1 o2 : Obj) : ((w.alloc o1).alloc o2).cell? p = some v := cell_alloc1 (cell_alloc1 h o1) o2
theorem cell_alloc3 {w : World} {p : Addr} {v : Value} (h : w.cell? p = some v) (o1 o2 o3 : Obj) : (((w.alloc o1).alloc o2).alloc o3).cell? p = some v := cell_alloc1 (cell_alloc2 h o1 o2) o3
theorem blk_second (w : World) (a b : Obj) : ((w.alloc a).alloc b).heap[w.heap.size + 1]? = some b := by
  have := blk_new (w.alloc a) b
  rwa [World.size_alloc] at this
theorem blk_mid (w : World) (a b c : Obj) : (((w.alloc a).alloc b).alloc c).heap[w.heap.size + 1]? = some b := blk_alloc (blk_second w a b) c
theorem below_alloc2 (w : World) (a b : Obj) : Below w.heap.size w ((w.alloc a).alloc b) := below_alloc (below_alloc (Below.refl _ _) a) b
theorem below_alloc3 (w : World) (a b c : Obj) : Below w.heap.size w (((w.alloc a).alloc b).alloc c) := below_alloc (below_alloc2 w a b) c
theorem i64w {x : Int} (h : -9223372036854775808 ≤ x) (h' : x ≤ 9223372036854775807) : IntKind.i64.wrap x = x := IntWalk.i64_in _ ⟨h, h'⟩
/-- a row's elements, as made -/
theorem Q_rowsM {α : Type} {d : Kd α} {e : Nat} {w : World} {base : Nat} {ok : Nat → Prop} {A : Option Addr} {n c : Nat} {xs : List α} (h : d.Q e w base ok (.slice A n c) xs) :
    ReadsRow (d.M w base (fun k => (ok k ∧ some k ≠ (Value.slice A n c).ownBlock) ∧ k < w.heap.size)) d.sz w A n xs := by
  have hb := Kd.Q_bound h
  obtain ⟨_, inner, ho, hr⟩ := h
  obtain ⟨A', c', he, hl⟩ := q_slice ho
  injection he with h1 h2 h3
  subst h1; subst h2; subst h3
  refine ⟨rfl, q_max ho, fun hp => ?_⟩
  obtain ⟨ad, ha, hc⟩ := q_cells ho hp
  refine ⟨ad, ha, fun j p hj => ⟨(inner.drop (j * d.sz)).take d.sz, ?_, d.M_mono (fun k hk => ⟨hk.1, hk.2.2.1⟩) (d.M_bound (hr.2 j p hj)), fun i u hu => ?_⟩⟩
  · have hjl := (List.getElem?_eq_some_iff.1 hj).1
    have h1 : j * d.sz + d.sz ≤ inner.length := by rw [hr.1, ← Nat.succ_mul]; exact Nat.mul_le_mul_right _ hjl
    rw [List.length_take, List.length_drop]
    omega
  · refine hc _ u ?_
    rw [List.getElem?_take] at hu
    split at hu
    · rw [List.getElem?_drop] at hu
      exact hu
    · cases hu
theorem R_none {α : Type} (d : Kd α) (e : Nat) (w : World) (base : Nat) (ok : Nat → Prop) (hb : base ≤ w.heap.size) (hok : ok w.heap.size) : d.R e (w.alloc (.cells #[] e)) base ok (.slice (some ⟨w.heap.size, 0, none⟩) 0 0) [] :=
  ⟨fun k hk => by
    have : w.heap.size = k := by simpa [Value.ownBlock] using hk
    exact this ▸ hok, [], ⟨by simp, .inr ⟨w.heap.size, 0, #[], rfl, hb, by simpa using heap_alloc_new w _, Nat.le_refl _, Nat.zero_le _, by simp, by simp⟩⟩, Reps.none _ _⟩
theorem ownB {g o n c k : Nat} (h : (Value.slice (some ⟨g, o, none⟩) n c).ownBlock = some k) : g = k := by simpa [Value.ownBlock] using h
/-- where a step goes to, said of a list of one operation -/
def Ends (K : Act → World → Prop) (Q : Exit → Act → World → Prop) (e : Exit) (a : Act) (w : World) : Prop :=
  match e with
  | .normal => K a w
  | .outgrown => False
  | e => Q e a w
/-- A LAW ON A LIST OF OPERATIONS IS ONE ON A STEP OF A REGION. -/
theorem step_of_list {P : Program} {ops : Array Oper} {o : Oper} {a : Act} {Q : Exit → Act → World → Prop} {Kc : Act → World → Prop} {W : World} (hw : Region.wanted o (yielded ops a.tmps) = true)
    (h : wpList P ops (Ends Kc Q) [o] a W) : if Region.wanted o (yielded ops a.tmps) = true then Oper.wp P o a W Kc Q else Kc (a.put o.dst undef) W := by
  rw [if_pos hw]
  unfold wpList at h
  rw [if_pos hw] at h
  have hl : ¬ LetsOut (Ends Kc Q) := fun ⟨_, _, h⟩ => h
  have h := h.resolve_right (fun h => hl h.2)
  unfold Oper.wp at *
  generalize (execOp a.eval o).run P W = r at *
  cases r with
  | ok n w' =>
    cases n with
    | value v => exact h
    | skip => exact h
    | defer d => exact h
    | enter f args =>
      refine Calls.mono h ?_
      intro e w2 he
      cases e with
      | returned v => exact he
      | panicked c => exact he
      | outgrown => exact absurd he hl
    | row r args =>
      refine Rows.mono h ?_
      intro v w2 he
      exact he
    | _ => exact h
  | halt hh w' =>
    cases hh with
    | panic v => exact h
    | _ => exact h
theorem keep_calla {w1 w2 : World} {o : Obj} (hb : Below w1.heap.size (w1.drew.alloc o) w2) {p : Addr} {v : Value} (h : w1.cell? p = some v) : w2.cell? p = some v :=
  pw_cell_below ((below_alloc (w := w1) (below_drew (Below.refl _ _)) o).trans hb) h
theorem keep_set {W : World} {g j b i : Nat} {v : Value} (h : W.cell? ⟨b, i, none⟩ = some v) (hne : b ≠ g) (u : Value) : (W.setCell ⟨g, j, none⟩ u).cell? ⟨b, i, none⟩ = some v := by
  have := Below.heap_setCell W ⟨g, j, none⟩ u b hne
  simpa [World.cell?, this] using h
end Go.Proofs.Ytpkcnifchggbnaa.HU
