/- OrderOthers: whatever comes in, the law answers true, and what came in reads as it did. No condition. -/
import Derived.Test.YtnblmjkaieibhaaHW
import Derived.ProofKit
import Derived.OpenShut
import Derived.ShutString
import Derived.ChangeOld
import Derived.SizedLaws
import Derived.Lib.SmallJoins
import Derived.Deep.Slices
import Derived.Test.YtnblmjkaieibhaaHK
import Derived.Deep.Strs
import Derived.Test.YtnblmjkaieibhaaOfD
import Derived.Test.YtnblmjkaieibhaaOaB
import Derived.Test.YtnblmjkaieibhaaRows
import Derived.WalkKit
import Derived.Below
namespace Go.Proofs.Ytnblmjkaieibhaa.HR
open Go.RowKit Go.Joins Go.ChangeShapes Go.WideShapes Go.Deep Go.Proofs.YtnblmjkaieibhaaW.PrintWords Go.Proofs.YtnblmjkaieibhaaW.PrintLast Go.Proofs.YtnblmjkaieibhaaW.PrintMore
set_option linter.unusedVariables false
section
variable {H : Type} {enc : TypeId × Value → H} {P : Program} {w : World} {sp : Nat → Bool} {held : Bool}
theorem choose_below {α : Type} {p : Nat → α → Prop} : ∀ m, (∀ i, i < m → ∃ x, p i x) → ∃ xs : List α, xs.length = m ∧ ∀ i x, xs[i]? = some x → p i x
  | 0, _ => ⟨[], rfl, fun i x h => by simp at h⟩
  | m + 1, h => by
    obtain ⟨xs, hl, hx⟩ := choose_below m (fun i hi => h i (by omega))
    obtain ⟨x, hp⟩ := h m (by omega)
    refine ⟨xs ++ [x], by simp [hl], fun i y hy => ?_⟩
    by_cases hi : i < m
    · rw [List.getElem?_append_left (by omega)] at hy
      exact hx i y hy
    · rw [List.getElem?_append_right (by omega), hl] at hy
      have : i - m = 0 := by
        cases h : i - m with
        | zero => rfl
        | succ n => rw [h] at hy; simp at hy
      obtain rfl : i = m := by omega
      simp at hy
      exact hy ▸ hp
/-- A SLICE'S READING IS A ROW OF ITS ELEMENTS' KIND. -/
theorem open_kd {α : Type} (d : Kd α) {t e : TypeId} (ht : P.underlying t = some (.slice e)) (hsz : P.cellsOf e = d.sz)
    (hel : ∀ n cs y, cs.length = d.sz → DataW.trod enc P w 0 sp held n e cs = some y → ∃ x, d.K w x cs)
    {fuel : Nat} {v : Value} {x : DataW H × List MemPlace} (h : DataW.trod enc P w 0 sp held fuel t [v] = some x) :
    ∃ A c xs, v = .slice A xs.length c ∧ xs.length ≤ c ∧ d.C w A xs.length xs := by
  rcases open_slice ht h with ⟨hcs, _⟩ | ⟨a, len, cap, m, n, D, Pl, hcs, _, hl, hm, hmm, _, hx⟩
  · obtain rfl : v = .slice none 0 0 := by simpa using hcs
    exact ⟨none, 0, [], rfl, Nat.le_refl _, rfl, by simp, fun h => absurd h (by simp)⟩
  · obtain rfl : v = .slice (some a) len cap := by simpa using hcs
    have hlm : len ≤ m := by rw [hmm]; split <;> omega
    obtain ⟨xs, hxl, hxs⟩ := choose_below (p := fun i x => ∃ c, c.length = d.sz ∧ d.K w x c ∧ ∀ j u, c[j]? = some u → w.cell? (a.add (i * d.sz + j)) = some u) len (fun i hi => by
      obtain ⟨cs', h1, h2⟩ := hx i (by omega)
      obtain ⟨_, hlen, hc⟩ := World.cells?_some h1
      obtain ⟨x, hK⟩ := hel n cs' _ (by omega) h2
      refine ⟨x, cs', by omega, hK, fun j u hu => ?_⟩
      have hj : j < cs'.length := by
        rcases Nat.lt_or_ge j cs'.length with h | h
        · exact h
        · rw [List.getElem?_eq_none h] at hu; exact absurd hu (by simp)
      have := hc j (by omega)
      rw [hsz] at this
      rw [← hu, ← this]
      rw [Addr.add_add])
    have hmx : maxLen = 9223372036854775807 := rfl
    subst hxl
    exact ⟨some a, cap, xs, rfl, hl, rfl, by omega, fun _ => ⟨a, rfl, fun j p hp => hxs j p hp⟩⟩
end
end Go.Proofs.Ytnblmjkaieibhaa.HR

namespace Go.Proofs.Ytnblmjkaieibhaa.HR
open Go.RowKit Go.Joins Go.ChangeShapes Go.WideShapes Go.Deep Go.Proofs.Ytnblmjkaieibhaa.HK Go.Proofs.YtnblmjkaieibhaaW.PrintWords Go.Proofs.YtnblmjkaieibhaaW.PrintLast Go.Proofs.YtnblmjkaieibhaaW.PrintMore
set_option linter.unusedVariables false
section
variable {H : Type} {enc : TypeId × Value → H} {w : World} {sp : Nat → Bool} {held : Bool}
theorem cells_int : Try.prog.cellsOf 3 = 1 := by kernel_rfl
theorem cells_ints : Try.prog.cellsOf 28 = 1 := by kernel_rfl
theorem cells_ev : Try.prog.cellsOf 56 = 2 := by kernel_rfl
theorem open_ints_kd {n : Nat} {v : Value} {y : DataW H × List MemPlace} (h : DataW.trod enc Try.prog w 0 sp held n 28 [v] = some y) :
    ∃ A c xs, v = .slice A xs.length c ∧ xs.length ≤ c ∧ Kd.C (Kd.int .i64) w A xs.length xs :=
  open_kd (Kd.int .i64) Try.underlying28 cells_int (fun n cs y hl hy => by
    match cs, hl with
    | [u], _ =>
      obtain ⟨a, e, _⟩ := DataW.trod_int Try.underlying3 hy
      exact ⟨a, by rw [e]; rfl⟩) h
theorem trod_ev {n : Nat} {cs : List Value} {y : DataW H × List MemPlace} (hl : cs.length = 2) (h : DataW.trod enc Try.prog w 0 sp held n 56 cs = some y) : ∃ x, k56.K w x cs := by
  obtain ⟨ys, n, _, _, _, hlen, hg⟩ := DataW.trod_struct Try.underlying56 h
  match cs, hl with
  | [v0, v1], _ =>
    match ys, hlen with
    | [y0, y1], _ =>
      have g0 : DataW.trod enc Try.prog w 0 sp held n 3 [v0] = some y0 := by simpa [cells_int] using hg 0 _ rfl
      have g1 : DataW.trod enc Try.prog w 0 sp held n 28 [v1] = some y1 := by simpa [cells_ints] using hg 1 _ rfl
      obtain ⟨r, e0, _⟩ := DataW.trod_int Try.underlying3 g0
      obtain ⟨A, c, xs, rfl, hc, hr⟩ := open_ints_kd g1
      simp only [List.cons.injEq, and_true] at e0
      subst e0
      exact ⟨⟨r, xs⟩, k56_mk w ⟨r, xs⟩ hc hr⟩
theorem open_events {a : Option Addr} {len cap : Nat} {d : DataW H} {p : List MemPlace} (h : DataW.Trod enc Try.prog w 0 sp held 22 (.slice a len cap) d p) :
    ∃ xs : List S56, len = xs.length ∧ xs.length ≤ cap ∧ Kd.C k56 w a xs.length xs := by
  obtain ⟨fuel, hf⟩ := h
  have hf' : DataW.trod enc Try.prog w 0 sp held fuel 22 [.slice a len cap] = some (d, p) := hf
  obtain ⟨A, c, xs, e, h1, h2⟩ := open_kd k56 Try.underlying22 cells_ev (fun n cs y hl hy => trod_ev (by exact hl) hy) hf'
  injection e with e1 e2 e3
  subst e1 e2 e3
  exact ⟨xs, rfl, h1, h2⟩
theorem open_row {a : Option Addr} {len cap : Nat} {d : DataW H} {p : List MemPlace} (h : DataW.Trod enc Try.prog w 0 sp held 28 (.slice a len cap) d p) :
    ∃ xs : List Int, len = xs.length ∧ xs.length ≤ cap ∧ Kd.C (Kd.int .i64) w a xs.length xs := by
  obtain ⟨fuel, hf⟩ := h
  obtain ⟨A, c, xs, e, h1, h2⟩ := open_ints_kd (show DataW.trod enc Try.prog w 0 sp held fuel 28 [.slice a len cap] = some (d, p) from hf)
  injection e with e1 e2 e3
  subst e1 e2 e3
  exact ⟨xs, rfl, h1, h2⟩
end
end Go.Proofs.Ytnblmjkaieibhaa.HR

namespace Go.Proofs.Ytnblmjkaieibhaa.HO
open Go.Proofs.Ytnblmjkaieibhaa.HU Go.RowKit Go.Proofs.Ytnblmjkaieibhaa.HK Go.Proofs.Ytnblmjkaieibhaa.HP Go.Proofs.YtnblmjkaieibhaaW.PrintWords Go.Proofs.YtnblmjkaieibhaaW.PrintLast Go.Proofs.YtnblmjkaieibhaaW.PrintMore
set_option linter.unusedVariables false
set_option linter.unusedSimpArgs false
set_option linter.unusedSectionVars false
theorem doc_ext {l : List Ev_} : ∀ (t p p' : List Int), (∀ x, x ∈ p ↔ x ∈ p') → DocR l p t → DocR l p' t
  | [], _, _, _, _ => trivial
  | q :: t, p, p', hm, h => ⟨⟨h.1.1, h.1.2.1, fun x hx => h.1.2.2 x ((hm x).2 hx)⟩, doc_ext t (p ++ [q]) (p' ++ [q]) (fun x => by simp [hm]) h.2⟩
theorem doc_append {l : List Ev_} : ∀ (s t p : List Int), DocR l p (s ++ t) ↔ DocR l p s ∧ DocR l (p ++ s) t
  | [], t, p => by simp [DocR]
  | q :: s, t, p => by
    show (_ ∧ DocR l (p ++ [q]) (s ++ t)) ↔ (_ ∧ DocR l (p ++ [q]) s) ∧ DocR l (p ++ q :: s) t
    rw [doc_append s t (p ++ [q]), List.append_assoc, List.singleton_append]
    exact ⟨fun h => ⟨⟨h.1, h.2.1⟩, h.2.2⟩, fun h => ⟨h.1.1, h.1.2, h.2⟩⟩
theorem turn_doc {l : List Ev_} {p t : List Int} {a b : Int} (h : DocR l p (a :: b :: t)) : DocR l p (b :: a :: t) ↔ HH l b.toNat a.toNat = false := by
  obtain ⟨ha, hb, ht⟩ := h
  constructor
  · rintro ⟨_, h2, _⟩
    exact (h2.2.2 b (by simp)).2
  · intro h0
    refine ⟨⟨hb.1, hb.2.1, fun x hx => hb.2.2 x (List.mem_append_left _ hx)⟩, ⟨ha.1, ha.2.1, fun x hx => ?_⟩, doc_ext t _ _ (fun x => ?_) ht⟩
    · rcases List.mem_append.1 hx with hx | hx
      · exact ha.2.2 x hx
      · obtain rfl := List.mem_singleton.1 hx
        exact ⟨fun he => (hb.2.2 a (by simp)).1 he.symm, h0⟩
    · simp only [List.mem_append, List.mem_singleton]
      constructor
      · rintro ((h | h) | h)
        · exact .inl (.inl h)
        · exact .inr h
        · exact .inl (.inr h)
      · rintro ((h | h) | h)
        · exact .inl (.inl h)
        · exact .inr h
        · exact .inl (.inr h)
def turnL (row : List Int) (k : Nat) : List Int := (row.set k (rd row ((k + 1 : Nat) : Int))).set (k + 1) (rd row (k : Int))
theorem two_at {row : List Int} {k : Nat} (h : k + 1 < row.length) : ∃ (s t : List Int) (a b : Int), row = s ++ a :: b :: t ∧ s.length = k := by
  refine ⟨row.take k, row.drop (k + 2), row[k], row[k + 1], ?_, by rw [List.length_take]; omega⟩
  rw [← List.drop_eq_getElem_cons h, ← List.drop_eq_getElem_cons (by omega : k < row.length), List.take_append_drop]
theorem turn_eq {s t : List Int} {a b : Int} : turnL (s ++ a :: b :: t) s.length = s ++ b :: a :: t := by
  have e1 : rd (s ++ a :: b :: t) ((s.length + 1 : Nat) : Int) = b := by
    rw [rd_lt (by simp), List.getElem_append_right (by omega)]
    simp
  have e2 : rd (s ++ a :: b :: t) (s.length : Int) = a := by
    rw [rd_lt (by simp)]
    simp
  unfold turnL
  rw [e1, e2, List.set_append_right _ _ (by omega), List.set_append_right _ _ (by omega)]
  simp
section
variable {l : List Ev_} {N : Nat} {ks : List Kn} (h : Known l N ks)
include h
theorem doc_allL : ∀ (d i : Nat), l.length - i = d → i ≤ l.length → DocR l (allL i) ((allL l.length).drop i)
  | 0, i, hd, hi => by
    rw [List.drop_eq_nil_of_le (by rw [allL_len]; omega)]
    trivial
  | d + 1, i, hd, hi => by
    have hil : i < (allL l.length).length := by rw [allL_len]; omega
    rw [List.drop_eq_getElem_cons hil, show (allL l.length)[i] = (i : Int) by simp [allL]]
    refine ⟨⟨by omega, by omega, fun x hx => ?_⟩, ?_⟩
    · obtain ⟨m, hm, rfl⟩ := List.mem_map.1 hx
      have hm := List.mem_range.1 hm
      refine ⟨by omega, ?_⟩
      cases hh : HH l (Int.toNat (m : Int)) (Int.toNat (i : Int)) with
      | false => rfl
      | true =>
        rw [Int.toNat_natCast, Int.toNat_natCast] at hh
        have := H_lt h.V (by omega : m < l.length) hh
        omega
    · have := doc_allL (d + 1 - 1) (i + 1) (by omega) (by omega)
      rw [allL_succ] at this
      exact this
theorem all_is : isB ks (allL l.length) = true := (isB_iff h _).2 ⟨allL_len _, by have := doc_allL h l.length 0 (by omega) (by omega); simpa [allL] using this⟩
theorem first_doc {want : List Int} : ∀ (d : Nat) (inb : List Bool) (ins out : List Int), FR l inb ins out → l.length - out.length = d → out.length ≤ l.length →
    ∃ rest, firstG ks (want ++ allL l.length) d out ins = out ++ rest ∧ rest.length = d ∧ DocR l out rest
  | 0, inb, ins, out, f, hd, ho => ⟨[], by simp [firstG], rfl, trivial⟩
  | d + 1, inb, ins, out, f, hd, ho => by
    obtain ⟨v, hv, hfd, hy⟩ := find_num h (want := want) f (by omega)
    obtain ⟨r1, r2⟩ := (rdyP_iff h f hv).1 hy
    obtain ⟨rest, e1, e2, e3⟩ := first_doc d _ _ _ (f.step h hv hy) (by rw [List.length_append, List.length_singleton]; omega) (by rw [List.length_append, List.length_singleton]; omega)
    refine ⟨(v : Int) :: rest, ?_, by simp [e2], ⟨by omega, by omega, fun x hx => ⟨fun he => r1 (he ▸ hx), ?_⟩⟩, e3⟩
    · rw [firstG_some hfd, Int.toNat_natCast, e1, List.append_assoc, List.singleton_append]
    · cases hh : HH l x.toNat (Int.toNat (v : Int)) with
      | false => rfl
      | true => exact absurd ((f.dn x hx).2.2 v hh) r1
theorem first_is (want : List Int) : isB ks (firstB ks want) = true ∧ (firstB ks want).length = l.length := by
  have f0 : FR l (List.replicate l.length false) (List.replicate l.length 0) [] := ⟨by simp, ⟨by simp, fun m hm => by rw [rd_lt (by simpa using hm)]; simp⟩, fun m hm => by simp [rdOf, hm], by simp [List.countP_replicate], by simp⟩
  obtain ⟨rest, e1, e2, e3⟩ := first_doc h (want := want) l.length _ _ _ f0 (by simp) (by simp)
  rw [List.nil_append] at e1
  unfold firstB
  rw [h.len, e1]
  exact ⟨(isB_iff h _).2 ⟨e2, e3⟩, e2⟩
theorem row_num {row : List Int} (hb : isB ks row = true) {x : Int} (hx : x ∈ row) : ∃ q : Nat, x = q ∧ q < l.length := by
  obtain ⟨h0, h1, _⟩ := (doc_all row [] ((isB_iff h _).1 hb).2).1 x hx
  exact ⟨x.toNat, by omega, by omega⟩
theorem turn_is {row : List Int} {k : Nat} (hk : k + 1 < row.length) (hb : isB ks row = true) : isB ks (turnL row k) = !ahB ks (rd row (k : Int)) (rd row ((k + 1 : Nat) : Int)) := by
  obtain ⟨s, t, a, b, rfl, rfl⟩ := two_at hk
  obtain ⟨qa, rfl, ha⟩ := row_num h hb (x := a) (by simp)
  obtain ⟨qb, rfl, hbl⟩ := row_num h hb (x := b) (by simp)
  have e1 : rd (s ++ (qa : Int) :: (qb : Int) :: t) ((s.length + 1 : Nat) : Int) = qb := by
    rw [rd_lt (by simp), List.getElem_append_right (by omega)]
    simp
  have e2 : rd (s ++ (qa : Int) :: (qb : Int) :: t) (s.length : Int) = qa := by
    rw [rd_lt (by simp)]
    simp
  obtain ⟨hlen, hdoc⟩ := (isB_iff h _).1 hb
  obtain ⟨d1, d2⟩ := (doc_append s _ []).1 hdoc
  have ht := turn_doc d2
  rw [turn_eq, e1, e2, h.ahead ha hbl]
  rw [Int.toNat_natCast, Int.toNat_natCast] at ht
  have hlen2 : (s ++ (qb : Int) :: (qa : Int) :: t).length = l.length := by simpa using hlen
  cases hh : HH l qb qa with
  | false => exact (isB_iff h _).2 ⟨hlen2, (doc_append s _ []).2 ⟨d1, ht.2 hh⟩⟩
  | true =>
    cases hi : isB ks (s ++ (qb : Int) :: (qa : Int) :: t) with
    | false => rfl
    | true =>
      have := ht.1 ((doc_append s _ []).1 ((isB_iff h _).1 hi).2).2
      rw [hh] at this
      cases this
end
end Go.Proofs.Ytnblmjkaieibhaa.HO

namespace Go.Proofs.Ytnblmjkaieibhaa.HO
open Go.Proofs.Ytnblmjkaieibhaa.HU Go.RowKit Go.Proofs.Ytnblmjkaieibhaa.HK Go.Proofs.Ytnblmjkaieibhaa.HP Go.Proofs.YtnblmjkaieibhaaW.PrintWords Go.Proofs.YtnblmjkaieibhaaW.PrintLast Go.Proofs.YtnblmjkaieibhaaW.PrintMore
set_option linter.unusedVariables false
set_option linter.unusedSimpArgs false
theorem keep_setA {W : World} {g j : Nat} {p : Addr} {v : Value} (h : W.cell? p = some v) (hne : p.block ≠ g) (u : Value) : (W.setCell ⟨g, j, none⟩ u).cell? p = some v := by
  have := Below.heap_setCell W ⟨g, j, none⟩ u p.block hne
  simpa [World.cell?, this] using h
theorem keep_setD {W : World} {g j : Nat} {p : Addr} {v : Value} (h : W.cell? p = some v) (hne : p.block ≠ g) (u : Value) : (W.setCell ⟨g, j, none⟩ u).drew.cell? p = some v := keep_setA h hne u
set_option maxRecDepth 100000 in
set_option maxHeartbeats 16000000 in
theorem orderOthers_calls (n : Int) (A : Option Addr) (c : Nat) (l : List Ev_) (A2 : Option Addr) (c2 : Nat) (want : List Int) (at_ : Int) (w : World) (hr : Kd.C k56 w A l.length l) (hc : l.length ≤ c) (hr2 : Kd.C (Kd.int .i64) w A2 want.length want) (hc2 : want.length ≤ c2) :
    Calls Try.prog 8 #[.int .i64 n, .slice A l.length c, .slice A2 want.length c2, .int .i64 at_] w fun e w' => e = .returned (.bool true) ∧ Below w.heap.size w w' := by
  have HR := Aside0.mk hr
  have HV := Aside0.mk hr2
  clear hr hr2
  go_enter Try.func8, Try.ntmps8
  go_wp2_with fail
  refine (awake_c w).mono ?_
  rintro e w1 ⟨rfl, hb⟩
  have HB1 := Aside0.mk hb
  have HR1 := Aside0.mk (Kd.C_below HR.out hb)
  clear hb HR
  obtain ⟨gr, hgr, hgc⟩ := great_c A c l w1 HR1.out hc
  have HGC := Aside0.mk hgc
  have HGR := Aside0.mk hgr
  clear hgr hgc
  go_wp2_with fail
  refine HGC.out.mono ?_
  rintro e w2 ⟨rfl, n1, rfl⟩
  have HB2 := Aside0.mk (below_then HB1.out HB1.out.size (pw_below_drewN (Below.refl w1.heap.size w1) n1))
  have HR2 := Aside0.mk (Kd.C_below HR1.out (pw_below_drewN (Below.refl w1.heap.size w1) n1))
  generalize w1.drewN n1 = w2 at HB2 HR2 ⊢
  clear HB1 HR1
  cases gr with
  | true =>
    go_wp2
    go_ret
    exact ⟨rfl, HB2.out⟩
  | false =>
    have HS := Aside0.mk (HGR.out rfl)
    clear HGC HGR
    by_cases hbig : (want.length : Int) > 200
    · have db : decide ((want.length : Int) > 200) = true := decide_eq_true hbig
      go_wp2
      go_ret
      exact ⟨rfl, HB2.out⟩
    · have db : decide ((want.length : Int) > 200) = false := decide_eq_false hbig
      have hsm : want.length ≤ 200 := by omega
      clear hbig
      go_wp2_with fail
      refine (of_calls n A c l w2 HR2.out hc HS.out.le).mono ?_
      rintro e w3 ⟨hp, hb⟩
      have HB3 := Aside0.mk (below_then HB2.out HB2.out.size hb)
      clear hb db
      rcases his_is n l with ⟨hbad, hh⟩ | ⟨hok, N, ks, rfl, hh, hk⟩
      · rw [hh] at hp
        obtain rfl := hp
        clear hbad hh
        go_wp2
        go_ret
        exact ⟨rfl, HB3.out⟩
      · have HBO := Aside0.mk (hk.behOk hh (HS.out.le hk.l2))
        rw [hh] at hp
        obtain ⟨g, rfl, hro⟩ := hp
        have HRO := Aside0.mk hro
        have HK := Aside0.mk hk
        have HV3 := Aside0.mk (Kd.C_below HV.out HB3.out)
        have hl2 := HK.out.l2
        have HKN : Aside0 (ks.length ≤ 2000) := ⟨by rw [hk.len]; exact hk.l2⟩
        clear hok hh hro hk HB2 HR2 HV
        go_wp2_with fail
        go_loopw [11, 12] (fun v11 v12 wr => ∃ i : Nat, i ≤ l.length ∧ v12 = .int .i64 i ∧ Aside0 (Kd.R (Kd.int .i64) 3 wr w3.heap.size (fun _ => True) v11 (allL i)) ∧ Aside0 (Below w3.heap.size w3 wr)) (fun _ v12 _ => l.length - (intOf v12).toNat)
        case atStart => exact ⟨0, by omega, rfl, ⟨Kd.R_nil _ _ _ _ _⟩, ⟨Below.refl _ _⟩⟩
        case round =>
          obtain ⟨i, hi, rfl, HP, HB⟩ := hrel
          obtain ⟨wo, rfl⟩ : ∃ wo : World, wo = wr := ⟨_, rfl⟩
          obtain ⟨Ap, cp, hup, hcp, _⟩ := Kd.R_reads HP.out
          subst hup
          have hal := allL_len i
          by_cases hlt : i < l.length
          · have hi64 : IntKind.i64.wrap ((i : Int) + 1) = (i : Int) + 1 := i64w (by omega) (by omega)
            have hz := HB.out.size
            have hkl8 : ((allL i).length + 1) * 8 ≤ 140737488355328 := by omega
            clear hal
            go_wp2_with (at_builtin; refine Kd.R_append (Kd.int .i64) (w0 := w3) w3.heap.size rfl (.tmp 39) (.tmp 41) 28 3 (.int .i64 0) 8 rfl Try.underlying28 infoI rfl (by decide) (by decide) (.slice Ap (allL i).length cp) (allL i) (i : Int) [.int .i64 i] (fun _ => True) (fun _ => False) rfl rfl rfl (fun _ h => h.elim) (fun _ _ => trivial) HP.out HB.out hz hkl8 ?_; intro v1 w5 ho hbl hgr hat)
            rw [← allL_succ] at ho
            refine ⟨⟨i + 1, by omega, by go_num, ⟨ho⟩, ⟨hbl⟩⟩, ?_⟩
            simp [intOf]
            omega
          · obtain rfl : i = l.length := by omega
            clear hal
            go_wp2_with fail
            refine (first_c g ks A2 c2 want wo (HRO.out.below HB.out) (Kd.C_below HV3.out HB.out) hc2 HBO.out HKN.out (by omega)).mono ?_
            rintro e w5 ⟨⟨v5, rfl, hR⟩, hb⟩
            have HB5 := Aside0.mk (below_then HB.out HB.out.size hb)
            have HP5 := Aside0.mk (Kd.R_below HP.out hb)
            obtain ⟨hfi, hfl⟩ := first_is HK.out want
            obtain ⟨Af, cf, rfl, hcf, _⟩ := Kd.R_reads hR
            have hR2 := Kd.R_lower hR HB.out.size
            generalize firstB ks want = row at hfi hfl hR2 hcf ⊢
            have HFI := Aside0.mk hfi
            have HF5 := Aside0.mk hR2
            have HFL := Aside0.mk hfl
            rw [hfl]
            rw [hfl] at hcf
            have HISA := Aside0.mk (is_c g ks Ap cp (allL l.length) w5 (HRO.out.below HB5.out) (Kd.R_reads' HP5.out).2.2 hcp HBO.out HKN.out)
            rw [all_is HK.out] at HISA
            clear hR hR2 hb HP HB hfi hfl
            generalize (allL l.length).length = la at HISA ⊢
            go_wp2_with fail
            refine HISA.out.mono ?_
            rintro e w6 ⟨rfl, hb⟩
            have HB6 := Aside0.mk (below_then HB5.out HB5.out.size hb)
            have HF6 := Aside0.mk (Kd.R_below HF5.out hb)
            clear hb HP5 HF5 hcp HB5 HISA
            have HISR := Aside0.mk (is_c g ks Af cf row w6 (HRO.out.below HB6.out) (Kd.R_reads' HF6.out).2.2 (by rw [HFL.out]; exact hcf) HBO.out HKN.out)
            rw [HFI.out, HFL.out] at HISR
            go_wp2_with fail
            refine HISR.out.mono ?_
            rintro e w7 ⟨rfl, hb⟩
            have HB7 := Aside0.mk (below_then HB6.out HB6.out.size hb)
            have HF7 := Aside0.mk (Kd.R_below HF6.out hb)
            clear hb HF6 HB6 HISR
            by_cases h2 : l.length < 2
            · have d2 : decide (l.length < 2) = true := decide_eq_true h2
              go_wp2
              go_ret
              exact ⟨rfl, below_then HB3.out HB3.out.size HB7.out⟩
            · have d2 : decide (l.length < 2) = false := decide_eq_false h2
              obtain ⟨m, hm⟩ : ∃ m : Nat, l.length = m + 1 := ⟨l.length - 1, by omega⟩
              have hL1 : IntKind.i64.wrap ((l.length : Int) - 1) = (m : Int) := (i64w (by omega) (by omega)).trans (by omega)
              have hU : IntKind.u64.wrap (m : Int) = (m : Int) := by
                have : IntKind.u64.wrap (m : Int) = (m : Int) % 18446744073709551616 := by simp [IntKind.wrap, IntKind.bits, IntKind.signed]
                rw [this]
                omega
              have hnz : ¬ m = 0 := by omega
              have hpk := pk_eq at_ (show 0 < m by omega) (by omega)
              have hkm := pk_lt at_ (show 0 < m by omega)
              go_upto_region 19 with fail
              rw [hpk]
              generalize pk at_ m = k at hkm ⊢
              clear hpk hL1 hU hnz d2
              have HN0 := Aside0.mk (R_none (Kd.int .i64) 3 w7 w7.heap.size (fun _ => True) (Nat.le_refl _) trivial)
              have HBA := Aside0.mk (below_alloc (Below.refl w7.heap.size w7) (.cells #[] 3))
              have hza : w7.heap.size ≤ (w7.alloc (.cells #[] 3)).heap.size := HBA.out.size
              have hk8 : (([] : List Int).length + (m + 1)) * 8 ≤ 140737488355328 := by simp; omega
              have HRM : Aside0 (row.length = m + 1) := ⟨by rw [HFL.out, hm]⟩
              have HC7 : Aside0 (Kd.C (Kd.int .i64) w7 Af (m + 1) row) := ⟨by have := (Kd.R_reads' HF7.out).2.2; rw [HRM.out] at this; exact this⟩
              have HOLD := Aside0.mk (C_old (Kd.R_reads' HF7.out).2.2)
              go_upto_region 19 with fail
              go_wp2_with (at_builtin; refine Kd.R_append_rows (Kd.int .i64) (w0 := w7) w7.heap.size rfl (.tmp 74) (.tmp 75) 28 3 (.int .i64 0) 8 rfl Try.underlying28 infoI rfl (by decide) (by decide) (.slice (some ⟨w7.heap.size, 0, none⟩) 0 0) [] row Af (m + 1) cf (fun _ => True) (fun _ => False) rfl rfl HN0.out (Kd.C_below HC7.out HBA.out) (fun _ _ h => h) (fun _ h => h.elim) (fun _ _ => trivial) HBA.out hza hk8 ?_; intro v1 w8 ho hbl hgr hat; rw [List.nil_append] at ho; obtain ⟨bu, cm, rfl, hbu, _, _⟩ := Kd.R_form ho (by rw [HRM.out]; omega); have HM8 := Aside0.mk ho; have HB8 := Aside0.mk hbl; have hbu2 := hbu; clear ho hbl hgr hat hbu; rw [HRM.out])
              have hcast : ((k + 1 : Nat) : Int) = (k : Int) + 1 := by omega
              have hT := turn_is HK.out (show k + 1 < row.length by rw [HRM.out]; omega) HFI.out
              unfold turnL at hT
              have hC8 := Kd.C_below HC7.out HB8.out
              obtain ⟨ad, had, x1⟩ := Kd.at_int hC8 (k : Int) (by omega) (by omega)
              obtain ⟨ad2, had2, x2⟩ := Kd.at_int hC8 ((k + 1 : Nat) : Int) (by omega) (by omega)
              rw [Int.toNat_natCast] at x1 x2
              subst had
              injection had2 with had2
              subst had2
              rw [show ad.add (k + 1) = ⟨ad.block, ad.off + (k + 1), none⟩ from if_neg (by omega)] at x2
              have hold := HOLD.out ad rfl (by rw [HRM.out]; omega)
              have hne : ad.block ≠ bu := by omega
              have hne1 : (ad.add k).block ≠ bu := by unfold Addr.add; split <;> exact hne
              have q1 := Kd.R_cell (0 : Int) HM8.out (k : Int) (by omega) (by rw [HRM.out]; omega)
              have q2 := Kd.R_cell (0 : Int) HM8.out ((k + 1 : Nat) : Int) (by omega) (by rw [HRM.out]; omega)
              have p1 := (Kd.R_put HM8.out (k : Int) (rd row ((k + 1 : Nat) : Int))).1
              rw [Int.toNat_natCast] at q1 q2 p1
              rw [show row.length = (row.set k (rd row ((k + 1 : Nat) : Int))).length by simp] at p1
              have p2 := (Kd.R_put p1 ((k + 1 : Nat) : Int) (rd row (k : Int))).1
              rw [Int.toNat_natCast, List.length_set, HRM.out] at p2
              rw [hcast] at x2 p2 hT
              have q11 := q1.1
              have q12 := q1.2
              have q21 := q2.1
              have q22 := q2.2
              have htl : ((row.set k (rd row ((k : Int) + 1))).set (k + 1) (rd row (k : Int))).length = m + 1 := by rw [List.length_set, List.length_set, HRM.out]
              generalize (row.set k (rd row ((k : Int) + 1))).set (k + 1) (rd row (k : Int)) = tl at p2 hT htl
              generalize rd row (k : Int) = r0 at x1 p2 hT
              generalize rd row ((k : Int) + 1) = r1 at x2 p2 hT
              have HP2 := Aside0.mk p2
              have HTL := Aside0.mk htl
              have HT := Aside0.mk hT
              have hkk : (k : Int) < (m : Int) + 1 := by omega
              have hk64 : IntKind.i64.wrap ((k : Int) + 1) = (k : Int) + 1 := i64w (by omega) (by omega)
              have hb1 : (0 : Int) ≤ (k : Int) + 1 := by omega
              have hb2 : (k : Int) + 1 < (m : Int) + 1 := by omega
              have hb3 : ((k : Int) + 1).toNat = k + 1 := by omega
              have hb4 : k < m + 1 := by omega
              clear p1 p2 htl q1 q2 hT hcast hC8 hk8 hza HBA HN0 hkm hold
              go_region_held3 (fun W => W.cell? (ad.add k) = some (.int .i64 r0) ∧ W.cell? ⟨ad.block, ad.off + (k + 1), none⟩ = some (.int .i64 r1))
                (first | exact ⟨x1, x2⟩ | exact ⟨keep_setA x1 hne1 _, keep_setA x2 hne _⟩ | exact ⟨keep_setD x1 hne1 _, keep_setD x2 hne _⟩ | exact ⟨keep_setD (keep_setA x1 hne1 _) hne1 _, keep_setD (keep_setA x2 hne _) hne _⟩ | exact ⟨keep_setA (keep_setA x1 hne1 _) hne1 _, keep_setA (keep_setA x2 hne _) hne _⟩)
                (fail)
              have HM9 := Aside0.mk (Kd.R_below HP2.out (below_drew (Below.refl _ _)))
              have HB9 := Aside0.mk (below_then HB7.out HB7.out.size (below_drew ((HB8.out.setCell (p := ⟨bu, k, none⟩) hbu2 (.int .i64 r1)).setCell (p := ⟨bu, k + 1, none⟩) hbu2 (.int .i64 r0))))
              have y1 := keep_setD (j := k + 1) (keep_setA (j := k) x1 hne1 (.int .i64 r1)) hne1 (.int .i64 r0)
              have y2 := keep_setD (j := k + 1) (keep_setA (j := k) x2 hne (.int .i64 r1)) hne (.int .i64 r0)
              generalize ((w8.setCell ⟨bu, k, none⟩ (.int .i64 r1)).setCell ⟨bu, k + 1, none⟩ (.int .i64 r0)).drew = w9 at HM9 HB9 y1 y2 ⊢
              clear x1 x2 q11 q12 q21 q22 HP2 HM8 HB8 HF7 HC7 HB7
              have HIS : Aside0 (∀ W, Below w9.heap.size w9 W → Calls Try.prog 19 #[.pointer (some ⟨g, 0, none⟩), .slice (some ⟨bu, 0, none⟩) (m + 1) cm] W fun e w' => e = .returned (.bool (!ahB ks r0 r1)) ∧ Below W.heap.size W w') := ⟨fun W hW => by
                have hR := Kd.R_below HM9.out hW
                rw [← HTL.out] at hR ⊢
                have := is_c g ks (some ⟨bu, 0, none⟩) cm tl W (HRO.out.below (below_then HB9.out HB9.out.size hW)) (Kd.R_reads' hR).2.2 (Kd.R_reads' hR).2.1 HBO.out HKN.out
                rw [HT.out] at this
                exact this⟩
              have HAH : Aside0 (∀ W, Below w9.heap.size w9 W → Calls Try.prog 17 #[.pointer (some ⟨g, 0, none⟩), .int .i64 r0, .int .i64 r1] W fun e w' => e = .returned (.bool (ahB ks r0 r1)) ∧ Below W.heap.size W w') := ⟨fun W hW => ahead_c g ks r0 r1 W (HRO.out.below (below_then HB9.out HB9.out.size hW))⟩
              generalize ahB ks r0 r1 = x at HIS HAH
              clear HT
              go_upto_region 21 with fail
              have HBD := Aside0.mk (below_drew (Below.refl w9.heap.size w9))
              have HIS0 := Aside0.mk (HIS.out w9.drew HBD.out)
              have HAH0 := Aside0.mk (HAH.out w9.drew HBD.out)
              go_region_held3 (fun W => W.cell? (ad.add k) = some (.int .i64 r0) ∧ W.cell? ⟨ad.block, ad.off + (k + 1), none⟩ = some (.int .i64 r1))
                (first | exact ⟨z1, z2⟩ | exact ⟨y1, y2⟩)
                (first
                  | (go_at_call 19; first
                      | (refine HIS0.out.mono ?_; rintro e w10 ⟨rfl, hb⟩; have HB10 := Aside0.mk (below_of_drew hb); have z1 := pw_cell_below (below_of_drew hb) y1; have z2 := pw_cell_below (below_of_drew hb) y2; clear hb)
                      | (refine (HIS.out w10 HB10.out).mono ?_; rintro e w11 ⟨rfl, hb⟩; have HB11 := Aside0.mk (below_then HB10.out HB10.out.size hb); have z1 := pw_cell_below HB11.out y1; have z2 := pw_cell_below HB11.out y2; clear hb))
                  | (go_at_call 17; first
                      | (refine HAH0.out.mono ?_; rintro e w10 ⟨rfl, hb⟩; have HB10 := Aside0.mk (below_of_drew hb); have z1 := pw_cell_below (below_of_drew hb) y1; have z2 := pw_cell_below (below_of_drew hb) y2; clear hb)
                      | (refine (HAH.out w10 HB10.out).mono ?_; rintro e w11 ⟨rfl, hb⟩; have HB11 := Aside0.mk (below_then HB10.out HB10.out.size hb); have z1 := pw_cell_below HB11.out y1; have z2 := pw_cell_below HB11.out y2; clear hb)))
              all_goals (
                have hxx : decide ((!x) = !x) = true := by simp
                go_wp2
                go_ret
                exact ⟨by cases x <;> rfl, below_then HB3.out HB3.out.size (below_then HB9.out HB9.out.size HB11.out)⟩)
end Go.Proofs.Ytnblmjkaieibhaa.HO

namespace Go.Proofs.Ytnblmjkaieibhaa.orderOthers
open Go.ChangeShapes Go.WideShapes Go.ChangeAt Go.RowKit Go.Joins
open Go.ChangeMaps (open_string shut_string)
set_option linter.unusedVariables false
theorem own : ownKnob Try.prog.godebug = none := by kernel_rfl
theorem laidOut : laidOutB Try.prog = true := by kernel_rfl
set_option maxRecDepth 100000 in
theorem lifted (os : Os) (started : os.Started) (H : Type) (enc : TypeId × Value → H) :
    ReturnsInHanded {} Try.checked os 8 .any (Rows.orderOthersSpec.pre6 enc Try.prog Try.f8 Rows.orderOthersRow.domain false) (Rows.orderOthersSpec.post enc Try.prog Try.f8 false true false false) := by
  refine returnsInHanded_of_change_sized (C := Try.checked) own started (by kernel_rfl) Try.func8
    (ChangeSpec.witness6 (enc := enc) (C := Try.checked) false ⟨#[], #[.int .i64 0, .slice none 0 0, .slice none 0 0, .int .i64 0], []⟩ 8 (by kernel_rfl) (by kernel_rfl) (by kernel_rfl) (by kernel_rfl)) ?_
  intro W base args ds gs before hval0 hW hcnd hsz0 _
  have hval : ∀ (j : Nat) t v, Try.f8.params[j]? = some t → args[j]? = some v → Value.okWide Try.prog W .any base t v := hval0
  have hW' := hW
  obtain ⟨p, q, hA0, hV, rfl, hfz, hnd⟩ := hW
  have hA : DataW.TrodAll enc Try.prog W 0 (fun _ => true) true Try.f8.params.toList args.toList ds p := hA0
  rw [Try.params8] at hA hval
  obtain ⟨v0, vs0, d0, ds0, p0, q0, hargs, rfl, rfl, h0, r0⟩ := trodAll_cons hA
  obtain ⟨v1, vs1, d1, ds1, p1, q1, rfl, rfl, rfl, h1, r1⟩ := trodAll_cons r0
  obtain ⟨v2, vs2, d2, ds2, p2, q2, rfl, rfl, rfl, h2, r2⟩ := trodAll_cons r1
  obtain ⟨v3, vs3, d3, ds3, p3, q3, rfl, rfl, rfl, h3, r3⟩ := trodAll_cons r2
  obtain ⟨rfl, rfl, rfl⟩ := trodAll_nil r3
  obtain rfl : args = #[v0, v1, v2, v3] := by cases args; simp_all
  obtain ⟨rfl, rfl⟩ := trodVars_none hV
  have k0 := h0
  have lt0 : ∀ x ∈ p0, x.block < W.heap.size := by obtain ⟨m, hm⟩ := k0; exact DataW.trod_lt m _ _ _ hm
  have k1 := h1
  have lt1 : ∀ x ∈ p1, x.block < W.heap.size := by obtain ⟨m, hm⟩ := k1; exact DataW.trod_lt m _ _ _ hm
  have k2 := h2
  have lt2 : ∀ x ∈ p2, x.block < W.heap.size := by obtain ⟨m, hm⟩ := k2; exact DataW.trod_lt m _ _ _ hm
  have k3 := h3
  have lt3 : ∀ x ∈ p3, x.block < W.heap.size := by obtain ⟨m, hm⟩ := k3; exact DataW.trod_lt m _ _ _ hm
  obtain ⟨n0, rfl⟩ := okWide_int Try.underlying3 (hval 0 3 v0 rfl rfl)
  obtain ⟨a1, l1, c1, rfl⟩ := okWide_slice Try.underlying22 (hval 1 22 v1 rfl rfl)
  obtain ⟨xs1, rfl, hc1, hr1⟩ := HR.open_events h1
  obtain ⟨a2, l2, c2, rfl⟩ := okWide_slice Try.underlying28 (hval 2 28 v2 rfl rfl)
  obtain ⟨xs2, rfl, hc2, hr2⟩ := HR.open_row h2
  obtain ⟨n3, rfl⟩ := okWide_int Try.underlying3 (hval 3 3 v3 rfl rfl)
  clear hA0 hval0 hsz0
  refine (HO.orderOthers_calls n0 a1 c1 xs1 a2 c2 xs2 n3 W hr1 hc1 hr2 hc2).mono fun e W' ⟨he, bel⟩ => ?_
  subst he
  exact ⟨_, rfl, _, _, _, [], _, [], hW', trodAll_mk1 (shut_bool Try.underlying4 _), (trodAll_cons_mk (Below.trod laidOut (by kernel_rfl) (of_decide_eq_true (by kernel_rfl)) k0 bel lt0) (trodAll_cons_mk (Below.trod laidOut (by kernel_rfl) (of_decide_eq_true (by kernel_rfl)) k1 bel lt1) (trodAll_cons_mk (Below.trod laidOut (by kernel_rfl) (of_decide_eq_true (by kernel_rfl)) k2 bel lt2) (trodAll_cons_mk (Below.trod laidOut (by kernel_rfl) (of_decide_eq_true (by kernel_rfl)) k3 bel lt3) trodAll_mk0)))), rfl, bel.frame _, fun h => by cases h⟩
theorem over : Rows.orderOthersRow.holds Try.pinned (OpenSpec.ofChange Rows.orderOthersSpec) :=
  OpenClaim.holds_of_wide 8 Try.f8 rfl rfl rfl rfl rfl rfl rfl ⟨rfl, rfl, rfl, rfl, rfl⟩ rfl rfl rfl rfl rfl (by kernel_rfl) Try.func8 (by kernel_rfl)
    (of_decide_eq_true (by kernel_rfl)) (by unfold Func.isWrapper; first | (rw [if_pos (by decide +kernel)]; kernel_rfl) | (rw [if_neg (by decide +kernel)]; exact ⟨rfl, rfl⟩))
    (fun os started H enc _ => lifted os started H enc)
theorem proved : Rows.OrderOthersSaid := over
end Go.Proofs.Ytnblmjkaieibhaa.orderOthers
namespace Go.Proofs.Ytnblmjkaieibhaa
/-- The row, under a short name, for the claim. -/
theorem orderOthers_holds : Rows.OrderOthersSaid := orderOthers.proved
end Go.Proofs.Ytnblmjkaieibhaa
