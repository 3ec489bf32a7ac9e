/-
  CONTRACTS BY HAND (orders, 12): those that are ready: the iterator.
-/
import Derived.Test.YtnblmjkaieibhaaOfA
namespace Go.Proofs.Ytnblmjkaieibhaa.HO
open Go.Proofs.Ytnblmjkaieibhaa.HU Go.RowKit Go.Shelf Go.Proofs.Ytnblmjkaieibhaa.HK Go.Proofs.Ytnblmjkaieibhaa.HP Go.Proofs.YtnblmjkaieibhaaW.PrintWords Go.Proofs.YtnblmjkaieibhaaW.PrintLast Go.Proofs.YtnblmjkaieibhaaW.PrintMore
set_option linter.unusedVariables false
set_option linter.unusedSimpArgs false
attribute [local go_sem] Oper.semAt_some
/-- is one ready? -/
def rdyP (ks : List Kn) (ins : List Int) (i : Int) : Bool := hasB ks i && outB ins i && !((kat ks i).f2.any (outB ins))
/-- what the iterator reads -/
structure RdIn (w0 : World) (bs bi bo g : Nat) (As Ai : Option Addr) (cc ci : Nat) (cs ins : List Int) (ks : List Kn) : Prop where
  s0 : w0.cell? ⟨bs, 0, none⟩ = some (.slice As cs.length cc)
  i0 : w0.cell? ⟨bi, 0, none⟩ = some (.slice Ai ins.length ci)
  o0 : w0.cell? ⟨bo, 0, none⟩ = some (.pointer (some ⟨g, 0, none⟩))
  sr : Kd.C (Kd.int .i64) w0 As cs.length cs
  ir : Kd.C (Kd.int .i64) w0 Ai ins.length ins
  ro : Ro w0 g ks
theorem RdIn.below {w0 W : World} {bs bi bo g : Nat} {As Ai : Option Addr} {cc ci : Nat} {cs ins : List Int} {ks : List Kn} (h : RdIn w0 bs bi bo g As Ai cc ci cs ins ks) (hb : Below w0.heap.size w0 W) : RdIn W bs bi bo g As Ai cc ci cs ins ks :=
  ⟨pw_cell_below hb h.s0, pw_cell_below hb h.i0, pw_cell_below hb h.o0, Kd.C_below h.sr hb, Kd.C_below h.ir hb, h.ro.below hb⟩
theorem filt_yes {p : Int → Bool} {cs : List Int} {k : Nat} (hk : k < cs.length) (h : p (rd cs k) = true) : (cs.take (k + 1)).filter p = (cs.take k).filter p ++ [rd cs k] := by
  rw [List.take_succ_eq_append_getElem hk, List.filter_append]
  rw [rd_lt hk] at h ⊢
  simp [h]
theorem filt_no {p : Int → Bool} {cs : List Int} {k : Nat} (hk : k < cs.length) (h : p (rd cs k) = false) : (cs.take (k + 1)).filter p = (cs.take k).filter p := by
  rw [List.take_succ_eq_append_getElem hk, List.filter_append]
  rw [rd_lt hk] at h
  simp [h]
theorem filt_pre {p : Int → Bool} (cs : List Int) (k : Nat) : (cs.take k).filter p <+: cs.filter p := by
  refine ⟨(cs.drop k).filter p, ?_⟩
  rw [← List.filter_append, List.take_append_drop]
theorem filt_len {p : Int → Bool} (cs : List Int) (k : Nat) (hk : k < cs.length) : ((cs.take k).filter p).length < cs.length := by
  have h1 := List.length_filter_le p (cs.take k)
  rw [List.length_take] at h1
  omega
/-- an event's number -/
abbrev Num (L : Nat) := { x : Int // 0 ≤ x ∧ x < (L : Int) }
set_option maxRecDepth 100000 in
set_option maxHeartbeats 4000000 in
theorem ready1_in (n : Nat) (hn : 1 ≤ n) (l : Nat) (w0 : World) (bs bi bo g : Nat) (As Ai : Option Addr) (cc ci : Nat) (cs ins : List Int) (ks : List Kn) (hR : RdIn w0 bs bi bo g As Ai cc ci cs ins ks) (hbk : BehOk ks) (hcs : cs.length ≤ 100000) (hins : ins.length = ks.length) (J Jx : List (Num ks.length) → World → Prop)
    (hY : ∀ pre x W, J pre W → pre.length < cs.length → YieldAt Fence.wide (n - 1) Try.prog l #[.int .i64 x.1] W fun e W' =>
      (e = .returned (.bool true) ∧ J (pre ++ [x]) W' ∧ Below w0.heap.size W W') ∨ (e = .returned (.bool false) ∧ Jx (pre ++ [x]) W'))
    (W : World) (hB : Below w0.heap.size w0 W) (h0 : J [] W) :
    CallsIn Fence.wide n Try.prog 38 #[.func (.yield l) #[] #[], .pointer (some ⟨bs, 0, none⟩), .pointer (some ⟨bi, 0, none⟩), .pointer (some ⟨bo, 0, none⟩)] W fun e W' => (∃ v, e = .returned v) ∧
      ((∃ ys, ys.map (·.1) = cs.filter (rdyP ks ins) ∧ J ys W') ∨ (∃ pre, pre.map (·.1) <+: cs.filter (rdyP ks ins) ∧ Jx pre W')) := by
  have HR := Aside0.mk hR
  have HB := Aside0.mk hB
  have HK := Aside0.mk hbk
  have HIN := Aside0.mk hins
  have e1 := (hR.below hB).s0
  clear hR hB hbk hins
  refine callsIn_of_wp Try.func38 rfl trivial ?_ rfl
  simp only [Try.ntmps38, List.size_toArray, List.length_cons, List.length_nil, Nat.reduceAdd, Nat.reduceSub, Array.replicate_succ, Array.replicate_zero, List.push_toArray, List.append_toArray, List.nil_append, List.cons_append]
  gi_wp2
  gi_loopw [10] (fun v10 wr => ∃ k : Nat, k ≤ cs.length ∧ v10 = .int .i64 k ∧ Aside0 (Below w0.heap.size w0 wr) ∧ ∃ pre, Aside0 (pre.map (·.1) = (cs.take k).filter (rdyP ks ins)) ∧ J pre wr)
    (fun v10 _ => cs.length - (intOf v10).toNat)
  case atStart => exact ⟨0, Nat.zero_le _, rfl, HB, [], ⟨by simp⟩, h0⟩
  case round =>
    clear e1
    obtain ⟨k, hk, rfl, HB, pre, HP, hJ⟩ := hrel
    by_cases hlt : k < cs.length
    · have HRw := Aside0.mk (HR.out.below HB.out)
      obtain ⟨ad, had, hx⟩ := Kd.at_int HRw.out.sr k (by omega) (by omega)
      subst had
      rw [Int.toNat_natCast] at hx
      have HLN : Aside0 (pre.length < cs.length) := ⟨by have := congrArg List.length HP.out; rw [List.length_map] at this; rw [this]; exact filt_len cs k hlt⟩
      have HYES := Aside0.mk (fun h => filt_yes (p := rdyP ks ins) hlt h)
      have HNO := Aside0.mk (fun h => filt_no (p := rdyP ks ins) hlt h)
      have HPRE := Aside0.mk (filt_pre (p := rdyP ks ins) cs (k + 1))
      have i0 := HRw.out.i0
      have o0 := HRw.out.o0
      have hk64 : IntKind.i64.wrap ((k : Int) + 1) = (k : Int) + 1 := i64w (by omega) (by omega)
      generalize hi : rd cs (k : Int) = i at hx HYES HNO
      clear hi
      cases hh : hasB ks i with
      | false =>
        have HN2 := Aside0.mk (HNO.out (by unfold rdyP; rw [hh]; rfl))
        have HH := Aside0.mk hh
        clear hh
        gi_wp2_with fail
        refine ⟨trivial, (callsIn_wide.2 (has_c g ks i wr HRw.out.ro)).mono ?_⟩
        rintro e w1 ⟨rfl, rfl⟩
        rw [HH.out]
        gi_wp2
        refine ⟨trivial, ?_⟩
        gi_wp2
        refine ⟨(by intro f hf; cases hf), ?_⟩
        gi_wp2
        go_roundw
        case rel => exact ⟨k + 1, by omega, by go_num, HB, pre, ⟨by rw [HN2.out]; exact HP.out⟩, hJ⟩
        case measure => simp [intOf]; omega
      | true =>
        obtain ⟨q0, q1⟩ := hasB_iff.1 hh
        have hiL : i < (ins.length : Int) := by rw [HIN.out]; exact q1
        obtain ⟨adi, hadi, hxi⟩ := Kd.at_int HRw.out.ir i q0 hiL
        subst hadi
        have HH := Aside0.mk hh
        clear hh
        generalize hz : rd ins i = z at hxi
        have HZ := Aside0.mk hz
        clear hz
        by_cases hz0 : z = 0
        · have dz : (z == 0) = true := by simpa using hz0
          have HO1 : Aside0 (outB ins i = true) := ⟨by unfold outB; rw [HZ.out]; exact dz⟩
          obtain ⟨ad2, c', A0, c0, A2, c2, hg, _, _, a2, _, _, b2, b3⟩ := HRw.out.ro.at_ i q0 q1
          have HC := Aside0.mk b3
          have HBI := Aside0.mk (HK.out i q0 q1)
          have HCT := Aside0.mk (cont_c bi (some adi) ci ins A2 c2 (kat ks i).f2 wr i0 HRw.out.ir HC.out b2 (fun q hq => by have := HBI.out.2 q hq; rw [HIN.out]; exact this))
          clear hz0 b3
          gi_wp2_with fail
          refine ⟨trivial, (callsIn_wide.2 (has_c g ks i wr HRw.out.ro)).mono ?_⟩
          rintro e w1 ⟨rfl, rfl⟩
          rw [HH.out]
          gi_wp2_with fail
          refine ⟨trivial, (callsIn_wide.2 HCT.out).mono ?_⟩
          rintro e w1 ⟨rfl, rfl⟩
          cases hany : (kat ks i).f2.any (outB ins) with
          | true =>
            have HN2 := Aside0.mk (HNO.out (by unfold rdyP; rw [HH.out, HO1.out, hany]; rfl))
            clear hany
            gi_wp2
            refine ⟨(by intro f hf; cases hf), ?_⟩
            gi_wp2
            go_roundw
            case rel => exact ⟨k + 1, by omega, by go_num, HB, pre, ⟨by rw [HN2.out]; exact HP.out⟩, hJ⟩
            case measure => simp [intOf]; omega
          | false =>
            have HY2 := Aside0.mk (HYES.out (by unfold rdyP; rw [HH.out, HO1.out, hany]; rfl))
            clear hany
            obtain ⟨fn, tmps, assign, body, hy, hRR⟩ := hY pre ⟨i, q0, q1⟩ wr hJ HLN.out
            dsimp only at hy
            gi_wp2
            refine hRR.mono ?_
            rintro e W3 (⟨rfl, hJ3, hk3⟩ | ⟨rfl, hJx3⟩)
            · have HB3 := Aside0.mk (HB.out.trans hk3)
              gi_wp2
              go_roundw
              case rel => exact ⟨k + 1, by omega, by go_num, HB3, _, ⟨by rw [HY2.out, List.map_append, HP.out]; rfl⟩, hJ3⟩
              case measure => simp [intOf]; omega
            · gi_wp2
              refine bodyPost_ret (results_none rfl _ _ _) rfl ?_
              refine ⟨⟨_, rfl⟩, .inr ⟨_, ?_, hJx3⟩⟩
              rw [List.map_append, HP.out, show List.map (fun x : Num ks.length => x.1) [⟨i, q0, q1⟩] = [i] from rfl, ← HY2.out]
              exact HPRE.out
        · have dz : (z == 0) = false := by simpa using hz0
          have HO1 : Aside0 (outB ins i = false) := ⟨by unfold outB; rw [HZ.out]; exact dz⟩
          have HN2 := Aside0.mk (HNO.out (by unfold rdyP; rw [HO1.out]; simp))
          clear hz0
          gi_wp2_with fail
          refine ⟨trivial, (callsIn_wide.2 (has_c g ks i wr HRw.out.ro)).mono ?_⟩
          rintro e w1 ⟨rfl, rfl⟩
          rw [HH.out]
          gi_wp2
          refine ⟨trivial, ?_⟩
          gi_wp2
          refine ⟨(by intro f hf; cases hf), ?_⟩
          gi_wp2
          go_roundw
          case rel => exact ⟨k + 1, by omega, by go_num, HB, pre, ⟨by rw [HN2.out]; exact HP.out⟩, hJ⟩
          case measure => simp [intOf]; omega
    · obtain rfl : k = cs.length := by omega
      gi_wp2
      go_end0
      exact ⟨⟨_, rfl⟩, .inl ⟨pre, by have h1 := HP.out; rw [List.take_length] at h1; exact h1, hJ⟩⟩
theorem ready_stops (n : Nat) (hn : 1 ≤ n) (w0 : World) (bs bi bo g : Nat) (As Ai : Option Addr) (cc ci : Nat) (cs ins : List Int) (ks : List Kn) (hR : RdIn w0 bs bi bo g As Ai cc ci cs ins ks) (hbk : BehOk ks) (hcs : cs.length ≤ 100000) (hins : ins.length = ks.length) :
    SeqStopsK Fence.wide n Try.prog 38 #[.pointer (some ⟨bs, 0, none⟩), .pointer (some ⟨bi, 0, none⟩), .pointer (some ⟨bo, 0, none⟩)] (fun x : Num ks.length => #[Value.int .i64 x.1]) (Below w0.heap.size) (fun ys => ys.map (·.1) = cs.filter (rdyP ks ins)) (fun pre => pre.map (·.1) <+: cs.filter (rdyP ks ins)) cs.length w0 :=
  fun l J Jx W hW _ _ hY h0 => ready1_in n hn l w0 bs bi bo g As Ai cc ci cs ins ks hR hbk hcs hins J Jx hY W hW h0
theorem ready_calls (n : Nat) (g : Nat) (As Ai : Option Addr) (n1 n2 cc ci : Nat) (w : World) :
    CallsIn Fence.wide n Try.prog 29 #[.pointer (some ⟨g, 0, none⟩), .slice As n1 cc, .slice Ai n2 ci] w fun e w' =>
      e = .returned (.func (.func 38) #[] #[.pointer (some ⟨w.heap.size + 1, 0, none⟩), .pointer (some ⟨w.heap.size + 1 + 1, 0, none⟩), .pointer (some ⟨w.heap.size, 0, none⟩)]) ∧
      w' = ((w.alloc (.cells #[.pointer (some ⟨g, 0, none⟩)] 24)).alloc (.cells #[.slice As n1 cc] 28)).alloc (.cells #[.slice Ai n2 ci] 28) := by
  refine callsIn_of_wp Try.func29 rfl trivial ?_ rfl
  simp only [Try.ntmps29, List.size_toArray, List.length_cons, List.length_nil, Nat.reduceAdd, Nat.reduceSub, Array.replicate_succ, Array.replicate_zero, List.push_toArray, List.append_toArray, List.nil_append, List.cons_append]
  gi_wp2
  go_ret
  exact ⟨rfl, rfl⟩
end Go.Proofs.Ytnblmjkaieibhaa.HO
