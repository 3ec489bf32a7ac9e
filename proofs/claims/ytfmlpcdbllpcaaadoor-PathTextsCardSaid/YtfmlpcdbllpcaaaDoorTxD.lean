/-
  CONTRACTS BY HAND (texts, 4): the law PathTexts, walked: it answers true, and nothing that was there is changed.
-/
import Derived.Test.YtfmlpcdbllpcaaaDoorTxC
namespace Go.Proofs.YtfmlpcdbllpcaaaDoor.HX
open Go.Proofs.YtfmlpcdbllpcaaaDoor.HU Go.RowKit Go.Proofs.YtfmlpcdbllpcaaaDoor.HK Go.Proofs.YtfmlpcdbllpcaaaDoor.HP Go.Proofs.YtfmlpcdbllpcaaaDoorW.PrintWords Go.Proofs.YtfmlpcdbllpcaaaDoorW.PrintLast Go.Proofs.YtfmlpcdbllpcaaaDoorW.PrintMore
set_option linter.unusedVariables false
set_option linter.unusedSimpArgs false
set_option maxHeartbeats 4000000 in
theorem pathTexts_calls (A : Option Addr) (c : Nat) (l : List Sp) (w : World) (hr : Kd.C k51 w A l.length l) (hc : l.length ≤ c) (hx : ∀ x ∈ l, SpOk x) (ht : Tab w) :
    Calls Tryd.prog 3 #[.slice A l.length c] w fun e w' => e = .returned (.bool true) ∧ Below w.heap.size w w' := by
  have HR := Aside0.mk hr
  have HX := Aside0.mk hx
  have HT := Aside0.mk ht
  clear hr hx ht
  go_enter Tryd.func3, Tryd.ntmps3
  by_cases hb : (l.length : Int) > 200
  · have d0 : decide ((l.length : Int) > 200) = true := decide_eq_true hb
    clear hb
    go_wp2
    go_ret
    exact ⟨rfl, Below.refl _ _⟩
  · have d0 : decide ((l.length : Int) > 200) = false := decide_eq_false hb
    have HL := Aside0.mk (show l.length ≤ 3000 by omega)
    clear hb
    go_wp2_with fail
    refine (texts_c A c l w HR.out hc HL.out HX.out HT.out).mono ?_
    rintro e w1 ⟨rfl, hb⟩
    have HB := Aside0.mk hb
    clear hb
    go_wp2_with fail
    refine (reftext_c A c l w1 (Kd.C_below HR.out HB.out) hc HL.out HX.out).mono ?_
    rintro e w2 ⟨rfl, hb⟩
    have HB2 := Aside0.mk (below_then HB.out HB.out.size hb)
    clear hb
    generalize bs (textsB l) = o
    go_wp2
    go_ret
    exact ⟨ret_bool (by simp), HB2.out⟩
end Go.Proofs.YtfmlpcdbllpcaaaDoor.HX
