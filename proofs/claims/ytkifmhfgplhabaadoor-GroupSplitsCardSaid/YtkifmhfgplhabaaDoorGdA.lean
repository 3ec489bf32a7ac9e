/-
  CONTRACTS BY HAND (splits, 1): a number's text; what a group's child is called; a dup.
-/
import Derived.Test.YtkifmhfgplhabaaDoorShelf
import Derived.Test.YtkifmhfgplhabaaDoorGpB
import Derived.Test.YtkifmhfgplhabaaDoorHV
import Derived.Lib.ItoaLen
import Derived.Lib.LaidTab
import Derived.WalkSmall
import Derived.Lib.AppendIntMem
import Derived.Deep.RegionHeld3
namespace Go.Proofs.YtkifmhfgplhabaaDoor.HQ
open Go.Proofs.YtkifmhfgplhabaaDoor.HU Go.RowKit Go.Proofs.YtkifmhfgplhabaaDoor.HK Go.Proofs.YtkifmhfgplhabaaDoor.HP Go.Proofs.YtkifmhfgplhabaaDoorW.PrintWords Go.Proofs.YtkifmhfgplhabaaDoorW.PrintLast Go.Proofs.YtkifmhfgplhabaaDoorW.PrintMore
set_option linter.unusedVariables false
set_option linter.unusedSimpArgs false
/-- the library's table reads as its initialiser lays it -/
def Tab (W : World) : Prop := Lib.TabIs Tryd.prog W "internal/strconv.uint64pow10" .u64 Lib.pow10Tab ∧ 0 < W.heap.size
theorem gTab : Tryd.prog.globalNamed "internal/strconv.uint64pow10" = some 0 := by kernel_rfl
theorem Tab.below {W W' : World} (h : Tab W) {B : Nat} (hB : 0 < B) (hb : Below B W W') : Tab W' :=
  ⟨var?_below hb gTab hB h.1, Nat.lt_of_lt_of_le h.2 hb.size⟩
theorem Tab.after {W W' : World} (h : Tab W) (hb : Below W.heap.size W W') : Tab W' := h.below h.2 hb
theorem Tab.drew {W : World} (h : Tab W) : Tab W.drew := h
/-- an int's range -/
def Rng (n : Int) : Prop := -9223372036854775808 ≤ n ∧ n ≤ 9223372036854775807
def itoB (n : Int) : ByteArray := ⟨(Lib.itoa n).toArray⟩
theorem itoa_c (n : Int) (w : World) (hn : Rng n) (ht : Tab w) : Calls Tryd.prog 33 #[.int .i64 n] w fun e w' => e = .returned (.string (itoB n)) ∧ Below w.heap.size w w' :=
  (Tryd.strconv_Itoa n hn.1 hn.2 w ht.1).mono fun e w' ⟨h, k, os, hw⟩ => ⟨h, hw ▸ Lib.below_grow _ _ (Nat.le_refl _) k os⟩
theorem itoB_size {n : Int} (h : Rng n) : (itoB n).size ≤ 21 := by
  have := Lib.itoa_length_le n h.1 h.2
  simpa [itoB, ByteArray.size] using this
def childB (s : ByteArray) (k : Int) : ByteArray := s ++ ⟨#[46]⟩ ++ itoB k
set_option maxHeartbeats 4000000 in
theorem child_c (s : ByteArray) (v : Value) (k : Int) (w : World) (hk : Rng k) (ht : Tab w) (hs : s.size ≤ 100000) :
    Calls Tryd.prog 25 #[.agg #[.string s, v], .int .i64 k] w fun e w' => e = .returned (.string (childB s k)) ∧ Below w.heap.size w w' := by
  have b0 := blk_new w (.cells #[.string s, v] 24)
  have p0 : (w.alloc (.cells #[.string s, v] 24)).cell? ⟨w.heap.size, 0, none⟩ = some (.string s) := (blk_cell b0 0).trans rfl
  have HB1 := Aside0.mk (below_alloc (Below.refl w.heap.size w) (.cells #[.string s, v] 24))
  have HI := Aside0.mk (itoa_c k (w.alloc (.cells #[.string s, v] 24)).drew hk ((ht.after HB1.out).drew))
  have hz := itoB_size hk
  unfold childB
  generalize itoB k = t at HI hz ⊢
  have hc1 : ¬ 9223372036854775807 < s.size + 1 := by omega
  have hc2 : ¬ 9223372036854775807 < s.size + 1 + t.size := by omega
  clear b0 hk ht
  go_enter Tryd.func25, Tryd.ntmps25
  go_wp2_with fail
  generalize (w.alloc (.cells #[.string s, v] 24)) = w1 at p0 HB1 HI ⊢
  go_region_held3 (fun W => W.cell? ⟨w.heap.size, 0, none⟩ = some (.string s))
    (first | exact p1 | exact p0)
    (first | (go_at_call 33; with_reducible refine HI.out.mono ?_; rintro e w2 ⟨rfl, hb⟩; have HB2 := Aside0.mk (below_of_drew hb); have p1 := pw_cell_below HB2.out p0; clear hb))
  all_goals (
    clear p0 p1 HI
    go_wp2
    go_ret
    exact ⟨rfl, below_then HB1.out HB1.out.size HB2.out⟩)
end Go.Proofs.YtkifmhfgplhabaaDoor.HQ
