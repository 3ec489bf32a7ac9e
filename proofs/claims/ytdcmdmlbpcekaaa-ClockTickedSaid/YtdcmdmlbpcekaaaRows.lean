/-
  No cell of these rows narrows 'for every input' (looked for: loops, veiled, ifaces, maps, wideKeys, modest, calm, conditions, laid).
  DERIVED. THE GIVEN ROWS OF THIS SEAT. 6 by the template 'for every input the law returns true; each argument reads behind the call as it read before'; 0 by the template 'total and deterministic' (their statements: YtdcmdmlbpcekaaaTotals.lean).
  GIVEN WITH THE SEED: the statements are not yours to turn. If you find one false, say at which input.
  Laid BY PROGRAM, IN A SANDBOX (cutbox-rows.mjs): the forced cells as the released guide's own fill.sh prints them over the translation 35863a84ccaf1516… (all of the seat's roots in one cut). By AI agents, Wed Nov 11 2026. No macro, syntax, notation, axiom, sorry.
-/
import Derived.Test.YtdcmdmlbpcekaaaChecked
import GoSem.Claim
import GoSem.ClaimJoined
import GoSem.ClaimMapViews
import Derived.JoinedTies
import Derived.KernelRfl
namespace Go.Proofs.Ytdcmdmlbpcekaaa
/- THE CELL 'sum', in the pinned program and in every row, IS THE sha256 OF THE DUMP (.gsa) THAT YtdcmdmlbpcekaaaProg.lean LOADS. Nothing in Lean hashes anything: it is a label: what it is worth is what the hold of that sum in a sandbox is worth. -/
noncomputable def Try.pinned : Pinned := { name := "ytdcmdmlbpcekaaa", sum := "35863a84ccaf151683865d22ed75d3e57874e243432869ba6d12819040b9d587", checked := Try.checked }
namespace Rows
def none {H : Type} : Left H := { results := [], args := [] }

/-- 'dispatcherlaw18.ClockMerges': WHATEVER THE INPUT: true; the input reads as it did. -/
def clockMergesSpec : ChangeSpec := { name := "clockMerges", fn := fun _ => fun
  | [d1, d2] => { results := [.lit (.bool true)], args := [d1, d2] }
  | _ => none }
def clockMergesRow : OpenClaim := { program := "ytdcmdmlbpcekaaa", sum := "35863a84ccaf151683865d22ed75d3e57874e243432869ba6d12819040b9d587", func := "dispatcher/dispatcherlaw18.ClockMerges", spec := "clockMerges", unfollowed := true, recurses := true, apart := false }
def ClockMergesSaid : Prop := clockMergesRow.holds Try.pinned (OpenSpec.ofChange clockMergesSpec)

/-- ITS FALSE NEIGHBOUR: 'it returns false'. Refute it at one input. -/
def clockMergesWrong : ChangeSpec := { name := "clockMerges", fn := fun _ => fun
  | [d1, d2] => { results := [.lit (.bool false)], args := [d1, d2] }
  | _ => none }
def ClockMergesWrongFalsely : Prop := clockMergesRow.holds Try.pinned (OpenSpec.ofChange clockMergesWrong)

/-- 'dispatcherlaw18.ClockTicks': WHATEVER THE INPUT: true; the input reads as it did. -/
def clockTicksSpec : ChangeSpec := { name := "clockTicks", fn := fun _ => fun
  | [d1, d2] => { results := [.lit (.bool true)], args := [d1, d2] }
  | _ => none }
def clockTicksRow : OpenClaim := { program := "ytdcmdmlbpcekaaa", sum := "35863a84ccaf151683865d22ed75d3e57874e243432869ba6d12819040b9d587", func := "dispatcher/dispatcherlaw18.ClockTicks", spec := "clockTicks", unfollowed := true, recurses := true, apart := false }
def ClockTicksSaid : Prop := clockTicksRow.holds Try.pinned (OpenSpec.ofChange clockTicksSpec)

/-- ITS FALSE NEIGHBOUR: 'it returns false'. Refute it at one input. -/
def clockTicksWrong : ChangeSpec := { name := "clockTicks", fn := fun _ => fun
  | [d1, d2] => { results := [.lit (.bool false)], args := [d1, d2] }
  | _ => none }
def ClockTicksWrongFalsely : Prop := clockTicksRow.holds Try.pinned (OpenSpec.ofChange clockTicksWrong)

/-- 'dispatcherlaw18.ClockTells': WHATEVER THE INPUT: true; the input reads as it did. -/
def clockTellsSpec : ChangeSpec := { name := "clockTells", fn := fun _ => fun
  | [d1, d2, d3] => { results := [.lit (.bool true)], args := [d1, d2, d3] }
  | _ => none }
def clockTellsRow : OpenClaim := { program := "ytdcmdmlbpcekaaa", sum := "35863a84ccaf151683865d22ed75d3e57874e243432869ba6d12819040b9d587", func := "dispatcher/dispatcherlaw18.ClockTells", spec := "clockTells", unfollowed := true, recurses := true, apart := false }
def ClockTellsSaid : Prop := clockTellsRow.holds Try.pinned (OpenSpec.ofChange clockTellsSpec)

/-- ITS FALSE NEIGHBOUR: 'it returns false'. Refute it at one input. -/
def clockTellsWrong : ChangeSpec := { name := "clockTells", fn := fun _ => fun
  | [d1, d2, d3] => { results := [.lit (.bool false)], args := [d1, d2, d3] }
  | _ => none }
def ClockTellsWrongFalsely : Prop := clockTellsRow.holds Try.pinned (OpenSpec.ofChange clockTellsWrong)

/-- 'dispatcherlaw18.ClockOrder': WHATEVER THE INPUT: true; the input reads as it did. -/
def clockOrderSpec : ChangeSpec := { name := "clockOrder", fn := fun _ => fun
  | [d1, d2, d3] => { results := [.lit (.bool true)], args := [d1, d2, d3] }
  | _ => none }
def clockOrderRow : OpenClaim := { program := "ytdcmdmlbpcekaaa", sum := "35863a84ccaf151683865d22ed75d3e57874e243432869ba6d12819040b9d587", func := "dispatcher/dispatcherlaw18.ClockOrder", spec := "clockOrder", unfollowed := true, recurses := true, apart := false }
def ClockOrderSaid : Prop := clockOrderRow.holds Try.pinned (OpenSpec.ofChange clockOrderSpec)

/-- ITS FALSE NEIGHBOUR: 'it returns false'. Refute it at one input. -/
def clockOrderWrong : ChangeSpec := { name := "clockOrder", fn := fun _ => fun
  | [d1, d2, d3] => { results := [.lit (.bool false)], args := [d1, d2, d3] }
  | _ => none }
def ClockOrderWrongFalsely : Prop := clockOrderRow.holds Try.pinned (OpenSpec.ofChange clockOrderWrong)

/-- 'dispatcherlaw18.ClockLeast': WHATEVER THE INPUT: true; the input reads as it did. -/
def clockLeastSpec : ChangeSpec := { name := "clockLeast", fn := fun _ => fun
  | [d1, d2, d3] => { results := [.lit (.bool true)], args := [d1, d2, d3] }
  | _ => none }
def clockLeastRow : OpenClaim := { program := "ytdcmdmlbpcekaaa", sum := "35863a84ccaf151683865d22ed75d3e57874e243432869ba6d12819040b9d587", func := "dispatcher/dispatcherlaw18.ClockLeast", spec := "clockLeast", unfollowed := true, recurses := true, apart := false }
def ClockLeastSaid : Prop := clockLeastRow.holds Try.pinned (OpenSpec.ofChange clockLeastSpec)

/-- ITS FALSE NEIGHBOUR: 'it returns false'. Refute it at one input. -/
def clockLeastWrong : ChangeSpec := { name := "clockLeast", fn := fun _ => fun
  | [d1, d2, d3] => { results := [.lit (.bool false)], args := [d1, d2, d3] }
  | _ => none }
def ClockLeastWrongFalsely : Prop := clockLeastRow.holds Try.pinned (OpenSpec.ofChange clockLeastWrong)

/-- 'dispatcherlaw18.ClockTicked': WHATEVER THE INPUT: true; the input reads as it did. -/
def clockTickedSpec : ChangeSpec := { name := "clockTicked", fn := fun _ => fun
  | [d1, d2, d3] => { results := [.lit (.bool true)], args := [d1, d2, d3] }
  | _ => none }
def clockTickedRow : OpenClaim := { program := "ytdcmdmlbpcekaaa", sum := "35863a84ccaf151683865d22ed75d3e57874e243432869ba6d12819040b9d587", func := "dispatcher/dispatcherlaw18.ClockTicked", spec := "clockTicked", unfollowed := true, recurses := true, apart := false }
def ClockTickedSaid : Prop := clockTickedRow.holds Try.pinned (OpenSpec.ofChange clockTickedSpec)

/-- ITS FALSE NEIGHBOUR: 'it returns false'. Refute it at one input. -/
def clockTickedWrong : ChangeSpec := { name := "clockTicked", fn := fun _ => fun
  | [d1, d2, d3] => { results := [.lit (.bool false)], args := [d1, d2, d3] }
  | _ => none }
def ClockTickedWrongFalsely : Prop := clockTickedRow.holds Try.pinned (OpenSpec.ofChange clockTickedWrong)

/- THE SECOND FORM. 'bulk': how many values and letters a reading holds, each counted each time it is reached (what is shared counts as often as it is met; a slice's spare places count too). A statement '..UptoSaid' is the law's where the arguments, and the package variables that the reading takes, are together of bulk at most 1048576: NARROWER than '..Said'. Prove '..Said' where nothing that the law and all that it calls make is longer than what came in: it says more and counts as full. Else prove '..UptoSaid'. A law counts once. -/
mutual
def uptoBulk {H : Type} : DataW H → Nat
  | .lit (.string bytes) => bytes.length + 1
  | .lit _ => 1
  | .nil => 1
  | .ptr d => uptoBulk d + 1
  | .slice elems spare => uptoBulkAll elems + uptoBulkAll spare + 1
  | .agg parts => uptoBulkAll parts + 1
  | .iface _ d => uptoBulk d + 1
  | .map entries => uptoBulkEntries entries + 1
  | .held _ => 1
def uptoBulkAll {H : Type} : List (DataW H) → Nat
  | [] => 0
  | d :: r => uptoBulk d + uptoBulkAll r
def uptoBulkEntries {H : Type} : List (Lit × DataW H) → Nat
  | [] => 0
  | x :: r => uptoBulkEntry x + uptoBulkEntries r
def uptoBulkEntry {H : Type} : Lit × DataW H → Nat
  | (.string bytes, d) => bytes.length + uptoBulk d + 1
  | (_, d) => uptoBulk d + 1
 end
def uptoSmall : (H : Type) → List (DataW H) → Bool := fun _ ds => decide (uptoBulkAll ds ≤ 1048576)
def OpenSpec.upto (s : _root_.Go.ChangeSpec) : _root_.Go.OpenSpec := { _root_.Go.OpenSpec.ofChange s with cond := some uptoSmall }

/-- 'dispatcherlaw18.ClockMerges', WHERE WHAT IT READS IS OF BULK AT MOST 1048576: true; the input reads as it did. -/
def clockMergesUptoRow : OpenClaim := { program := "ytdcmdmlbpcekaaa", sum := "35863a84ccaf151683865d22ed75d3e57874e243432869ba6d12819040b9d587", func := "dispatcher/dispatcherlaw18.ClockMerges", spec := "clockMerges", unfollowed := true, recurses := true, apart := false, narrowed := true }
def ClockMergesUptoSaid : Prop := clockMergesUptoRow.holds Try.pinned (OpenSpec.upto clockMergesSpec)

/-- 'dispatcherlaw18.ClockTicks', WHERE WHAT IT READS IS OF BULK AT MOST 1048576: true; the input reads as it did. -/
def clockTicksUptoRow : OpenClaim := { program := "ytdcmdmlbpcekaaa", sum := "35863a84ccaf151683865d22ed75d3e57874e243432869ba6d12819040b9d587", func := "dispatcher/dispatcherlaw18.ClockTicks", spec := "clockTicks", unfollowed := true, recurses := true, apart := false, narrowed := true }
def ClockTicksUptoSaid : Prop := clockTicksUptoRow.holds Try.pinned (OpenSpec.upto clockTicksSpec)

/-- 'dispatcherlaw18.ClockTells', WHERE WHAT IT READS IS OF BULK AT MOST 1048576: true; the input reads as it did. -/
def clockTellsUptoRow : OpenClaim := { program := "ytdcmdmlbpcekaaa", sum := "35863a84ccaf151683865d22ed75d3e57874e243432869ba6d12819040b9d587", func := "dispatcher/dispatcherlaw18.ClockTells", spec := "clockTells", unfollowed := true, recurses := true, apart := false, narrowed := true }
def ClockTellsUptoSaid : Prop := clockTellsUptoRow.holds Try.pinned (OpenSpec.upto clockTellsSpec)

/-- 'dispatcherlaw18.ClockOrder', WHERE WHAT IT READS IS OF BULK AT MOST 1048576: true; the input reads as it did. -/
def clockOrderUptoRow : OpenClaim := { program := "ytdcmdmlbpcekaaa", sum := "35863a84ccaf151683865d22ed75d3e57874e243432869ba6d12819040b9d587", func := "dispatcher/dispatcherlaw18.ClockOrder", spec := "clockOrder", unfollowed := true, recurses := true, apart := false, narrowed := true }
def ClockOrderUptoSaid : Prop := clockOrderUptoRow.holds Try.pinned (OpenSpec.upto clockOrderSpec)

/-- 'dispatcherlaw18.ClockLeast', WHERE WHAT IT READS IS OF BULK AT MOST 1048576: true; the input reads as it did. -/
def clockLeastUptoRow : OpenClaim := { program := "ytdcmdmlbpcekaaa", sum := "35863a84ccaf151683865d22ed75d3e57874e243432869ba6d12819040b9d587", func := "dispatcher/dispatcherlaw18.ClockLeast", spec := "clockLeast", unfollowed := true, recurses := true, apart := false, narrowed := true }
def ClockLeastUptoSaid : Prop := clockLeastUptoRow.holds Try.pinned (OpenSpec.upto clockLeastSpec)

/-- 'dispatcherlaw18.ClockTicked', WHERE WHAT IT READS IS OF BULK AT MOST 1048576: true; the input reads as it did. -/
def clockTickedUptoRow : OpenClaim := { program := "ytdcmdmlbpcekaaa", sum := "35863a84ccaf151683865d22ed75d3e57874e243432869ba6d12819040b9d587", func := "dispatcher/dispatcherlaw18.ClockTicked", spec := "clockTicked", unfollowed := true, recurses := true, apart := false, narrowed := true }
def ClockTickedUptoSaid : Prop := clockTickedUptoRow.holds Try.pinned (OpenSpec.upto clockTickedSpec)

end Rows
end Go.Proofs.Ytdcmdmlbpcekaaa
