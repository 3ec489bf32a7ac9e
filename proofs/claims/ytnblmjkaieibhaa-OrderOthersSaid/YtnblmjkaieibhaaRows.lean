/-
  No cell of these rows narrows 'for every input' (looked for: loops, veiled, ifaces, maps, wideKeys, modest, calm, conditions, laid).
  DERIVED. THE GIVEN ROWS OF THIS SEAT. 6 by the template 'for every input the law returns true; each argument reads behind the call as it read before'; 0 by the template 'total and deterministic' (their statements: YtnblmjkaieibhaaTotals.lean).
  GIVEN WITH THE SEED: the statements are not yours to turn. If you find one false, say at which input.
  Laid BY PROGRAM, IN A SANDBOX (cutbox-rows.mjs): the forced cells as the released guide's own fill.sh prints them over the translation b0f6c4ad4741aa53… (all of the seat's roots in one cut). By AI agents, Wed Nov 11 2026. No macro, syntax, notation, axiom, sorry.
-/
import Derived.Test.YtnblmjkaieibhaaChecked
import GoSem.Claim
import GoSem.ClaimJoined
import GoSem.ClaimMapViews
import Derived.JoinedTies
import Derived.KernelRfl
namespace Go.Proofs.Ytnblmjkaieibhaa
/- THE CELL 'sum', in the pinned program and in every row, IS THE sha256 OF THE DUMP (.gsa) THAT YtnblmjkaieibhaaProg.lean LOADS. Nothing in Lean hashes anything: it is a label: what it is worth is what the hold of that sum in a sandbox is worth. -/
noncomputable def Try.pinned : Pinned := { name := "ytnblmjkaieibhaa", sum := "b0f6c4ad4741aa53d740434f584a0fc019a0666988fcc8bbe816137ef8aba336", checked := Try.checked }
namespace Rows
def none {H : Type} : Left H := { results := [], args := [] }

/-- 'dispatcherlaw19.OrderClocks': WHATEVER THE INPUT: true; the input reads as it did. -/
def orderClocksSpec : ChangeSpec := { name := "orderClocks", fn := fun _ => fun
  | [d1, d2] => { results := [.lit (.bool true)], args := [d1, d2] }
  | _ => none }
def orderClocksRow : OpenClaim := { program := "ytnblmjkaieibhaa", sum := "b0f6c4ad4741aa53d740434f584a0fc019a0666988fcc8bbe816137ef8aba336", func := "dispatcher/dispatcherlaw19.OrderClocks", spec := "orderClocks", unfollowed := true, recurses := true, apart := false }
def OrderClocksSaid : Prop := orderClocksRow.holds Try.pinned (OpenSpec.ofChange orderClocksSpec)

/-- ITS FALSE NEIGHBOUR: 'it returns false'. Refute it at one input. -/
def orderClocksWrong : ChangeSpec := { name := "orderClocks", fn := fun _ => fun
  | [d1, d2] => { results := [.lit (.bool false)], args := [d1, d2] }
  | _ => none }
def OrderClocksWrongFalsely : Prop := orderClocksRow.holds Try.pinned (OpenSpec.ofChange orderClocksWrong)

/-- 'dispatcherlaw19.OrderAhead': WHATEVER THE INPUT: true; the input reads as it did. -/
def orderAheadSpec : ChangeSpec := { name := "orderAhead", fn := fun _ => fun
  | [d1, d2, d3] => { results := [.lit (.bool true)], args := [d1, d2, d3] }
  | _ => none }
def orderAheadRow : OpenClaim := { program := "ytnblmjkaieibhaa", sum := "b0f6c4ad4741aa53d740434f584a0fc019a0666988fcc8bbe816137ef8aba336", func := "dispatcher/dispatcherlaw19.OrderAhead", spec := "orderAhead", unfollowed := true, recurses := true, apart := false }
def OrderAheadSaid : Prop := orderAheadRow.holds Try.pinned (OpenSpec.ofChange orderAheadSpec)

/-- ITS FALSE NEIGHBOUR: 'it returns false'. Refute it at one input. -/
def orderAheadWrong : ChangeSpec := { name := "orderAhead", fn := fun _ => fun
  | [d1, d2, d3] => { results := [.lit (.bool false)], args := [d1, d2, d3] }
  | _ => none }
def OrderAheadWrongFalsely : Prop := orderAheadRow.holds Try.pinned (OpenSpec.ofChange orderAheadWrong)

/-- 'dispatcherlaw19.OrderRows': WHATEVER THE INPUT: true; the input reads as it did. -/
def orderRowsSpec : ChangeSpec := { name := "orderRows", fn := fun _ => fun
  | [d1, d2, d3] => { results := [.lit (.bool true)], args := [d1, d2, d3] }
  | _ => none }
def orderRowsRow : OpenClaim := { program := "ytnblmjkaieibhaa", sum := "b0f6c4ad4741aa53d740434f584a0fc019a0666988fcc8bbe816137ef8aba336", func := "dispatcher/dispatcherlaw19.OrderRows", spec := "orderRows", unfollowed := true, recurses := true, apart := false }
def OrderRowsSaid : Prop := orderRowsRow.holds Try.pinned (OpenSpec.ofChange orderRowsSpec)

/-- ITS FALSE NEIGHBOUR: 'it returns false'. Refute it at one input. -/
def orderRowsWrong : ChangeSpec := { name := "orderRows", fn := fun _ => fun
  | [d1, d2, d3] => { results := [.lit (.bool false)], args := [d1, d2, d3] }
  | _ => none }
def OrderRowsWrongFalsely : Prop := orderRowsRow.holds Try.pinned (OpenSpec.ofChange orderRowsWrong)

/-- 'dispatcherlaw19.OrderTells': WHATEVER THE INPUT: true; the input reads as it did. -/
def orderTellsSpec : ChangeSpec := { name := "orderTells", fn := fun _ => fun
  | [d1, d2] => { results := [.lit (.bool true)], args := [d1, d2] }
  | _ => none }
def orderTellsRow : OpenClaim := { program := "ytnblmjkaieibhaa", sum := "b0f6c4ad4741aa53d740434f584a0fc019a0666988fcc8bbe816137ef8aba336", func := "dispatcher/dispatcherlaw19.OrderTells", spec := "orderTells", unfollowed := true, recurses := true, apart := false }
def OrderTellsSaid : Prop := orderTellsRow.holds Try.pinned (OpenSpec.ofChange orderTellsSpec)

/-- ITS FALSE NEIGHBOUR: 'it returns false'. Refute it at one input. -/
def orderTellsWrong : ChangeSpec := { name := "orderTells", fn := fun _ => fun
  | [d1, d2] => { results := [.lit (.bool false)], args := [d1, d2] }
  | _ => none }
def OrderTellsWrongFalsely : Prop := orderTellsRow.holds Try.pinned (OpenSpec.ofChange orderTellsWrong)

/-- 'dispatcherlaw19.OrderOrder': WHATEVER THE INPUT: true; the input reads as it did. -/
def orderOrderSpec : ChangeSpec := { name := "orderOrder", fn := fun _ => fun
  | [d1, d2, d3, d4, d5] => { results := [.lit (.bool true)], args := [d1, d2, d3, d4, d5] }
  | _ => none }
def orderOrderRow : OpenClaim := { program := "ytnblmjkaieibhaa", sum := "b0f6c4ad4741aa53d740434f584a0fc019a0666988fcc8bbe816137ef8aba336", func := "dispatcher/dispatcherlaw19.OrderOrder", spec := "orderOrder", unfollowed := true, recurses := true, apart := false }
def OrderOrderSaid : Prop := orderOrderRow.holds Try.pinned (OpenSpec.ofChange orderOrderSpec)

/-- ITS FALSE NEIGHBOUR: 'it returns false'. Refute it at one input. -/
def orderOrderWrong : ChangeSpec := { name := "orderOrder", fn := fun _ => fun
  | [d1, d2, d3, d4, d5] => { results := [.lit (.bool false)], args := [d1, d2, d3, d4, d5] }
  | _ => none }
def OrderOrderWrongFalsely : Prop := orderOrderRow.holds Try.pinned (OpenSpec.ofChange orderOrderWrong)

/-- 'dispatcherlaw19.OrderOthers': WHATEVER THE INPUT: true; the input reads as it did. -/
def orderOthersSpec : ChangeSpec := { name := "orderOthers", fn := fun _ => fun
  | [d1, d2, d3, d4] => { results := [.lit (.bool true)], args := [d1, d2, d3, d4] }
  | _ => none }
def orderOthersRow : OpenClaim := { program := "ytnblmjkaieibhaa", sum := "b0f6c4ad4741aa53d740434f584a0fc019a0666988fcc8bbe816137ef8aba336", func := "dispatcher/dispatcherlaw19.OrderOthers", spec := "orderOthers", unfollowed := true, recurses := true, apart := false }
def OrderOthersSaid : Prop := orderOthersRow.holds Try.pinned (OpenSpec.ofChange orderOthersSpec)

/-- ITS FALSE NEIGHBOUR: 'it returns false'. Refute it at one input. -/
def orderOthersWrong : ChangeSpec := { name := "orderOthers", fn := fun _ => fun
  | [d1, d2, d3, d4] => { results := [.lit (.bool false)], args := [d1, d2, d3, d4] }
  | _ => none }
def OrderOthersWrongFalsely : Prop := orderOthersRow.holds Try.pinned (OpenSpec.ofChange orderOthersWrong)

/- THE SECOND FORM. 'bulk': how many values and letters a reading holds, each counted each time it is reached (what is shared counts as often as it is met; a slice's spare places count too). A statement '..UptoSaid' is the law's where the arguments, and the package variables that the reading takes, are together of bulk at most 1048576: NARROWER than '..Said'. Prove '..Said' where nothing that the law and all that it calls make is longer than what came in: it says more and counts as full. Else prove '..UptoSaid'. A law counts once. -/
mutual
def uptoBulk {H : Type} : DataW H → Nat
  | .lit (.string bytes) => bytes.length + 1
  | .lit _ => 1
  | .nil => 1
  | .ptr d => uptoBulk d + 1
  | .slice elems spare => uptoBulkAll elems + uptoBulkAll spare + 1
  | .agg parts => uptoBulkAll parts + 1
  | .iface _ d => uptoBulk d + 1
  | .map entries => uptoBulkEntries entries + 1
  | .held _ => 1
def uptoBulkAll {H : Type} : List (DataW H) → Nat
  | [] => 0
  | d :: r => uptoBulk d + uptoBulkAll r
def uptoBulkEntries {H : Type} : List (Lit × DataW H) → Nat
  | [] => 0
  | x :: r => uptoBulkEntry x + uptoBulkEntries r
def uptoBulkEntry {H : Type} : Lit × DataW H → Nat
  | (.string bytes, d) => bytes.length + uptoBulk d + 1
  | (_, d) => uptoBulk d + 1
 end
def uptoSmall : (H : Type) → List (DataW H) → Bool := fun _ ds => decide (uptoBulkAll ds ≤ 1048576)
def OpenSpec.upto (s : _root_.Go.ChangeSpec) : _root_.Go.OpenSpec := { _root_.Go.OpenSpec.ofChange s with cond := some uptoSmall }

/-- 'dispatcherlaw19.OrderClocks', WHERE WHAT IT READS IS OF BULK AT MOST 1048576: true; the input reads as it did. -/
def orderClocksUptoRow : OpenClaim := { program := "ytnblmjkaieibhaa", sum := "b0f6c4ad4741aa53d740434f584a0fc019a0666988fcc8bbe816137ef8aba336", func := "dispatcher/dispatcherlaw19.OrderClocks", spec := "orderClocks", unfollowed := true, recurses := true, apart := false, narrowed := true }
def OrderClocksUptoSaid : Prop := orderClocksUptoRow.holds Try.pinned (OpenSpec.upto orderClocksSpec)

/-- 'dispatcherlaw19.OrderAhead', WHERE WHAT IT READS IS OF BULK AT MOST 1048576: true; the input reads as it did. -/
def orderAheadUptoRow : OpenClaim := { program := "ytnblmjkaieibhaa", sum := "b0f6c4ad4741aa53d740434f584a0fc019a0666988fcc8bbe816137ef8aba336", func := "dispatcher/dispatcherlaw19.OrderAhead", spec := "orderAhead", unfollowed := true, recurses := true, apart := false, narrowed := true }
def OrderAheadUptoSaid : Prop := orderAheadUptoRow.holds Try.pinned (OpenSpec.upto orderAheadSpec)

/-- 'dispatcherlaw19.OrderRows', WHERE WHAT IT READS IS OF BULK AT MOST 1048576: true; the input reads as it did. -/
def orderRowsUptoRow : OpenClaim := { program := "ytnblmjkaieibhaa", sum := "b0f6c4ad4741aa53d740434f584a0fc019a0666988fcc8bbe816137ef8aba336", func := "dispatcher/dispatcherlaw19.OrderRows", spec := "orderRows", unfollowed := true, recurses := true, apart := false, narrowed := true }
def OrderRowsUptoSaid : Prop := orderRowsUptoRow.holds Try.pinned (OpenSpec.upto orderRowsSpec)

/-- 'dispatcherlaw19.OrderTells', WHERE WHAT IT READS IS OF BULK AT MOST 1048576: true; the input reads as it did. -/
def orderTellsUptoRow : OpenClaim := { program := "ytnblmjkaieibhaa", sum := "b0f6c4ad4741aa53d740434f584a0fc019a0666988fcc8bbe816137ef8aba336", func := "dispatcher/dispatcherlaw19.OrderTells", spec := "orderTells", unfollowed := true, recurses := true, apart := false, narrowed := true }
def OrderTellsUptoSaid : Prop := orderTellsUptoRow.holds Try.pinned (OpenSpec.upto orderTellsSpec)

/-- 'dispatcherlaw19.OrderOrder', WHERE WHAT IT READS IS OF BULK AT MOST 1048576: true; the input reads as it did. -/
def orderOrderUptoRow : OpenClaim := { program := "ytnblmjkaieibhaa", sum := "b0f6c4ad4741aa53d740434f584a0fc019a0666988fcc8bbe816137ef8aba336", func := "dispatcher/dispatcherlaw19.OrderOrder", spec := "orderOrder", unfollowed := true, recurses := true, apart := false, narrowed := true }
def OrderOrderUptoSaid : Prop := orderOrderUptoRow.holds Try.pinned (OpenSpec.upto orderOrderSpec)

/-- 'dispatcherlaw19.OrderOthers', WHERE WHAT IT READS IS OF BULK AT MOST 1048576: true; the input reads as it did. -/
def orderOthersUptoRow : OpenClaim := { program := "ytnblmjkaieibhaa", sum := "b0f6c4ad4741aa53d740434f584a0fc019a0666988fcc8bbe816137ef8aba336", func := "dispatcher/dispatcherlaw19.OrderOthers", spec := "orderOthers", unfollowed := true, recurses := true, apart := false, narrowed := true }
def OrderOthersUptoSaid : Prop := orderOthersUptoRow.holds Try.pinned (OpenSpec.upto orderOthersSpec)

end Rows
end Go.Proofs.Ytnblmjkaieibhaa
