/-
  DERIVED. GIVEN WITH THE SEED: THE CARDS: each row of YtpkcnifchggbnaaDoorRows.lean that lists a variable, with what it lists TIED to the program's text (the seventh form; the later family's looks); each row that meets fmt, with fmt's text TOLD by the authors' own Lean function (tested against real Go, not proved from fmt's source: count such statements apart). THE CARD IS WHAT COUNTS. Prove the row's statement (the work); the ties are given (YtpkcnifchggbnaaDoorTie.lean); close each card by the builder's one call (the guide's Derived/Test/ToyasCard.lean, 'card_holds'). Laid BY PROGRAM, IN A SANDBOX (cutbox-door.mjs). By AI agents, Wed Nov 11 2026. No macro, syntax, notation, axiom, sorry.
-/
import Derived.Test.YtpkcnifchggbnaaDoorRows
import GoSem.ClaimSeven
namespace Go.Proofs.YtpkcnifchggbnaaDoor
namespace Rows

/-- THE TIED CARD OF 'dispatcherlaw23.SignOrder'. -/
def signOrderCard : Claim7 := { stood := { row := signOrderRow, standIns := [], harness := (true, "e753b11d9df50cfafda0fdbc031daa1a99205998f3776421dedea77346d1c111"), looks := false }, kinds := [], alts := [], laidByText := true, laidKinds := [.data, .data, .data, .data, .pinned], laidTests := true, laidLooks := .later }
def SignOrderCardSaid : Prop := Claim7.holds Tryd.pinned (.plain (OpenSpec.ofChange signOrderSpec)) signOrderCard

/-- THE TIED CARD OF 'dispatcherlaw23.SignJoined'. -/
def signJoinedCard : Claim7 := { stood := { row := signJoinedRow, standIns := [], harness := (true, "e753b11d9df50cfafda0fdbc031daa1a99205998f3776421dedea77346d1c111"), looks := false }, kinds := [], alts := [], laidByText := true, laidKinds := [.data, .data, .data, .data, .pinned], laidTests := true, laidLooks := .later }
def SignJoinedCardSaid : Prop := Claim7.holds Tryd.pinned (.plain (OpenSpec.ofChange signJoinedSpec)) signJoinedCard

/-- THE TIED CARD OF 'dispatcherlaw23.SignTexts'. -/
def signTextsCard : Claim7 := { stood := { row := signTextsRow, standIns := [], harness := (true, "e753b11d9df50cfafda0fdbc031daa1a99205998f3776421dedea77346d1c111"), looks := false }, kinds := [], alts := [], laidByText := true, laidKinds := [.data, .data, .data, .data, .pinned], laidTests := true, laidLooks := .later }
def SignTextsCardSaid : Prop := Claim7.holds Tryd.pinned (.plain (OpenSpec.ofChange signTextsSpec)) signTextsCard

/-- THE TIED CARD OF 'dispatcherlaw23.SignBack'. -/
def signBackCard : Claim7 := { stood := { row := signBackRow, standIns := [], harness := (true, "e753b11d9df50cfafda0fdbc031daa1a99205998f3776421dedea77346d1c111"), looks := false }, kinds := [], alts := [], laidByText := true, laidKinds := [.data, .data, .data, .data, .pinned], laidTests := true, laidLooks := .later }
def SignBackCardSaid : Prop := Claim7.holds Tryd.pinned (.plain (OpenSpec.ofChange signBackSpec)) signBackCard

/-- THE TIED CARD OF 'dispatcherlaw23.SignPuts'. -/
def signPutsCard : Claim7 := { stood := { row := signPutsRow, standIns := [], harness := (true, "e753b11d9df50cfafda0fdbc031daa1a99205998f3776421dedea77346d1c111"), looks := false }, kinds := [], alts := [], laidByText := true, laidKinds := [.data, .data, .data, .data, .pinned], laidTests := true, laidLooks := .later }
def SignPutsCardSaid : Prop := Claim7.holds Tryd.pinned (.plain (OpenSpec.ofChange signPutsSpec)) signPutsCard

/-- THE SECOND FORM's CARD OF 'dispatcherlaw23.SignOrder'. -/
def signOrderUptoCard : Claim7 := { stood := { row := signOrderUptoRow, standIns := [], harness := (true, "e753b11d9df50cfafda0fdbc031daa1a99205998f3776421dedea77346d1c111"), looks := false }, kinds := [], alts := [], laidByText := true, laidKinds := [.data, .data, .data, .data, .pinned], laidTests := true, laidLooks := .later }
def SignOrderUptoCardSaid : Prop := Claim7.holds Tryd.pinned (.plain (OpenSpec.upto signOrderSpec)) signOrderUptoCard

/-- THE SECOND FORM's CARD OF 'dispatcherlaw23.SignJoined'. -/
def signJoinedUptoCard : Claim7 := { stood := { row := signJoinedUptoRow, standIns := [], harness := (true, "e753b11d9df50cfafda0fdbc031daa1a99205998f3776421dedea77346d1c111"), looks := false }, kinds := [], alts := [], laidByText := true, laidKinds := [.data, .data, .data, .data, .pinned], laidTests := true, laidLooks := .later }
def SignJoinedUptoCardSaid : Prop := Claim7.holds Tryd.pinned (.plain (OpenSpec.upto signJoinedSpec)) signJoinedUptoCard

/-- THE SECOND FORM's CARD OF 'dispatcherlaw23.SignTexts'. -/
def signTextsUptoCard : Claim7 := { stood := { row := signTextsUptoRow, standIns := [], harness := (true, "e753b11d9df50cfafda0fdbc031daa1a99205998f3776421dedea77346d1c111"), looks := false }, kinds := [], alts := [], laidByText := true, laidKinds := [.data, .data, .data, .data, .pinned], laidTests := true, laidLooks := .later }
def SignTextsUptoCardSaid : Prop := Claim7.holds Tryd.pinned (.plain (OpenSpec.upto signTextsSpec)) signTextsUptoCard

/-- THE SECOND FORM's CARD OF 'dispatcherlaw23.SignBack'. -/
def signBackUptoCard : Claim7 := { stood := { row := signBackUptoRow, standIns := [], harness := (true, "e753b11d9df50cfafda0fdbc031daa1a99205998f3776421dedea77346d1c111"), looks := false }, kinds := [], alts := [], laidByText := true, laidKinds := [.data, .data, .data, .data, .pinned], laidTests := true, laidLooks := .later }
def SignBackUptoCardSaid : Prop := Claim7.holds Tryd.pinned (.plain (OpenSpec.upto signBackSpec)) signBackUptoCard

/-- THE SECOND FORM's CARD OF 'dispatcherlaw23.SignPuts'. -/
def signPutsUptoCard : Claim7 := { stood := { row := signPutsUptoRow, standIns := [], harness := (true, "e753b11d9df50cfafda0fdbc031daa1a99205998f3776421dedea77346d1c111"), looks := false }, kinds := [], alts := [], laidByText := true, laidKinds := [.data, .data, .data, .data, .pinned], laidTests := true, laidLooks := .later }
def SignPutsUptoCardSaid : Prop := Claim7.holds Tryd.pinned (.plain (OpenSpec.upto signPutsSpec)) signPutsUptoCard
end Rows
end Go.Proofs.YtpkcnifchggbnaaDoor
