/-
  DERIVED. GIVEN WITH THE SEED: THE CARDS: each row of YtkifmhfgplhabaaDoorRows.lean that lists a variable, with what it lists TIED to the program's text (the seventh form; the later family's looks); each row that meets fmt, with fmt's text TOLD by the authors' own Lean function (tested against real Go, not proved from fmt's source: count such statements apart). THE CARD IS WHAT COUNTS. Prove the row's statement (the work); the ties are given (YtkifmhfgplhabaaDoorTie.lean); close each card by the builder's one call (the guide's Derived/Test/ToyasCard.lean, 'card_holds'). Laid BY PROGRAM, IN A SANDBOX (cutbox-door.mjs). By AI agents, Wed Nov 11 2026. No macro, syntax, notation, axiom, sorry.
-/
import Derived.Test.YtkifmhfgplhabaaDoorRows
import GoSem.ClaimSeven
namespace Go.Proofs.YtkifmhfgplhabaaDoor
namespace Rows

/-- THE TIED CARD OF 'dispatcherlaw11.GroupSplits'. -/
def groupSplitsCard : Claim7 := { stood := { row := groupSplitsRow, standIns := [], harness := (true, "760d6c437993a9626927294e0e71dbb4d9bc588922f608ee209cac46c17cbc19"), looks := false }, kinds := [], alts := [], laidByText := true, laidKinds := [.data, .data, .data], laidTests := true, laidLooks := .later }
def GroupSplitsCardSaid : Prop := Claim7.holds Tryd.pinned (.plain (OpenSpec.ofChange groupSplitsSpec)) groupSplitsCard

/-- THE TIED CARD OF 'dispatcherlaw11.GroupOne'. -/
def groupOneCard : Claim7 := { stood := { row := groupOneRow, standIns := [], harness := (true, "760d6c437993a9626927294e0e71dbb4d9bc588922f608ee209cac46c17cbc19"), looks := false }, kinds := [], alts := [], laidByText := true, laidKinds := [.data, .data, .data], laidTests := true, laidLooks := .later }
def GroupOneCardSaid : Prop := Claim7.holds Tryd.pinned (.plain (OpenSpec.ofChange groupOneSpec)) groupOneCard

/-- THE TIED CARD OF 'dispatcherlaw11.GroupKeys'. -/
def groupKeysCard : Claim7 := { stood := { row := groupKeysRow, standIns := [], harness := (true, "760d6c437993a9626927294e0e71dbb4d9bc588922f608ee209cac46c17cbc19"), looks := false }, kinds := [], alts := [], laidByText := true, laidKinds := [.data, .data, .data], laidTests := true, laidLooks := .later }
def GroupKeysCardSaid : Prop := Claim7.holds Tryd.pinned (.plain (OpenSpec.ofChange groupKeysSpec)) groupKeysCard

/-- THE TIED CARD OF 'dispatcherlaw11.GroupParts'. -/
def groupPartsCard : Claim7 := { stood := { row := groupPartsRow, standIns := [], harness := (true, "760d6c437993a9626927294e0e71dbb4d9bc588922f608ee209cac46c17cbc19"), looks := false }, kinds := [], alts := [], laidByText := true, laidKinds := [.data, .data, .data], laidTests := true, laidLooks := .later }
def GroupPartsCardSaid : Prop := Claim7.holds Tryd.pinned (.plain (OpenSpec.ofChange groupPartsSpec)) groupPartsCard

/-- THE TIED CARD OF 'dispatcherlaw11.GroupRound'. -/
def groupRoundCard : Claim7 := { stood := { row := groupRoundRow, standIns := [], harness := (true, "760d6c437993a9626927294e0e71dbb4d9bc588922f608ee209cac46c17cbc19"), looks := false }, kinds := [], alts := [], laidByText := true, laidKinds := [.data, .data, .data], laidTests := true, laidLooks := .later }
def GroupRoundCardSaid : Prop := Claim7.holds Tryd.pinned (.plain (OpenSpec.ofChange groupRoundSpec)) groupRoundCard

/-- THE TIED CARD OF 'dispatcherlaw11.GroupHandles'. -/
def groupHandlesCard : Claim7 := { stood := { row := groupHandlesRow, standIns := [], harness := (true, "760d6c437993a9626927294e0e71dbb4d9bc588922f608ee209cac46c17cbc19"), looks := false }, kinds := [], alts := [], laidByText := true, laidKinds := [.data, .data, .data], laidTests := true, laidLooks := .later }
def GroupHandlesCardSaid : Prop := Claim7.holds Tryd.pinned (.plain (OpenSpec.ofChange groupHandlesSpec)) groupHandlesCard

/-- THE SECOND FORM's CARD OF 'dispatcherlaw11.GroupSplits'. -/
def groupSplitsUptoCard : Claim7 := { stood := { row := groupSplitsUptoRow, standIns := [], harness := (true, "760d6c437993a9626927294e0e71dbb4d9bc588922f608ee209cac46c17cbc19"), looks := false }, kinds := [], alts := [], laidByText := true, laidKinds := [.data, .data, .data], laidTests := true, laidLooks := .later }
def GroupSplitsUptoCardSaid : Prop := Claim7.holds Tryd.pinned (.plain (OpenSpec.upto groupSplitsSpec)) groupSplitsUptoCard

/-- THE SECOND FORM's CARD OF 'dispatcherlaw11.GroupOne'. -/
def groupOneUptoCard : Claim7 := { stood := { row := groupOneUptoRow, standIns := [], harness := (true, "760d6c437993a9626927294e0e71dbb4d9bc588922f608ee209cac46c17cbc19"), looks := false }, kinds := [], alts := [], laidByText := true, laidKinds := [.data, .data, .data], laidTests := true, laidLooks := .later }
def GroupOneUptoCardSaid : Prop := Claim7.holds Tryd.pinned (.plain (OpenSpec.upto groupOneSpec)) groupOneUptoCard

/-- THE SECOND FORM's CARD OF 'dispatcherlaw11.GroupKeys'. -/
def groupKeysUptoCard : Claim7 := { stood := { row := groupKeysUptoRow, standIns := [], harness := (true, "760d6c437993a9626927294e0e71dbb4d9bc588922f608ee209cac46c17cbc19"), looks := false }, kinds := [], alts := [], laidByText := true, laidKinds := [.data, .data, .data], laidTests := true, laidLooks := .later }
def GroupKeysUptoCardSaid : Prop := Claim7.holds Tryd.pinned (.plain (OpenSpec.upto groupKeysSpec)) groupKeysUptoCard

/-- THE SECOND FORM's CARD OF 'dispatcherlaw11.GroupParts'. -/
def groupPartsUptoCard : Claim7 := { stood := { row := groupPartsUptoRow, standIns := [], harness := (true, "760d6c437993a9626927294e0e71dbb4d9bc588922f608ee209cac46c17cbc19"), looks := false }, kinds := [], alts := [], laidByText := true, laidKinds := [.data, .data, .data], laidTests := true, laidLooks := .later }
def GroupPartsUptoCardSaid : Prop := Claim7.holds Tryd.pinned (.plain (OpenSpec.upto groupPartsSpec)) groupPartsUptoCard

/-- THE SECOND FORM's CARD OF 'dispatcherlaw11.GroupRound'. -/
def groupRoundUptoCard : Claim7 := { stood := { row := groupRoundUptoRow, standIns := [], harness := (true, "760d6c437993a9626927294e0e71dbb4d9bc588922f608ee209cac46c17cbc19"), looks := false }, kinds := [], alts := [], laidByText := true, laidKinds := [.data, .data, .data], laidTests := true, laidLooks := .later }
def GroupRoundUptoCardSaid : Prop := Claim7.holds Tryd.pinned (.plain (OpenSpec.upto groupRoundSpec)) groupRoundUptoCard

/-- THE SECOND FORM's CARD OF 'dispatcherlaw11.GroupHandles'. -/
def groupHandlesUptoCard : Claim7 := { stood := { row := groupHandlesUptoRow, standIns := [], harness := (true, "760d6c437993a9626927294e0e71dbb4d9bc588922f608ee209cac46c17cbc19"), looks := false }, kinds := [], alts := [], laidByText := true, laidKinds := [.data, .data, .data], laidTests := true, laidLooks := .later }
def GroupHandlesUptoCardSaid : Prop := Claim7.holds Tryd.pinned (.plain (OpenSpec.upto groupHandlesSpec)) groupHandlesUptoCard
end Rows
end Go.Proofs.YtkifmhfgplhabaaDoor
