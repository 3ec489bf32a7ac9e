/-
  DERIVED. GIVEN WITH THE SEED: THE CARDS: each row of YtfmlpcdbllpcaaaDoorRows.lean that lists a variable, with what it lists TIED to the program's text (the seventh form; the later family's looks); each row that meets fmt, with fmt's text TOLD by the authors' own Lean function (tested against real Go, not proved from fmt's source: count such statements apart). THE CARD IS WHAT COUNTS. Prove the row's statement (the work); the ties are given (YtfmlpcdbllpcaaaDoorTie.lean); close each card by the builder's one call (the guide's Derived/Test/ToyasCard.lean, 'card_holds'). Laid BY PROGRAM, IN A SANDBOX (cutbox-door.mjs). By AI agents, Wed Nov 11 2026. No macro, syntax, notation, axiom, sorry.
-/
import Derived.Test.YtfmlpcdbllpcaaaDoorRows
import GoSem.ClaimSeven
namespace Go.Proofs.YtfmlpcdbllpcaaaDoor
namespace Rows

/-- THE TIED CARD OF 'dispatcherlaw24.PathTexts'. -/
def pathTextsCard : Claim7 := { stood := { row := pathTextsRow, standIns := [], harness := (true, "f62bfb491403eb52d6485c711443f7841b034f1ede206a3338a31766bf2071b5"), looks := false }, kinds := [], alts := [], laidByText := true, laidKinds := [.data, .data, .data], laidTests := true, laidLooks := .later }
def PathTextsCardSaid : Prop := Claim7.holds Tryd.pinned (.plain (OpenSpec.ofChange pathTextsSpec)) pathTextsCard

/-- THE TIED CARD OF 'dispatcherlaw24.PathTree'. -/
def pathTreeCard : Claim7 := { stood := { row := pathTreeRow, standIns := [], harness := (true, "f62bfb491403eb52d6485c711443f7841b034f1ede206a3338a31766bf2071b5"), looks := false }, kinds := [], alts := [], laidByText := true, laidKinds := [.data, .data, .data], laidTests := true, laidLooks := .later }
def PathTreeCardSaid : Prop := Claim7.holds Tryd.pinned (.plain (OpenSpec.ofChange pathTreeSpec)) pathTreeCard

/-- THE TIED CARD OF 'dispatcherlaw24.PathOrder'. -/
def pathOrderCard : Claim7 := { stood := { row := pathOrderRow, standIns := [], harness := (true, "f62bfb491403eb52d6485c711443f7841b034f1ede206a3338a31766bf2071b5"), looks := false }, kinds := [], alts := [], laidByText := true, laidKinds := [.data, .data, .data], laidTests := true, laidLooks := .later }
def PathOrderCardSaid : Prop := Claim7.holds Tryd.pinned (.plain (OpenSpec.ofChange pathOrderSpec)) pathOrderCard

/-- THE TIED CARD OF 'dispatcherlaw24.PathEnds'. -/
def pathEndsCard : Claim7 := { stood := { row := pathEndsRow, standIns := [], harness := (true, "f62bfb491403eb52d6485c711443f7841b034f1ede206a3338a31766bf2071b5"), looks := false }, kinds := [], alts := [], laidByText := true, laidKinds := [.data, .data, .data], laidTests := true, laidLooks := .later }
def PathEndsCardSaid : Prop := Claim7.holds Tryd.pinned (.plain (OpenSpec.ofChange pathEndsSpec)) pathEndsCard

/-- THE SECOND FORM's CARD OF 'dispatcherlaw24.PathTexts'. -/
def pathTextsUptoCard : Claim7 := { stood := { row := pathTextsUptoRow, standIns := [], harness := (true, "f62bfb491403eb52d6485c711443f7841b034f1ede206a3338a31766bf2071b5"), looks := false }, kinds := [], alts := [], laidByText := true, laidKinds := [.data, .data, .data], laidTests := true, laidLooks := .later }
def PathTextsUptoCardSaid : Prop := Claim7.holds Tryd.pinned (.plain (OpenSpec.upto pathTextsSpec)) pathTextsUptoCard

/-- THE SECOND FORM's CARD OF 'dispatcherlaw24.PathTree'. -/
def pathTreeUptoCard : Claim7 := { stood := { row := pathTreeUptoRow, standIns := [], harness := (true, "f62bfb491403eb52d6485c711443f7841b034f1ede206a3338a31766bf2071b5"), looks := false }, kinds := [], alts := [], laidByText := true, laidKinds := [.data, .data, .data], laidTests := true, laidLooks := .later }
def PathTreeUptoCardSaid : Prop := Claim7.holds Tryd.pinned (.plain (OpenSpec.upto pathTreeSpec)) pathTreeUptoCard

/-- THE SECOND FORM's CARD OF 'dispatcherlaw24.PathOrder'. -/
def pathOrderUptoCard : Claim7 := { stood := { row := pathOrderUptoRow, standIns := [], harness := (true, "f62bfb491403eb52d6485c711443f7841b034f1ede206a3338a31766bf2071b5"), looks := false }, kinds := [], alts := [], laidByText := true, laidKinds := [.data, .data, .data], laidTests := true, laidLooks := .later }
def PathOrderUptoCardSaid : Prop := Claim7.holds Tryd.pinned (.plain (OpenSpec.upto pathOrderSpec)) pathOrderUptoCard

/-- THE SECOND FORM's CARD OF 'dispatcherlaw24.PathEnds'. -/
def pathEndsUptoCard : Claim7 := { stood := { row := pathEndsUptoRow, standIns := [], harness := (true, "f62bfb491403eb52d6485c711443f7841b034f1ede206a3338a31766bf2071b5"), looks := false }, kinds := [], alts := [], laidByText := true, laidKinds := [.data, .data, .data], laidTests := true, laidLooks := .later }
def PathEndsUptoCardSaid : Prop := Claim7.holds Tryd.pinned (.plain (OpenSpec.upto pathEndsSpec)) pathEndsUptoCard
end Rows
end Go.Proofs.YtfmlpcdbllpcaaaDoor
