/-
  DERIVED. GIVEN WITH THE SEED: THE CARDS: each row of YtbnonpbnhenkfaaGreatDoorRows.lean that lists a variable, with what it lists TIED to the program's text (the seventh form; the later family's looks); each row that meets fmt, with fmt's text TOLD by the authors' own Lean function (tested against real Go, not proved from fmt's source: count such statements apart). THE CARD IS WHAT COUNTS. Prove the row's statement (the work); the ties are given (YtbnonpbnhenkfaaGreatDoorTie.lean); close each card by the builder's one call (the guide's Derived/Test/ToyasCard.lean, 'card_holds'). Laid BY PROGRAM, IN A SANDBOX (cutbox-door.mjs). By AI agents, Wed Nov 11 2026. No macro, syntax, notation, axiom, sorry.
-/
import Derived.Test.YtbnonpbnhenkfaaGreatDoorRows
import GoSem.ClaimSeven
namespace Go.Proofs.YtbnonpbnhenkfaaGreatDoor
namespace Rows

/-- THE TIED CARD OF 'demesnetop.TopUnseen'. -/
def topUnseenCard : Claim7 := { stood := { row := topUnseenRow, standIns := [], harness := (true, "2b4d5e5277b437985333039ecfee4bec1464b9fcc9c7fa6cfdd9f3068463ccf8"), looks := true }, kinds := [], alts := [], laidByText := true, laidKinds := [.data, .data, .data, .widerDeep, .widerDeep, .data, .widerDeep, .pinned], laidTests := true, laidLooks := .later }
def TopUnseenCardSaid : Prop := Claim7.holds Tryz.pinned (.plain (OpenSpec.ofChange topUnseenSpec)) topUnseenCard

/-- THE TIED CARD OF 'demesnetop.TopSafe'. -/
def topSafeCard : Claim7 := { stood := { row := topSafeRow, standIns := [], harness := (true, "2b4d5e5277b437985333039ecfee4bec1464b9fcc9c7fa6cfdd9f3068463ccf8"), looks := true }, kinds := [], alts := [], laidByText := true, laidKinds := [.data, .data, .data, .widerDeep, .widerDeep, .data, .widerDeep, .pinned], laidTests := true, laidLooks := .later }
def TopSafeCardSaid : Prop := Claim7.holds Tryz.pinned (.plain (OpenSpec.ofChange topSafeSpec)) topSafeCard

/-- THE TIED CARD OF 'demesnetop.TopTight'. -/
def topTightCard : Claim7 := { stood := { row := topTightRow, standIns := [], harness := (true, "2b4d5e5277b437985333039ecfee4bec1464b9fcc9c7fa6cfdd9f3068463ccf8"), looks := true }, kinds := [], alts := [], laidByText := true, laidKinds := [.data, .data, .data, .widerDeep, .widerDeep, .data, .widerDeep, .pinned], laidTests := true, laidLooks := .later }
def TopTightCardSaid : Prop := Claim7.holds Tryz.pinned (.plain (OpenSpec.ofChange topTightSpec)) topTightCard

/-- THE SECOND FORM's CARD OF 'demesnetop.TopUnseen'. -/
def topUnseenUptoCard : Claim7 := { stood := { row := topUnseenUptoRow, standIns := [], harness := (true, "2b4d5e5277b437985333039ecfee4bec1464b9fcc9c7fa6cfdd9f3068463ccf8"), looks := true }, kinds := [], alts := [], laidByText := true, laidKinds := [.data, .data, .data, .widerDeep, .widerDeep, .data, .widerDeep, .pinned], laidTests := true, laidLooks := .later }
def TopUnseenUptoCardSaid : Prop := Claim7.holds Tryz.pinned (.plain (OpenSpec.upto topUnseenSpec)) topUnseenUptoCard

/-- THE SECOND FORM's CARD OF 'demesnetop.TopSafe'. -/
def topSafeUptoCard : Claim7 := { stood := { row := topSafeUptoRow, standIns := [], harness := (true, "2b4d5e5277b437985333039ecfee4bec1464b9fcc9c7fa6cfdd9f3068463ccf8"), looks := true }, kinds := [], alts := [], laidByText := true, laidKinds := [.data, .data, .data, .widerDeep, .widerDeep, .data, .widerDeep, .pinned], laidTests := true, laidLooks := .later }
def TopSafeUptoCardSaid : Prop := Claim7.holds Tryz.pinned (.plain (OpenSpec.upto topSafeSpec)) topSafeUptoCard

/-- THE SECOND FORM's CARD OF 'demesnetop.TopTight'. -/
def topTightUptoCard : Claim7 := { stood := { row := topTightUptoRow, standIns := [], harness := (true, "2b4d5e5277b437985333039ecfee4bec1464b9fcc9c7fa6cfdd9f3068463ccf8"), looks := true }, kinds := [], alts := [], laidByText := true, laidKinds := [.data, .data, .data, .widerDeep, .widerDeep, .data, .widerDeep, .pinned], laidTests := true, laidLooks := .later }
def TopTightUptoCardSaid : Prop := Claim7.holds Tryz.pinned (.plain (OpenSpec.upto topTightSpec)) topTightUptoCard
end Rows
end Go.Proofs.YtbnonpbnhenkfaaGreatDoor
