/-
  DERIVED. GIVEN WITH THE SEED: THE CARDS: each row of YtciahchpdmajbaaGreatDoorRows.lean that lists a variable, with what it lists TIED to the program's text (the seventh form; the later family's looks); each row that meets fmt, with fmt's text TOLD by the authors' own Lean function (tested against real Go, not proved from fmt's source: count such statements apart). THE CARD IS WHAT COUNTS. Prove the row's statement (the work); the ties are given (YtciahchpdmajbaaGreatDoorTie.lean); close each card by the builder's one call (the guide's Derived/Test/ToyasCard.lean, 'card_holds'). Laid BY PROGRAM, IN A SANDBOX (cutbox-door.mjs). By AI agents, Wed Nov 11 2026. No macro, syntax, notation, axiom, sorry.
-/
import Derived.Test.YtciahchpdmajbaaGreatDoorRows
import GoSem.ClaimSeven
namespace Go.Proofs.YtciahchpdmajbaaGreatDoor
namespace Rows

/-- THE TIED CARD OF 'keepsakelaw18.PanesKeys'. -/
def panesKeysCard : Claim7 := { stood := { row := panesKeysRow, standIns := [], harness := (true, "def6457929f4ec581fd952cf829403465b04d893c01f5197d8c647c7726f8df2"), looks := true }, kinds := [], alts := [], laidByText := true, laidKinds := [.data, .data, .data, .data, .sentinel, .sentinel, .pinned], laidTests := true, laidLooks := .later }
def PanesKeysCardSaid : Prop := Claim7.holds Tryz.pinned (.plain (OpenSpec.ofChange panesKeysSpec)) panesKeysCard

/-- THE SECOND FORM's CARD OF 'keepsakelaw18.PanesKeys'. -/
def panesKeysUptoCard : Claim7 := { stood := { row := panesKeysUptoRow, standIns := [], harness := (true, "def6457929f4ec581fd952cf829403465b04d893c01f5197d8c647c7726f8df2"), looks := true }, kinds := [], alts := [], laidByText := true, laidKinds := [.data, .data, .data, .data, .sentinel, .sentinel, .pinned], laidTests := true, laidLooks := .later }
def PanesKeysUptoCardSaid : Prop := Claim7.holds Tryz.pinned (.plain (OpenSpec.upto panesKeysSpec)) panesKeysUptoCard
end Rows
end Go.Proofs.YtciahchpdmajbaaGreatDoor
