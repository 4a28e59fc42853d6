/-
  DERIVED. GIVEN WITH THE SEED: THE CARDS: each row of YtciahchpdmajbaaDoorRows.lean that lists a variable, with what it lists TIED to the program's text (the seventh form; the later family's looks); each row that meets fmt, with fmt's text TOLD by the authors' own Lean function (tested against real Go, not proved from fmt's source: count such statements apart). THE CARD IS WHAT COUNTS. Prove the row's statement (the work); the ties are given (YtciahchpdmajbaaDoorTie.lean); close each card by the builder's one call (the guide's Derived/Test/ToyasCard.lean, 'card_holds'). Laid BY PROGRAM, IN A SANDBOX (cutbox-door.mjs). By AI agents, Wed Nov 11 2026. No macro, syntax, notation, axiom, sorry.
-/
import Derived.Test.YtciahchpdmajbaaDoorRows
import GoSem.ClaimSeven
namespace Go.Proofs.YtciahchpdmajbaaDoor
namespace Rows

/-- THE TIED CARD OF 'keepsakelaw18.PanesAlike'. -/
def panesAlikeCard : Claim7 := { stood := { row := panesAlikeRow, standIns := [], harness := (true, "adfcbbfecc6f81b7b5df9bf6f53b2c89de390eacc0cddce97d319c28da238a1c"), looks := true }, kinds := [], alts := [], laidByText := true, laidKinds := [.data, .data, .data, .data, .sentinel, .sentinel, .pinned], laidTests := true, laidLooks := .later }
def PanesAlikeCardSaid : Prop := Claim7.holds Tryd.pinned (.plain (OpenSpec.ofChange panesAlikeSpec)) panesAlikeCard

/-- THE SECOND FORM's CARD OF 'keepsakelaw18.PanesAlike'. -/
def panesAlikeUptoCard : Claim7 := { stood := { row := panesAlikeUptoRow, standIns := [], harness := (true, "adfcbbfecc6f81b7b5df9bf6f53b2c89de390eacc0cddce97d319c28da238a1c"), looks := true }, kinds := [], alts := [], laidByText := true, laidKinds := [.data, .data, .data, .data, .sentinel, .sentinel, .pinned], laidTests := true, laidLooks := .later }
def PanesAlikeUptoCardSaid : Prop := Claim7.holds Tryd.pinned (.plain (OpenSpec.upto panesAlikeSpec)) panesAlikeUptoCard
end Rows
end Go.Proofs.YtciahchpdmajbaaDoor
