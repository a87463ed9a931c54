/-
  DERIVED. GIVEN WITH THE SEED: THE CARDS: each row of YtfkojbkgpbpjhaaGreatDoorRows.lean that lists a variable, with what it lists TIED to the program's text (the seventh form; the later family's looks); each row that meets fmt, with fmt's text TOLD by the authors' own Lean function (tested against real Go, not proved from fmt's source: count such statements apart). THE CARD IS WHAT COUNTS. Prove the row's statement (the work); the ties are given (YtfkojbkgpbpjhaaGreatDoorTie.lean); close each card by the builder's one call (the guide's Derived/Test/ToyasCard.lean, 'card_holds'). Laid BY PROGRAM, IN A SANDBOX (cutbox-door.mjs). By AI agents, Wed Nov 11 2026. No macro, syntax, notation, axiom, sorry.
-/
import Derived.Test.YtfkojbkgpbpjhaaGreatDoorRows
import GoSem.ClaimSeven
namespace Go.Proofs.YtfkojbkgpbpjhaaGreatDoor
namespace Rows

/-- THE TIED CARD OF 'laws.FnGlues'. -/
def fnGluesCard : Claim7 := { stood := { row := fnGluesRow, standIns := [], harness := (true, "cf43a02e52723a8f166fc03a0191d8960be158ae1faf48b4f918eb61fae38e51"), looks := true }, kinds := [], alts := [], laidByText := true, laidKinds := [.data, .data, .data, .data, .sentinel, .sentinel, .pinned], laidTests := true, laidLooks := .later }
def FnGluesCardSaid : Prop := Claim7.holds Tryz.pinned (.plain (OpenSpec.ofChange fnGluesSpec)) fnGluesCard

/-- THE SECOND FORM's CARD OF 'laws.FnGlues'. -/
def fnGluesUptoCard : Claim7 := { stood := { row := fnGluesUptoRow, standIns := [], harness := (true, "cf43a02e52723a8f166fc03a0191d8960be158ae1faf48b4f918eb61fae38e51"), looks := true }, kinds := [], alts := [], laidByText := true, laidKinds := [.data, .data, .data, .data, .sentinel, .sentinel, .pinned], laidTests := true, laidLooks := .later }
def FnGluesUptoCardSaid : Prop := Claim7.holds Tryz.pinned (.plain (OpenSpec.upto fnGluesSpec)) fnGluesUptoCard
end Rows
end Go.Proofs.YtfkojbkgpbpjhaaGreatDoor
