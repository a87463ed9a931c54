/-
  DERIVED. GIVEN WITH THE SEED: THE CARDS: each row of YtfkojbkgpbpjhaaDoorRows.lean that lists a variable, with what it lists TIED to the program's text (the seventh form; the later family's looks); each row that meets fmt, with fmt's text TOLD by the authors' own Lean function (tested against real Go, not proved from fmt's source: count such statements apart). THE CARD IS WHAT COUNTS. Prove the row's statement (the work); the ties are given (YtfkojbkgpbpjhaaDoorTie.lean); close each card by the builder's one call (the guide's Derived/Test/ToyasCard.lean, 'card_holds'). Laid BY PROGRAM, IN A SANDBOX (cutbox-door.mjs). By AI agents, Wed Nov 11 2026. No macro, syntax, notation, axiom, sorry.
-/
import Derived.Test.YtfkojbkgpbpjhaaDoorRows
import GoSem.ClaimSeven
namespace Go.Proofs.YtfkojbkgpbpjhaaDoor
namespace Rows

/-- THE TIED CARD OF 'laws.FnExactThreadText'. -/
def fnExactThreadTextCard : Claim7 := { stood := { row := fnExactThreadTextRow, standIns := [], harness := (true, "3d4f30c7cbb962b30b67e2c39735e1997bca14200227fdce4b59bf149a1b258a"), looks := true }, kinds := [], alts := [], laidByText := true, laidKinds := [.data, .data, .data], laidTests := true, laidLooks := .later }
def FnExactThreadTextCardSaid : Prop := Claim7.holds Tryd.pinned (.plain (OpenSpec.ofChange fnExactThreadTextSpec)) fnExactThreadTextCard

/-- THE TIED CARD OF 'laws.FnExactReadThread'. -/
def fnExactReadThreadCard : Claim7 := { stood := { row := fnExactReadThreadRow, standIns := [], harness := (true, "3d4f30c7cbb962b30b67e2c39735e1997bca14200227fdce4b59bf149a1b258a"), looks := true }, kinds := [], alts := [], laidByText := true, laidKinds := [.data, .data, .data, .data, .sentinel, .sentinel, .pinned], laidTests := true, laidLooks := .later }
def FnExactReadThreadCardSaid : Prop := Claim7.holds Tryd.pinned (.plain (OpenSpec.ofChange fnExactReadThreadSpec)) fnExactReadThreadCard

/-- THE TIED CARD OF 'laws.FnThreads'. -/
def fnThreadsCard : Claim7 := { stood := { row := fnThreadsRow, standIns := [], harness := (true, "3d4f30c7cbb962b30b67e2c39735e1997bca14200227fdce4b59bf149a1b258a"), looks := true }, kinds := [], alts := [], laidByText := true, laidKinds := [.data, .data, .data, .data, .sentinel, .sentinel, .pinned], laidTests := true, laidLooks := .later }
def FnThreadsCardSaid : Prop := Claim7.holds Tryd.pinned (.plain (OpenSpec.ofChange fnThreadsSpec)) fnThreadsCard

/-- THE TIED CARD OF 'laws.FnExactGlueText'. -/
def fnExactGlueTextCard : Claim7 := { stood := { row := fnExactGlueTextRow, standIns := [], harness := (true, "3d4f30c7cbb962b30b67e2c39735e1997bca14200227fdce4b59bf149a1b258a"), looks := true }, kinds := [], alts := [], laidByText := true, laidKinds := [.data, .data, .data], laidTests := true, laidLooks := .later }
def FnExactGlueTextCardSaid : Prop := Claim7.holds Tryd.pinned (.plain (OpenSpec.ofChange fnExactGlueTextSpec)) fnExactGlueTextCard

/-- THE TIED CARD OF 'laws.FnExactReadGlue'. -/
def fnExactReadGlueCard : Claim7 := { stood := { row := fnExactReadGlueRow, standIns := [], harness := (true, "3d4f30c7cbb962b30b67e2c39735e1997bca14200227fdce4b59bf149a1b258a"), looks := true }, kinds := [], alts := [], laidByText := true, laidKinds := [.data, .data, .data, .data, .sentinel, .sentinel, .pinned], laidTests := true, laidLooks := .later }
def FnExactReadGlueCardSaid : Prop := Claim7.holds Tryd.pinned (.plain (OpenSpec.ofChange fnExactReadGlueSpec)) fnExactReadGlueCard

/-- THE TIED CARD OF 'laws.FnExactSeamText'. -/
def fnExactSeamTextCard : Claim7 := { stood := { row := fnExactSeamTextRow, standIns := [], harness := (true, "3d4f30c7cbb962b30b67e2c39735e1997bca14200227fdce4b59bf149a1b258a"), looks := true }, kinds := [], alts := [], laidByText := true, laidKinds := [.data, .data, .data], laidTests := true, laidLooks := .later }
def FnExactSeamTextCardSaid : Prop := Claim7.holds Tryd.pinned (.plain (OpenSpec.ofChange fnExactSeamTextSpec)) fnExactSeamTextCard

/-- THE TIED CARD OF 'laws.FnStitches'. -/
def fnStitchesCard : Claim7 := { stood := { row := fnStitchesRow, standIns := [], harness := (true, "3d4f30c7cbb962b30b67e2c39735e1997bca14200227fdce4b59bf149a1b258a"), looks := true }, kinds := [], alts := [], laidByText := true, laidKinds := [.data, .data, .data], laidTests := true, laidLooks := .later }
def FnStitchesCardSaid : Prop := Claim7.holds Tryd.pinned (.plain (OpenSpec.ofChange fnStitchesSpec)) fnStitchesCard

/-- THE SECOND FORM's CARD OF 'laws.FnExactThreadText'. -/
def fnExactThreadTextUptoCard : Claim7 := { stood := { row := fnExactThreadTextUptoRow, standIns := [], harness := (true, "3d4f30c7cbb962b30b67e2c39735e1997bca14200227fdce4b59bf149a1b258a"), looks := true }, kinds := [], alts := [], laidByText := true, laidKinds := [.data, .data, .data], laidTests := true, laidLooks := .later }
def FnExactThreadTextUptoCardSaid : Prop := Claim7.holds Tryd.pinned (.plain (OpenSpec.upto fnExactThreadTextSpec)) fnExactThreadTextUptoCard

/-- THE SECOND FORM's CARD OF 'laws.FnExactReadThread'. -/
def fnExactReadThreadUptoCard : Claim7 := { stood := { row := fnExactReadThreadUptoRow, standIns := [], harness := (true, "3d4f30c7cbb962b30b67e2c39735e1997bca14200227fdce4b59bf149a1b258a"), looks := true }, kinds := [], alts := [], laidByText := true, laidKinds := [.data, .data, .data, .data, .sentinel, .sentinel, .pinned], laidTests := true, laidLooks := .later }
def FnExactReadThreadUptoCardSaid : Prop := Claim7.holds Tryd.pinned (.plain (OpenSpec.upto fnExactReadThreadSpec)) fnExactReadThreadUptoCard

/-- THE SECOND FORM's CARD OF 'laws.FnThreads'. -/
def fnThreadsUptoCard : Claim7 := { stood := { row := fnThreadsUptoRow, standIns := [], harness := (true, "3d4f30c7cbb962b30b67e2c39735e1997bca14200227fdce4b59bf149a1b258a"), looks := true }, kinds := [], alts := [], laidByText := true, laidKinds := [.data, .data, .data, .data, .sentinel, .sentinel, .pinned], laidTests := true, laidLooks := .later }
def FnThreadsUptoCardSaid : Prop := Claim7.holds Tryd.pinned (.plain (OpenSpec.upto fnThreadsSpec)) fnThreadsUptoCard

/-- THE SECOND FORM's CARD OF 'laws.FnExactGlueText'. -/
def fnExactGlueTextUptoCard : Claim7 := { stood := { row := fnExactGlueTextUptoRow, standIns := [], harness := (true, "3d4f30c7cbb962b30b67e2c39735e1997bca14200227fdce4b59bf149a1b258a"), looks := true }, kinds := [], alts := [], laidByText := true, laidKinds := [.data, .data, .data], laidTests := true, laidLooks := .later }
def FnExactGlueTextUptoCardSaid : Prop := Claim7.holds Tryd.pinned (.plain (OpenSpec.upto fnExactGlueTextSpec)) fnExactGlueTextUptoCard

/-- THE SECOND FORM's CARD OF 'laws.FnExactReadGlue'. -/
def fnExactReadGlueUptoCard : Claim7 := { stood := { row := fnExactReadGlueUptoRow, standIns := [], harness := (true, "3d4f30c7cbb962b30b67e2c39735e1997bca14200227fdce4b59bf149a1b258a"), looks := true }, kinds := [], alts := [], laidByText := true, laidKinds := [.data, .data, .data, .data, .sentinel, .sentinel, .pinned], laidTests := true, laidLooks := .later }
def FnExactReadGlueUptoCardSaid : Prop := Claim7.holds Tryd.pinned (.plain (OpenSpec.upto fnExactReadGlueSpec)) fnExactReadGlueUptoCard

/-- THE SECOND FORM's CARD OF 'laws.FnExactSeamText'. -/
def fnExactSeamTextUptoCard : Claim7 := { stood := { row := fnExactSeamTextUptoRow, standIns := [], harness := (true, "3d4f30c7cbb962b30b67e2c39735e1997bca14200227fdce4b59bf149a1b258a"), looks := true }, kinds := [], alts := [], laidByText := true, laidKinds := [.data, .data, .data], laidTests := true, laidLooks := .later }
def FnExactSeamTextUptoCardSaid : Prop := Claim7.holds Tryd.pinned (.plain (OpenSpec.upto fnExactSeamTextSpec)) fnExactSeamTextUptoCard

/-- THE SECOND FORM's CARD OF 'laws.FnStitches'. -/
def fnStitchesUptoCard : Claim7 := { stood := { row := fnStitchesUptoRow, standIns := [], harness := (true, "3d4f30c7cbb962b30b67e2c39735e1997bca14200227fdce4b59bf149a1b258a"), looks := true }, kinds := [], alts := [], laidByText := true, laidKinds := [.data, .data, .data], laidTests := true, laidLooks := .later }
def FnStitchesUptoCardSaid : Prop := Claim7.holds Tryd.pinned (.plain (OpenSpec.upto fnStitchesSpec)) fnStitchesUptoCard
end Rows
end Go.Proofs.YtfkojbkgpbpjhaaDoor
