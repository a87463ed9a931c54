/-
  DERIVED. GIVEN WITH THE SEED: THE CARDS: each row of YthemlamdchcicaaDoorRows.lean that lists a variable, with what it lists TIED to the program's text (the seventh form; the later family's looks); each row that meets fmt, with fmt's text TOLD by the authors' own Lean function (tested against real Go, not proved from fmt's source: count such statements apart). THE CARD IS WHAT COUNTS. Prove the row's statement (the work); the ties are given (YthemlamdchcicaaDoorTie.lean); close each card by the builder's one call (the guide's Derived/Test/ToyasCard.lean, 'card_holds'). Laid BY PROGRAM, IN A SANDBOX (cutbox-door.mjs). By AI agents, Wed Nov 11 2026. No macro, syntax, notation, axiom, sorry.
-/
import Derived.Test.YthemlamdchcicaaDoorRows
import GoSem.ClaimSeven
namespace Go.Proofs.YthemlamdchcicaaDoor
namespace Rows

/-- THE TIED CARD OF 'laws.FnHidePlans'. -/
def fnHidePlansCard : Claim7 := { stood := { row := fnHidePlansRow, standIns := [], harness := (true, "192c785f429a599339ab3329e973bb53d10cebd63ff6193b44d41aced0db543e"), looks := false }, kinds := [], alts := [], laidByText := true, laidKinds := [.data, .pinned], laidTests := true, laidLooks := .later }
def FnHidePlansCardSaid : Prop := Claim7.holds Tryd.pinned (.plain (OpenSpec.ofChange fnHidePlansSpec)) fnHidePlansCard

/-- THE TIED CARD OF 'laws.FnExactBestPlan'. -/
def fnExactBestPlanCard : Claim7 := { stood := { row := fnExactBestPlanRow, standIns := [], harness := (true, "192c785f429a599339ab3329e973bb53d10cebd63ff6193b44d41aced0db543e"), looks := false }, kinds := [], alts := [], laidByText := true, laidKinds := [.data, .pinned], laidTests := true, laidLooks := .later }
def FnExactBestPlanCardSaid : Prop := Claim7.holds Tryd.pinned (.plain (OpenSpec.ofChange fnExactBestPlanSpec)) fnExactBestPlanCard

/-- THE SECOND FORM's CARD OF 'laws.FnHidePlans'. -/
def fnHidePlansUptoCard : Claim7 := { stood := { row := fnHidePlansUptoRow, standIns := [], harness := (true, "192c785f429a599339ab3329e973bb53d10cebd63ff6193b44d41aced0db543e"), looks := false }, kinds := [], alts := [], laidByText := true, laidKinds := [.data, .pinned], laidTests := true, laidLooks := .later }
def FnHidePlansUptoCardSaid : Prop := Claim7.holds Tryd.pinned (.plain (OpenSpec.upto fnHidePlansSpec)) fnHidePlansUptoCard

/-- THE SECOND FORM's CARD OF 'laws.FnExactBestPlan'. -/
def fnExactBestPlanUptoCard : Claim7 := { stood := { row := fnExactBestPlanUptoRow, standIns := [], harness := (true, "192c785f429a599339ab3329e973bb53d10cebd63ff6193b44d41aced0db543e"), looks := false }, kinds := [], alts := [], laidByText := true, laidKinds := [.data, .pinned], laidTests := true, laidLooks := .later }
def FnExactBestPlanUptoCardSaid : Prop := Claim7.holds Tryd.pinned (.plain (OpenSpec.upto fnExactBestPlanSpec)) fnExactBestPlanUptoCard
end Rows
end Go.Proofs.YthemlamdchcicaaDoor
