/-
  DERIVED. GIVEN WITH THE SEED: THE CARDS: each row of YtdgkgmlnjolloaaDoorRows.lean that lists a variable, with what it lists TIED to the program's text (the seventh form; the later family's looks); each row that meets fmt, with fmt's text TOLD by the authors' own Lean function (tested against real Go, not proved from fmt's source: count such statements apart). THE CARD IS WHAT COUNTS. Prove the row's statement (the work); the ties are given (YtdgkgmlnjolloaaDoorTie.lean); close each card by the builder's one call (the guide's Derived/Test/ToyasCard.lean, 'card_holds'). Laid BY PROGRAM, IN A SANDBOX (cutbox-door.mjs). By AI agents, Wed Nov 11 2026. No macro, syntax, notation, axiom, sorry.
-/
import Derived.Test.YtdgkgmlnjolloaaDoorRows
import GoSem.ClaimSeven
namespace Go.Proofs.YtdgkgmlnjolloaaDoor
namespace Rows

/-- THE TIED CARD OF 'teasellaw21.FrontErrors'. -/
def frontErrorsCard : Claim7 := { stood := { row := frontErrorsRow, standIns := [], harness := (true, "ae327dfda2b1f261980355689dd20e15ba5d4a467e06f11b6aee9f435b92f6ee"), looks := true }, kinds := [], alts := [], laidByText := true, laidKinds := [.handle], laidTests := true, laidLooks := .later }
def FrontErrorsCardSaid : Prop := Claim7.holds Tryd.pinned (.plain (OpenSpec.ofChange frontErrorsSpec)) frontErrorsCard

/-- THE TIED CARD OF 'teasellaw21.FrontWraps'. -/
def frontWrapsCard : Claim7 := { stood := { row := frontWrapsRow, standIns := [], harness := (true, "ae327dfda2b1f261980355689dd20e15ba5d4a467e06f11b6aee9f435b92f6ee"), looks := true }, kinds := [], alts := [], laidByText := true, laidKinds := [.handle], laidTests := true, laidLooks := .later }
def FrontWrapsCardSaid : Prop := Claim7.holds Tryd.pinned (.plain (OpenSpec.ofChange frontWrapsSpec)) frontWrapsCard

/-- THE SECOND FORM's CARD OF 'teasellaw21.FrontErrors'. -/
def frontErrorsUptoCard : Claim7 := { stood := { row := frontErrorsUptoRow, standIns := [], harness := (true, "ae327dfda2b1f261980355689dd20e15ba5d4a467e06f11b6aee9f435b92f6ee"), looks := true }, kinds := [], alts := [], laidByText := true, laidKinds := [.handle], laidTests := true, laidLooks := .later }
def FrontErrorsUptoCardSaid : Prop := Claim7.holds Tryd.pinned (.plain (OpenSpec.upto frontErrorsSpec)) frontErrorsUptoCard

/-- THE SECOND FORM's CARD OF 'teasellaw21.FrontWraps'. -/
def frontWrapsUptoCard : Claim7 := { stood := { row := frontWrapsUptoRow, standIns := [], harness := (true, "ae327dfda2b1f261980355689dd20e15ba5d4a467e06f11b6aee9f435b92f6ee"), looks := true }, kinds := [], alts := [], laidByText := true, laidKinds := [.handle], laidTests := true, laidLooks := .later }
def FrontWrapsUptoCardSaid : Prop := Claim7.holds Tryd.pinned (.plain (OpenSpec.upto frontWrapsSpec)) frontWrapsUptoCard
end Rows
end Go.Proofs.YtdgkgmlnjolloaaDoor
