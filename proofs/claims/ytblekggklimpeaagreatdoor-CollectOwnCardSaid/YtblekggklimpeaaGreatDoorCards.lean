/-
  DERIVED. GIVEN WITH THE SEED: THE CARDS: each row of YtblekggklimpeaaGreatDoorRows.lean that lists a variable, with what it lists TIED to the program's text (the seventh form; the later family's looks); each row that meets fmt, with fmt's text TOLD by the authors' own Lean function (tested against real Go, not proved from fmt's source: count such statements apart). THE CARD IS WHAT COUNTS. Prove the row's statement (the work); the ties are given (YtblekggklimpeaaGreatDoorTie.lean); close each card by the builder's one call (the guide's Derived/Test/ToyasCard.lean, 'card_holds'). Laid BY PROGRAM, IN A SANDBOX (cutbox-door.mjs). By AI agents, Wed Nov 11 2026. No macro, syntax, notation, axiom, sorry.
-/
import Derived.Test.YtblekggklimpeaaGreatDoorRows
import GoSem.ClaimSeven
namespace Go.Proofs.YtblekggklimpeaaGreatDoor
namespace Rows

/-- THE TIED CARD OF 'effigylaw03.CollectBecomes'. -/
def collectBecomesCard : Claim7 := { stood := { row := collectBecomesRow, standIns := [], harness := (true, "a9480087fcafabc0f2f8978c44c7588334f5d26cb776d472380baee82b777a8a"), looks := false }, kinds := [], alts := [], laidByText := true, laidKinds := [.data], laidTests := true, laidLooks := .later }
def CollectBecomesCardSaid : Prop := Claim7.holds Tryz.pinned (.plain (OpenSpec.ofChange collectBecomesSpec)) collectBecomesCard

/-- THE TIED CARD OF 'effigylaw03.CollectOwn'. -/
def collectOwnCard : Claim7 := { stood := { row := collectOwnRow, standIns := [], harness := (true, "a9480087fcafabc0f2f8978c44c7588334f5d26cb776d472380baee82b777a8a"), looks := false }, kinds := [], alts := [], laidByText := true, laidKinds := [.data], laidTests := true, laidLooks := .later }
def CollectOwnCardSaid : Prop := Claim7.holds Tryz.pinned (.plain (OpenSpec.ofChange collectOwnSpec)) collectOwnCard

/-- THE SECOND FORM's CARD OF 'effigylaw03.CollectBecomes'. -/
def collectBecomesUptoCard : Claim7 := { stood := { row := collectBecomesUptoRow, standIns := [], harness := (true, "a9480087fcafabc0f2f8978c44c7588334f5d26cb776d472380baee82b777a8a"), looks := false }, kinds := [], alts := [], laidByText := true, laidKinds := [.data], laidTests := true, laidLooks := .later }
def CollectBecomesUptoCardSaid : Prop := Claim7.holds Tryz.pinned (.plain (OpenSpec.upto collectBecomesSpec)) collectBecomesUptoCard

/-- THE SECOND FORM's CARD OF 'effigylaw03.CollectOwn'. -/
def collectOwnUptoCard : Claim7 := { stood := { row := collectOwnUptoRow, standIns := [], harness := (true, "a9480087fcafabc0f2f8978c44c7588334f5d26cb776d472380baee82b777a8a"), looks := false }, kinds := [], alts := [], laidByText := true, laidKinds := [.data], laidTests := true, laidLooks := .later }
def CollectOwnUptoCardSaid : Prop := Claim7.holds Tryz.pinned (.plain (OpenSpec.upto collectOwnSpec)) collectOwnUptoCard
end Rows
end Go.Proofs.YtblekggklimpeaaGreatDoor
