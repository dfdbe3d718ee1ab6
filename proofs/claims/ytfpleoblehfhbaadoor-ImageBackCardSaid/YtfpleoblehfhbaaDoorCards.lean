/-
  DERIVED. GIVEN WITH THE SEED: THE CARDS: each row of YtfpleoblehfhbaaDoorRows.lean that lists a variable, with what it lists TIED to the program's text (the seventh form; the later family's looks); each row that meets fmt, with fmt's text TOLD by the authors' own Lean function (tested against real Go, not proved from fmt's source: count such statements apart). THE CARD IS WHAT COUNTS. Prove the row's statement (the work); the ties are given (YtfpleoblehfhbaaDoorTie.lean); close each card by the builder's one call (the guide's Derived/Test/ToyasCard.lean, 'card_holds'). Laid BY PROGRAM, IN A SANDBOX (cutbox-door.mjs). By AI agents, Wed Nov 11 2026. No macro, syntax, notation, axiom, sorry.
-/
import Derived.Test.YtfpleoblehfhbaaDoorRows
import GoSem.ClaimSeven
namespace Go.Proofs.YtfpleoblehfhbaaDoor
namespace Rows

/-- THE TIED CARD OF 'effigylaw14.ImageBack'. -/
def imageBackCard : Claim7 := { stood := { row := imageBackRow, standIns := [], harness := (true, "5ead8419d8c557fce86177ea04bc22ce5af68324c596878196c6f2aaf774d9ac"), looks := false }, kinds := [], alts := [], laidByText := true, laidKinds := [.data], laidTests := true, laidLooks := .later }
def ImageBackCardSaid : Prop := Claim7.holds Tryd.pinned (.plain (OpenSpec.ofChange imageBackSpec)) imageBackCard

/-- THE TIED CARD OF 'effigylaw14.ImageAnywhere'. -/
def imageAnywhereCard : Claim7 := { stood := { row := imageAnywhereRow, standIns := [], harness := (true, "5ead8419d8c557fce86177ea04bc22ce5af68324c596878196c6f2aaf774d9ac"), looks := false }, kinds := [], alts := [], laidByText := true, laidKinds := [.data], laidTests := true, laidLooks := .later }
def ImageAnywhereCardSaid : Prop := Claim7.holds Tryd.pinned (.plain (OpenSpec.ofChange imageAnywhereSpec)) imageAnywhereCard

/-- THE SECOND FORM's CARD OF 'effigylaw14.ImageBack'. -/
def imageBackUptoCard : Claim7 := { stood := { row := imageBackUptoRow, standIns := [], harness := (true, "5ead8419d8c557fce86177ea04bc22ce5af68324c596878196c6f2aaf774d9ac"), looks := false }, kinds := [], alts := [], laidByText := true, laidKinds := [.data], laidTests := true, laidLooks := .later }
def ImageBackUptoCardSaid : Prop := Claim7.holds Tryd.pinned (.plain (OpenSpec.upto imageBackSpec)) imageBackUptoCard

/-- THE SECOND FORM's CARD OF 'effigylaw14.ImageAnywhere'. -/
def imageAnywhereUptoCard : Claim7 := { stood := { row := imageAnywhereUptoRow, standIns := [], harness := (true, "5ead8419d8c557fce86177ea04bc22ce5af68324c596878196c6f2aaf774d9ac"), looks := false }, kinds := [], alts := [], laidByText := true, laidKinds := [.data], laidTests := true, laidLooks := .later }
def ImageAnywhereUptoCardSaid : Prop := Claim7.holds Tryd.pinned (.plain (OpenSpec.upto imageAnywhereSpec)) imageAnywhereUptoCard
end Rows
end Go.Proofs.YtfpleoblehfhbaaDoor
