/-
  DERIVED. GIVEN WITH THE SEED: THE CARDS: each row of YtfpleoblehfhbaaGreatDoorRows.lean that lists a variable, with what it lists TIED to the program's text (the seventh form; the later family's looks); each row that meets fmt, with fmt's text TOLD by the authors' own Lean function (tested against real Go, not proved from fmt's source: count such statements apart). THE CARD IS WHAT COUNTS. Prove the row's statement (the work); the ties are given (YtfpleoblehfhbaaGreatDoorTie.lean); close each card by the builder's one call (the guide's Derived/Test/ToyasCard.lean, 'card_holds'). Laid BY PROGRAM, IN A SANDBOX (cutbox-door.mjs). By AI agents, Wed Nov 11 2026. No macro, syntax, notation, axiom, sorry.
-/
import Derived.Test.YtfpleoblehfhbaaGreatDoorRows
import GoSem.ClaimSeven
namespace Go.Proofs.YtfpleoblehfhbaaGreatDoor
namespace Rows

/-- THE TIED CARD OF 'effigylaw14.ImageLoads'. -/
def imageLoadsCard : Claim7 := { stood := { row := imageLoadsRow, standIns := [], harness := (true, "49e3a25d955194c18d60f6103a5696a9009c64fd637f5ceb1f415d5453ce9d01"), looks := false }, kinds := [], alts := [], laidByText := true, laidKinds := [.data], laidTests := true, laidLooks := .later }
def ImageLoadsCardSaid : Prop := Claim7.holds Tryz.pinned (.plain (OpenSpec.ofChange imageLoadsSpec)) imageLoadsCard

/-- THE TIED CARD OF 'effigylaw14.ImageDamage'. -/
def imageDamageCard : Claim7 := { stood := { row := imageDamageRow, standIns := [], harness := (true, "49e3a25d955194c18d60f6103a5696a9009c64fd637f5ceb1f415d5453ce9d01"), looks := false }, kinds := [], alts := [], laidByText := true, laidKinds := [.data], laidTests := true, laidLooks := .later }
def ImageDamageCardSaid : Prop := Claim7.holds Tryz.pinned (.plain (OpenSpec.ofChange imageDamageSpec)) imageDamageCard

/-- THE TIED CARD OF 'effigylaw14.ImageSaves'. -/
def imageSavesCard : Claim7 := { stood := { row := imageSavesRow, standIns := [], harness := (true, "49e3a25d955194c18d60f6103a5696a9009c64fd637f5ceb1f415d5453ce9d01"), looks := false }, kinds := [], alts := [], laidByText := true, laidKinds := [.data], laidTests := true, laidLooks := .later }
def ImageSavesCardSaid : Prop := Claim7.holds Tryz.pinned (.plain (OpenSpec.ofChange imageSavesSpec)) imageSavesCard

/-- THE SECOND FORM's CARD OF 'effigylaw14.ImageLoads'. -/
def imageLoadsUptoCard : Claim7 := { stood := { row := imageLoadsUptoRow, standIns := [], harness := (true, "49e3a25d955194c18d60f6103a5696a9009c64fd637f5ceb1f415d5453ce9d01"), looks := false }, kinds := [], alts := [], laidByText := true, laidKinds := [.data], laidTests := true, laidLooks := .later }
def ImageLoadsUptoCardSaid : Prop := Claim7.holds Tryz.pinned (.plain (OpenSpec.upto imageLoadsSpec)) imageLoadsUptoCard

/-- THE SECOND FORM's CARD OF 'effigylaw14.ImageDamage'. -/
def imageDamageUptoCard : Claim7 := { stood := { row := imageDamageUptoRow, standIns := [], harness := (true, "49e3a25d955194c18d60f6103a5696a9009c64fd637f5ceb1f415d5453ce9d01"), looks := false }, kinds := [], alts := [], laidByText := true, laidKinds := [.data], laidTests := true, laidLooks := .later }
def ImageDamageUptoCardSaid : Prop := Claim7.holds Tryz.pinned (.plain (OpenSpec.upto imageDamageSpec)) imageDamageUptoCard

/-- THE SECOND FORM's CARD OF 'effigylaw14.ImageSaves'. -/
def imageSavesUptoCard : Claim7 := { stood := { row := imageSavesUptoRow, standIns := [], harness := (true, "49e3a25d955194c18d60f6103a5696a9009c64fd637f5ceb1f415d5453ce9d01"), looks := false }, kinds := [], alts := [], laidByText := true, laidKinds := [.data], laidTests := true, laidLooks := .later }
def ImageSavesUptoCardSaid : Prop := Claim7.holds Tryz.pinned (.plain (OpenSpec.upto imageSavesSpec)) imageSavesUptoCard
end Rows
end Go.Proofs.YtfpleoblehfhbaaGreatDoor
