/-
  DERIVED. GIVEN WITH THE SEED: THE CARDS: each row of YtpajpdjjpgbklaaDoorRows.lean that lists a variable, with what it lists TIED to the program's text (the seventh form; the later family's looks); each row that meets fmt, with fmt's text TOLD by the authors' own Lean function (tested against real Go, not proved from fmt's source: count such statements apart). THE CARD IS WHAT COUNTS. Prove the row's statement (the work); the ties are given (YtpajpdjjpgbklaaDoorTie.lean); close each card by the builder's one call (the guide's Derived/Test/ToyasCard.lean, 'card_holds'). Laid BY PROGRAM, IN A SANDBOX (cutbox-door.mjs). By AI agents, Wed Nov 11 2026. No macro, syntax, notation, axiom, sorry.
-/
import Derived.Test.YtpajpdjjpgbklaaDoorRows
import GoSem.ClaimSeven
namespace Go.Proofs.YtpajpdjjpgbklaaDoor
namespace Rows

/-- THE TIED CARD OF 'effigylaw23.CompareDiffs'. -/
def compareDiffsCard : Claim7 := { stood := { row := compareDiffsRow, standIns := [], harness := (true, "da4aa0f7460ae9015bd4cb5a0be822bab0a380ad12c75a256048a8f33c14129d"), looks := false }, kinds := [], alts := [], laidByText := true, laidKinds := [.data], laidTests := true, laidLooks := .later }
def CompareDiffsCardSaid : Prop := Claim7.holds Tryd.pinned (.plain (OpenSpec.ofChange compareDiffsSpec)) compareDiffsCard

/-- THE TIED CARD OF 'effigylaw23.CompareLike'. -/
def compareLikeCard : Claim7 := { stood := { row := compareLikeRow, standIns := [], harness := (true, "da4aa0f7460ae9015bd4cb5a0be822bab0a380ad12c75a256048a8f33c14129d"), looks := false }, kinds := [], alts := [], laidByText := true, laidKinds := [.data], laidTests := true, laidLooks := .later }
def CompareLikeCardSaid : Prop := Claim7.holds Tryd.pinned (.plain (OpenSpec.ofChange compareLikeSpec)) compareLikeCard

/-- THE TIED CARD OF 'effigylaw23.CompareTells'. -/
def compareTellsCard : Claim7 := { stood := { row := compareTellsRow, standIns := [], harness := (true, "da4aa0f7460ae9015bd4cb5a0be822bab0a380ad12c75a256048a8f33c14129d"), looks := false }, kinds := [], alts := [], laidByText := true, laidKinds := [.data], laidTests := true, laidLooks := .later }
def CompareTellsCardSaid : Prop := Claim7.holds Tryd.pinned (.plain (OpenSpec.ofChange compareTellsSpec)) compareTellsCard

/-- THE TIED CARD OF 'effigylaw23.CompareFollows'. -/
def compareFollowsCard : Claim7 := { stood := { row := compareFollowsRow, standIns := [], harness := (true, "da4aa0f7460ae9015bd4cb5a0be822bab0a380ad12c75a256048a8f33c14129d"), looks := false }, kinds := [], alts := [], laidByText := true, laidKinds := [.data], laidTests := true, laidLooks := .later }
def CompareFollowsCardSaid : Prop := Claim7.holds Tryd.pinned (.plain (OpenSpec.ofChange compareFollowsSpec)) compareFollowsCard

/-- THE TIED CARD OF 'effigylaw23.CompareCanons'. -/
def compareCanonsCard : Claim7 := { stood := { row := compareCanonsRow, standIns := [], harness := (true, "da4aa0f7460ae9015bd4cb5a0be822bab0a380ad12c75a256048a8f33c14129d"), looks := false }, kinds := [], alts := [], laidByText := true, laidKinds := [.data], laidTests := true, laidLooks := .later }
def CompareCanonsCardSaid : Prop := Claim7.holds Tryd.pinned (.plain (OpenSpec.ofChange compareCanonsSpec)) compareCanonsCard

/-- THE SECOND FORM's CARD OF 'effigylaw23.CompareDiffs'. -/
def compareDiffsUptoCard : Claim7 := { stood := { row := compareDiffsUptoRow, standIns := [], harness := (true, "da4aa0f7460ae9015bd4cb5a0be822bab0a380ad12c75a256048a8f33c14129d"), looks := false }, kinds := [], alts := [], laidByText := true, laidKinds := [.data], laidTests := true, laidLooks := .later }
def CompareDiffsUptoCardSaid : Prop := Claim7.holds Tryd.pinned (.plain (OpenSpec.upto compareDiffsSpec)) compareDiffsUptoCard

/-- THE SECOND FORM's CARD OF 'effigylaw23.CompareLike'. -/
def compareLikeUptoCard : Claim7 := { stood := { row := compareLikeUptoRow, standIns := [], harness := (true, "da4aa0f7460ae9015bd4cb5a0be822bab0a380ad12c75a256048a8f33c14129d"), looks := false }, kinds := [], alts := [], laidByText := true, laidKinds := [.data], laidTests := true, laidLooks := .later }
def CompareLikeUptoCardSaid : Prop := Claim7.holds Tryd.pinned (.plain (OpenSpec.upto compareLikeSpec)) compareLikeUptoCard

/-- THE SECOND FORM's CARD OF 'effigylaw23.CompareTells'. -/
def compareTellsUptoCard : Claim7 := { stood := { row := compareTellsUptoRow, standIns := [], harness := (true, "da4aa0f7460ae9015bd4cb5a0be822bab0a380ad12c75a256048a8f33c14129d"), looks := false }, kinds := [], alts := [], laidByText := true, laidKinds := [.data], laidTests := true, laidLooks := .later }
def CompareTellsUptoCardSaid : Prop := Claim7.holds Tryd.pinned (.plain (OpenSpec.upto compareTellsSpec)) compareTellsUptoCard

/-- THE SECOND FORM's CARD OF 'effigylaw23.CompareFollows'. -/
def compareFollowsUptoCard : Claim7 := { stood := { row := compareFollowsUptoRow, standIns := [], harness := (true, "da4aa0f7460ae9015bd4cb5a0be822bab0a380ad12c75a256048a8f33c14129d"), looks := false }, kinds := [], alts := [], laidByText := true, laidKinds := [.data], laidTests := true, laidLooks := .later }
def CompareFollowsUptoCardSaid : Prop := Claim7.holds Tryd.pinned (.plain (OpenSpec.upto compareFollowsSpec)) compareFollowsUptoCard

/-- THE SECOND FORM's CARD OF 'effigylaw23.CompareCanons'. -/
def compareCanonsUptoCard : Claim7 := { stood := { row := compareCanonsUptoRow, standIns := [], harness := (true, "da4aa0f7460ae9015bd4cb5a0be822bab0a380ad12c75a256048a8f33c14129d"), looks := false }, kinds := [], alts := [], laidByText := true, laidKinds := [.data], laidTests := true, laidLooks := .later }
def CompareCanonsUptoCardSaid : Prop := Claim7.holds Tryd.pinned (.plain (OpenSpec.upto compareCanonsSpec)) compareCanonsUptoCard
end Rows
end Go.Proofs.YtpajpdjjpgbklaaDoor
