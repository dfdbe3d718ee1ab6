/-
  DERIVED. GIVEN WITH THE SEED: THE CARDS: each row of YtlkahgagmfhdaaaGreatDoorRows.lean that lists a variable, with what it lists TIED to the program's text (the seventh form; the later family's looks); each row that meets fmt, with fmt's text TOLD by the authors' own Lean function (tested against real Go, not proved from fmt's source: count such statements apart). THE CARD IS WHAT COUNTS. Prove the row's statement (the work); the ties are given (YtlkahgagmfhdaaaGreatDoorTie.lean); close each card by the builder's one call (the guide's Derived/Test/ToyasCard.lean, 'card_holds'). Laid BY PROGRAM, IN A SANDBOX (cutbox-door.mjs). By AI agents, Wed Nov 11 2026. No macro, syntax, notation, axiom, sorry.
-/
import Derived.Test.YtlkahgagmfhdaaaGreatDoorRows
import GoSem.ClaimSeven
namespace Go.Proofs.YtlkahgagmfhdaaaGreatDoor
namespace Rows

/-- THE TIED CARD OF 'effigylaw14.ImageLoads'. -/
def imageLoadsCard : Claim7 := { stood := { row := imageLoadsRow, standIns := [], harness := (true, "ae903724c1edce944121cafc016377bdbfb3f3411a91d040345a3098cfb111ee"), looks := false }, kinds := [], alts := [], laidByText := true, laidKinds := [.data], laidTests := true, laidLooks := .later }
def ImageLoadsCardSaid : Prop := Claim7.holds Tryz.pinned (.plain (OpenSpec.ofChange imageLoadsSpec)) imageLoadsCard

/-- THE TIED CARD OF 'effigylaw16.HandlesUnroot'. -/
def handlesUnrootCard : Claim7 := { stood := { row := handlesUnrootRow, standIns := [], harness := (true, "ae903724c1edce944121cafc016377bdbfb3f3411a91d040345a3098cfb111ee"), looks := false }, kinds := [], alts := [], laidByText := true, laidKinds := [.data], laidTests := true, laidLooks := .later }
def HandlesUnrootCardSaid : Prop := Claim7.holds Tryz.pinned (.plain (OpenSpec.ofChange handlesUnrootSpec)) handlesUnrootCard

/-- THE TIED CARD OF 'effigylaw16.HandlesMean'. -/
def handlesMeanCard : Claim7 := { stood := { row := handlesMeanRow, standIns := [], harness := (true, "ae903724c1edce944121cafc016377bdbfb3f3411a91d040345a3098cfb111ee"), looks := false }, kinds := [], alts := [], laidByText := true, laidKinds := [.data], laidTests := true, laidLooks := .later }
def HandlesMeanCardSaid : Prop := Claim7.holds Tryz.pinned (.plain (OpenSpec.ofChange handlesMeanSpec)) handlesMeanCard

/-- THE TIED CARD OF 'effigylaw16.HandlesFull'. -/
def handlesFullCard : Claim7 := { stood := { row := handlesFullRow, standIns := [], harness := (true, "ae903724c1edce944121cafc016377bdbfb3f3411a91d040345a3098cfb111ee"), looks := false }, kinds := [], alts := [], laidByText := true, laidKinds := [.data], laidTests := true, laidLooks := .later }
def HandlesFullCardSaid : Prop := Claim7.holds Tryz.pinned (.plain (OpenSpec.ofChange handlesFullSpec)) handlesFullCard

/-- THE TIED CARD OF 'effigylaw16.HandlesNil'. -/
def handlesNilCard : Claim7 := { stood := { row := handlesNilRow, standIns := [], harness := (true, "ae903724c1edce944121cafc016377bdbfb3f3411a91d040345a3098cfb111ee"), looks := false }, kinds := [], alts := [], laidByText := true, laidKinds := [.data], laidTests := true, laidLooks := .later }
def HandlesNilCardSaid : Prop := Claim7.holds Tryz.pinned (.plain (OpenSpec.ofChange handlesNilSpec)) handlesNilCard

/-- THE TIED CARD OF 'effigylaw14.ImageShrinks'. -/
def imageShrinksCard : Claim7 := { stood := { row := imageShrinksRow, standIns := [], harness := (true, "ae903724c1edce944121cafc016377bdbfb3f3411a91d040345a3098cfb111ee"), looks := false }, kinds := [], alts := [], laidByText := true, laidKinds := [.data], laidTests := true, laidLooks := .later }
def ImageShrinksCardSaid : Prop := Claim7.holds Tryz.pinned (.plain (OpenSpec.ofChange imageShrinksSpec)) imageShrinksCard

/-- THE TIED CARD OF 'effigylaw14.ImageFresh'. -/
def imageFreshCard : Claim7 := { stood := { row := imageFreshRow, standIns := [], harness := (true, "ae903724c1edce944121cafc016377bdbfb3f3411a91d040345a3098cfb111ee"), looks := false }, kinds := [], alts := [], laidByText := true, laidKinds := [.data], laidTests := true, laidLooks := .later }
def ImageFreshCardSaid : Prop := Claim7.holds Tryz.pinned (.plain (OpenSpec.ofChange imageFreshSpec)) imageFreshCard

/-- THE TIED CARD OF 'effigylaw16.HandlesDoes'. -/
def handlesDoesCard : Claim7 := { stood := { row := handlesDoesRow, standIns := [], harness := (true, "ae903724c1edce944121cafc016377bdbfb3f3411a91d040345a3098cfb111ee"), looks := false }, kinds := [], alts := [], laidByText := true, laidKinds := [.data], laidTests := true, laidLooks := .later }
def HandlesDoesCardSaid : Prop := Claim7.holds Tryz.pinned (.plain (OpenSpec.ofChange handlesDoesSpec)) handlesDoesCard

/-- THE TIED CARD OF 'effigylaw23.CompareMoves'. -/
def compareMovesCard : Claim7 := { stood := { row := compareMovesRow, standIns := [], harness := (true, "ae903724c1edce944121cafc016377bdbfb3f3411a91d040345a3098cfb111ee"), looks := false }, kinds := [], alts := [], laidByText := true, laidKinds := [.data], laidTests := true, laidLooks := .later }
def CompareMovesCardSaid : Prop := Claim7.holds Tryz.pinned (.plain (OpenSpec.ofChange compareMovesSpec)) compareMovesCard

/-- THE SECOND FORM's CARD OF 'effigylaw14.ImageLoads'. -/
def imageLoadsUptoCard : Claim7 := { stood := { row := imageLoadsUptoRow, standIns := [], harness := (true, "ae903724c1edce944121cafc016377bdbfb3f3411a91d040345a3098cfb111ee"), looks := false }, kinds := [], alts := [], laidByText := true, laidKinds := [.data], laidTests := true, laidLooks := .later }
def ImageLoadsUptoCardSaid : Prop := Claim7.holds Tryz.pinned (.plain (OpenSpec.upto imageLoadsSpec)) imageLoadsUptoCard

/-- THE SECOND FORM's CARD OF 'effigylaw16.HandlesUnroot'. -/
def handlesUnrootUptoCard : Claim7 := { stood := { row := handlesUnrootUptoRow, standIns := [], harness := (true, "ae903724c1edce944121cafc016377bdbfb3f3411a91d040345a3098cfb111ee"), looks := false }, kinds := [], alts := [], laidByText := true, laidKinds := [.data], laidTests := true, laidLooks := .later }
def HandlesUnrootUptoCardSaid : Prop := Claim7.holds Tryz.pinned (.plain (OpenSpec.upto handlesUnrootSpec)) handlesUnrootUptoCard

/-- THE SECOND FORM's CARD OF 'effigylaw16.HandlesMean'. -/
def handlesMeanUptoCard : Claim7 := { stood := { row := handlesMeanUptoRow, standIns := [], harness := (true, "ae903724c1edce944121cafc016377bdbfb3f3411a91d040345a3098cfb111ee"), looks := false }, kinds := [], alts := [], laidByText := true, laidKinds := [.data], laidTests := true, laidLooks := .later }
def HandlesMeanUptoCardSaid : Prop := Claim7.holds Tryz.pinned (.plain (OpenSpec.upto handlesMeanSpec)) handlesMeanUptoCard

/-- THE SECOND FORM's CARD OF 'effigylaw16.HandlesFull'. -/
def handlesFullUptoCard : Claim7 := { stood := { row := handlesFullUptoRow, standIns := [], harness := (true, "ae903724c1edce944121cafc016377bdbfb3f3411a91d040345a3098cfb111ee"), looks := false }, kinds := [], alts := [], laidByText := true, laidKinds := [.data], laidTests := true, laidLooks := .later }
def HandlesFullUptoCardSaid : Prop := Claim7.holds Tryz.pinned (.plain (OpenSpec.upto handlesFullSpec)) handlesFullUptoCard

/-- THE SECOND FORM's CARD OF 'effigylaw16.HandlesNil'. -/
def handlesNilUptoCard : Claim7 := { stood := { row := handlesNilUptoRow, standIns := [], harness := (true, "ae903724c1edce944121cafc016377bdbfb3f3411a91d040345a3098cfb111ee"), looks := false }, kinds := [], alts := [], laidByText := true, laidKinds := [.data], laidTests := true, laidLooks := .later }
def HandlesNilUptoCardSaid : Prop := Claim7.holds Tryz.pinned (.plain (OpenSpec.upto handlesNilSpec)) handlesNilUptoCard

/-- THE SECOND FORM's CARD OF 'effigylaw14.ImageShrinks'. -/
def imageShrinksUptoCard : Claim7 := { stood := { row := imageShrinksUptoRow, standIns := [], harness := (true, "ae903724c1edce944121cafc016377bdbfb3f3411a91d040345a3098cfb111ee"), looks := false }, kinds := [], alts := [], laidByText := true, laidKinds := [.data], laidTests := true, laidLooks := .later }
def ImageShrinksUptoCardSaid : Prop := Claim7.holds Tryz.pinned (.plain (OpenSpec.upto imageShrinksSpec)) imageShrinksUptoCard

/-- THE SECOND FORM's CARD OF 'effigylaw14.ImageFresh'. -/
def imageFreshUptoCard : Claim7 := { stood := { row := imageFreshUptoRow, standIns := [], harness := (true, "ae903724c1edce944121cafc016377bdbfb3f3411a91d040345a3098cfb111ee"), looks := false }, kinds := [], alts := [], laidByText := true, laidKinds := [.data], laidTests := true, laidLooks := .later }
def ImageFreshUptoCardSaid : Prop := Claim7.holds Tryz.pinned (.plain (OpenSpec.upto imageFreshSpec)) imageFreshUptoCard

/-- THE SECOND FORM's CARD OF 'effigylaw16.HandlesDoes'. -/
def handlesDoesUptoCard : Claim7 := { stood := { row := handlesDoesUptoRow, standIns := [], harness := (true, "ae903724c1edce944121cafc016377bdbfb3f3411a91d040345a3098cfb111ee"), looks := false }, kinds := [], alts := [], laidByText := true, laidKinds := [.data], laidTests := true, laidLooks := .later }
def HandlesDoesUptoCardSaid : Prop := Claim7.holds Tryz.pinned (.plain (OpenSpec.upto handlesDoesSpec)) handlesDoesUptoCard

/-- THE SECOND FORM's CARD OF 'effigylaw23.CompareMoves'. -/
def compareMovesUptoCard : Claim7 := { stood := { row := compareMovesUptoRow, standIns := [], harness := (true, "ae903724c1edce944121cafc016377bdbfb3f3411a91d040345a3098cfb111ee"), looks := false }, kinds := [], alts := [], laidByText := true, laidKinds := [.data], laidTests := true, laidLooks := .later }
def CompareMovesUptoCardSaid : Prop := Claim7.holds Tryz.pinned (.plain (OpenSpec.upto compareMovesSpec)) compareMovesUptoCard
end Rows
end Go.Proofs.YtlkahgagmfhdaaaGreatDoor
