/-
  DERIVED. GIVEN WITH THE SEED: THE CARDS: each row of YtblekggklimpeaaDoorRows.lean that lists a variable, with what it lists TIED to the program's text (the seventh form; the later family's looks); each row that meets fmt, with fmt's text TOLD by the authors' own Lean function (tested against real Go, not proved from fmt's source: count such statements apart). THE CARD IS WHAT COUNTS. Prove the row's statement (the work); the ties are given (YtblekggklimpeaaDoorTie.lean); close each card by the builder's one call (the guide's Derived/Test/ToyasCard.lean, 'card_holds'). Laid BY PROGRAM, IN A SANDBOX (cutbox-door.mjs). By AI agents, Wed Nov 11 2026. No macro, syntax, notation, axiom, sorry.
-/
import Derived.Test.YtblekggklimpeaaDoorRows
import GoSem.ClaimSeven
namespace Go.Proofs.YtblekggklimpeaaDoor
namespace Rows

/-- THE TIED CARD OF 'effigylaw03.CollectLives'. -/
def collectLivesCard : Claim7 := { stood := { row := collectLivesRow, standIns := [], harness := (true, "5ce44698856d3cfea50b096338b3a1de9c0324f91482b36d4d0d0614886926e9"), looks := false }, kinds := [], alts := [], laidByText := true, laidKinds := [.data], laidTests := true, laidLooks := .later }
def CollectLivesCardSaid : Prop := Claim7.holds Tryd.pinned (.plain (OpenSpec.ofChange collectLivesSpec)) collectLivesCard

/-- THE TIED CARD OF 'effigylaw03.CollectCollects'. -/
def collectCollectsCard : Claim7 := { stood := { row := collectCollectsRow, standIns := [], harness := (true, "5ce44698856d3cfea50b096338b3a1de9c0324f91482b36d4d0d0614886926e9"), looks := false }, kinds := [], alts := [], laidByText := true, laidKinds := [.data], laidTests := true, laidLooks := .later }
def CollectCollectsCardSaid : Prop := Claim7.holds Tryd.pinned (.plain (OpenSpec.ofChange collectCollectsSpec)) collectCollectsCard

/-- THE TIED CARD OF 'effigylaw03.CollectWeak'. -/
def collectWeakCard : Claim7 := { stood := { row := collectWeakRow, standIns := [], harness := (true, "5ce44698856d3cfea50b096338b3a1de9c0324f91482b36d4d0d0614886926e9"), looks := false }, kinds := [], alts := [], laidByText := true, laidKinds := [.data], laidTests := true, laidLooks := .later }
def CollectWeakCardSaid : Prop := Claim7.holds Tryd.pinned (.plain (OpenSpec.ofChange collectWeakSpec)) collectWeakCard

/-- THE TIED CARD OF 'effigylaw03.CollectKeeps'. -/
def collectKeepsCard : Claim7 := { stood := { row := collectKeepsRow, standIns := [], harness := (true, "5ce44698856d3cfea50b096338b3a1de9c0324f91482b36d4d0d0614886926e9"), looks := false }, kinds := [], alts := [], laidByText := true, laidKinds := [.data], laidTests := true, laidLooks := .later }
def CollectKeepsCardSaid : Prop := Claim7.holds Tryd.pinned (.plain (OpenSpec.ofChange collectKeepsSpec)) collectKeepsCard

/-- THE TIED CARD OF 'effigylaw03.CollectAgain'. -/
def collectAgainCard : Claim7 := { stood := { row := collectAgainRow, standIns := [], harness := (true, "5ce44698856d3cfea50b096338b3a1de9c0324f91482b36d4d0d0614886926e9"), looks := false }, kinds := [], alts := [], laidByText := true, laidKinds := [.data], laidTests := true, laidLooks := .later }
def CollectAgainCardSaid : Prop := Claim7.holds Tryd.pinned (.plain (OpenSpec.ofChange collectAgainSpec)) collectAgainCard

/-- THE TIED CARD OF 'effigylaw03.CollectRefs'. -/
def collectRefsCard : Claim7 := { stood := { row := collectRefsRow, standIns := [], harness := (true, "5ce44698856d3cfea50b096338b3a1de9c0324f91482b36d4d0d0614886926e9"), looks := false }, kinds := [], alts := [], laidByText := true, laidKinds := [.data], laidTests := true, laidLooks := .later }
def CollectRefsCardSaid : Prop := Claim7.holds Tryd.pinned (.plain (OpenSpec.ofChange collectRefsSpec)) collectRefsCard

/-- THE TIED CARD OF 'effigylaw03.CollectPaths'. -/
def collectPathsCard : Claim7 := { stood := { row := collectPathsRow, standIns := [], harness := (true, "5ce44698856d3cfea50b096338b3a1de9c0324f91482b36d4d0d0614886926e9"), looks := false }, kinds := [], alts := [], laidByText := true, laidKinds := [.data], laidTests := true, laidLooks := .later }
def CollectPathsCardSaid : Prop := Claim7.holds Tryd.pinned (.plain (OpenSpec.ofChange collectPathsSpec)) collectPathsCard

/-- THE TIED CARD OF 'effigylaw03.CollectReaches'. -/
def collectReachesCard : Claim7 := { stood := { row := collectReachesRow, standIns := [], harness := (true, "5ce44698856d3cfea50b096338b3a1de9c0324f91482b36d4d0d0614886926e9"), looks := false }, kinds := [], alts := [], laidByText := true, laidKinds := [.data], laidTests := true, laidLooks := .later }
def CollectReachesCardSaid : Prop := Claim7.holds Tryd.pinned (.plain (OpenSpec.ofChange collectReachesSpec)) collectReachesCard

/-- THE TIED CARD OF 'effigylaw03.CollectTwice'. -/
def collectTwiceCard : Claim7 := { stood := { row := collectTwiceRow, standIns := [], harness := (true, "5ce44698856d3cfea50b096338b3a1de9c0324f91482b36d4d0d0614886926e9"), looks := false }, kinds := [], alts := [], laidByText := true, laidKinds := [.data], laidTests := true, laidLooks := .later }
def CollectTwiceCardSaid : Prop := Claim7.holds Tryd.pinned (.plain (OpenSpec.ofChange collectTwiceSpec)) collectTwiceCard

/-- THE SECOND FORM's CARD OF 'effigylaw03.CollectLives'. -/
def collectLivesUptoCard : Claim7 := { stood := { row := collectLivesUptoRow, standIns := [], harness := (true, "5ce44698856d3cfea50b096338b3a1de9c0324f91482b36d4d0d0614886926e9"), looks := false }, kinds := [], alts := [], laidByText := true, laidKinds := [.data], laidTests := true, laidLooks := .later }
def CollectLivesUptoCardSaid : Prop := Claim7.holds Tryd.pinned (.plain (OpenSpec.upto collectLivesSpec)) collectLivesUptoCard

/-- THE SECOND FORM's CARD OF 'effigylaw03.CollectCollects'. -/
def collectCollectsUptoCard : Claim7 := { stood := { row := collectCollectsUptoRow, standIns := [], harness := (true, "5ce44698856d3cfea50b096338b3a1de9c0324f91482b36d4d0d0614886926e9"), looks := false }, kinds := [], alts := [], laidByText := true, laidKinds := [.data], laidTests := true, laidLooks := .later }
def CollectCollectsUptoCardSaid : Prop := Claim7.holds Tryd.pinned (.plain (OpenSpec.upto collectCollectsSpec)) collectCollectsUptoCard

/-- THE SECOND FORM's CARD OF 'effigylaw03.CollectWeak'. -/
def collectWeakUptoCard : Claim7 := { stood := { row := collectWeakUptoRow, standIns := [], harness := (true, "5ce44698856d3cfea50b096338b3a1de9c0324f91482b36d4d0d0614886926e9"), looks := false }, kinds := [], alts := [], laidByText := true, laidKinds := [.data], laidTests := true, laidLooks := .later }
def CollectWeakUptoCardSaid : Prop := Claim7.holds Tryd.pinned (.plain (OpenSpec.upto collectWeakSpec)) collectWeakUptoCard

/-- THE SECOND FORM's CARD OF 'effigylaw03.CollectKeeps'. -/
def collectKeepsUptoCard : Claim7 := { stood := { row := collectKeepsUptoRow, standIns := [], harness := (true, "5ce44698856d3cfea50b096338b3a1de9c0324f91482b36d4d0d0614886926e9"), looks := false }, kinds := [], alts := [], laidByText := true, laidKinds := [.data], laidTests := true, laidLooks := .later }
def CollectKeepsUptoCardSaid : Prop := Claim7.holds Tryd.pinned (.plain (OpenSpec.upto collectKeepsSpec)) collectKeepsUptoCard

/-- THE SECOND FORM's CARD OF 'effigylaw03.CollectAgain'. -/
def collectAgainUptoCard : Claim7 := { stood := { row := collectAgainUptoRow, standIns := [], harness := (true, "5ce44698856d3cfea50b096338b3a1de9c0324f91482b36d4d0d0614886926e9"), looks := false }, kinds := [], alts := [], laidByText := true, laidKinds := [.data], laidTests := true, laidLooks := .later }
def CollectAgainUptoCardSaid : Prop := Claim7.holds Tryd.pinned (.plain (OpenSpec.upto collectAgainSpec)) collectAgainUptoCard

/-- THE SECOND FORM's CARD OF 'effigylaw03.CollectRefs'. -/
def collectRefsUptoCard : Claim7 := { stood := { row := collectRefsUptoRow, standIns := [], harness := (true, "5ce44698856d3cfea50b096338b3a1de9c0324f91482b36d4d0d0614886926e9"), looks := false }, kinds := [], alts := [], laidByText := true, laidKinds := [.data], laidTests := true, laidLooks := .later }
def CollectRefsUptoCardSaid : Prop := Claim7.holds Tryd.pinned (.plain (OpenSpec.upto collectRefsSpec)) collectRefsUptoCard

/-- THE SECOND FORM's CARD OF 'effigylaw03.CollectPaths'. -/
def collectPathsUptoCard : Claim7 := { stood := { row := collectPathsUptoRow, standIns := [], harness := (true, "5ce44698856d3cfea50b096338b3a1de9c0324f91482b36d4d0d0614886926e9"), looks := false }, kinds := [], alts := [], laidByText := true, laidKinds := [.data], laidTests := true, laidLooks := .later }
def CollectPathsUptoCardSaid : Prop := Claim7.holds Tryd.pinned (.plain (OpenSpec.upto collectPathsSpec)) collectPathsUptoCard

/-- THE SECOND FORM's CARD OF 'effigylaw03.CollectReaches'. -/
def collectReachesUptoCard : Claim7 := { stood := { row := collectReachesUptoRow, standIns := [], harness := (true, "5ce44698856d3cfea50b096338b3a1de9c0324f91482b36d4d0d0614886926e9"), looks := false }, kinds := [], alts := [], laidByText := true, laidKinds := [.data], laidTests := true, laidLooks := .later }
def CollectReachesUptoCardSaid : Prop := Claim7.holds Tryd.pinned (.plain (OpenSpec.upto collectReachesSpec)) collectReachesUptoCard

/-- THE SECOND FORM's CARD OF 'effigylaw03.CollectTwice'. -/
def collectTwiceUptoCard : Claim7 := { stood := { row := collectTwiceUptoRow, standIns := [], harness := (true, "5ce44698856d3cfea50b096338b3a1de9c0324f91482b36d4d0d0614886926e9"), looks := false }, kinds := [], alts := [], laidByText := true, laidKinds := [.data], laidTests := true, laidLooks := .later }
def CollectTwiceUptoCardSaid : Prop := Claim7.holds Tryd.pinned (.plain (OpenSpec.upto collectTwiceSpec)) collectTwiceUptoCard
end Rows
end Go.Proofs.YtblekggklimpeaaDoor
