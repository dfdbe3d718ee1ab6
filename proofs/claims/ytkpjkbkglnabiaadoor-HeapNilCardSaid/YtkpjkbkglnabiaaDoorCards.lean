/-
  DERIVED. GIVEN WITH THE SEED: THE CARDS: each row of YtkpjkbkglnabiaaDoorRows.lean that lists a variable, with what it lists TIED to the program's text (the seventh form; the later family's looks); each row that meets fmt, with fmt's text TOLD by the authors' own Lean function (tested against real Go, not proved from fmt's source: count such statements apart). THE CARD IS WHAT COUNTS. Prove the row's statement (the work); the ties are given (YtkpjkbkglnabiaaDoorTie.lean); close each card by the builder's one call (the guide's Derived/Test/ToyasCard.lean, 'card_holds'). Laid BY PROGRAM, IN A SANDBOX (cutbox-door.mjs). By AI agents, Wed Nov 11 2026. No macro, syntax, notation, axiom, sorry.
-/
import Derived.Test.YtkpjkbkglnabiaaDoorRows
import GoSem.ClaimSeven
namespace Go.Proofs.YtkpjkbkglnabiaaDoor
namespace Rows

/-- THE TIED CARD OF 'effigylaw02.HeapFull'. -/
def heapFullCard : Claim7 := { stood := { row := heapFullRow, standIns := [], harness := (true, "d54a98369e6dda363ace0a5bf0f877db3bb8a523ce65ae3589cbe01ba4e7f2e5"), looks := false }, kinds := [], alts := [], laidByText := true, laidKinds := [.data, .data, .data, .data], laidTests := true, laidLooks := .later }
def HeapFullCardSaid : Prop := Claim7.holds Tryd.pinned (.plain (OpenSpec.ofChange heapFullSpec)) heapFullCard

/-- THE TIED CARD OF 'effigylaw02.HeapNews'. -/
def heapNewsCard : Claim7 := { stood := { row := heapNewsRow, standIns := [], harness := (true, "d54a98369e6dda363ace0a5bf0f877db3bb8a523ce65ae3589cbe01ba4e7f2e5"), looks := false }, kinds := [], alts := [], laidByText := true, laidKinds := [.data, .data, .data, .data], laidTests := true, laidLooks := .later }
def HeapNewsCardSaid : Prop := Claim7.holds Tryd.pinned (.plain (OpenSpec.ofChange heapNewsSpec)) heapNewsCard

/-- THE TIED CARD OF 'effigylaw02.HeapWrites'. -/
def heapWritesCard : Claim7 := { stood := { row := heapWritesRow, standIns := [], harness := (true, "d54a98369e6dda363ace0a5bf0f877db3bb8a523ce65ae3589cbe01ba4e7f2e5"), looks := false }, kinds := [], alts := [], laidByText := true, laidKinds := [.data, .data, .data, .data], laidTests := true, laidLooks := .later }
def HeapWritesCardSaid : Prop := Claim7.holds Tryd.pinned (.plain (OpenSpec.ofChange heapWritesSpec)) heapWritesCard

/-- THE TIED CARD OF 'effigylaw02.HeapFresh'. -/
def heapFreshCard : Claim7 := { stood := { row := heapFreshRow, standIns := [], harness := (true, "d54a98369e6dda363ace0a5bf0f877db3bb8a523ce65ae3589cbe01ba4e7f2e5"), looks := false }, kinds := [], alts := [], laidByText := true, laidKinds := [.data, .data, .data, .data], laidTests := true, laidLooks := .later }
def HeapFreshCardSaid : Prop := Claim7.holds Tryd.pinned (.plain (OpenSpec.ofChange heapFreshSpec)) heapFreshCard

/-- THE TIED CARD OF 'effigylaw02.HeapRows'. -/
def heapRowsCard : Claim7 := { stood := { row := heapRowsRow, standIns := [], harness := (true, "d54a98369e6dda363ace0a5bf0f877db3bb8a523ce65ae3589cbe01ba4e7f2e5"), looks := false }, kinds := [], alts := [], laidByText := true, laidKinds := [.data, .data, .data, .data], laidTests := true, laidLooks := .later }
def HeapRowsCardSaid : Prop := Claim7.holds Tryd.pinned (.plain (OpenSpec.ofChange heapRowsSpec)) heapRowsCard

/-- THE TIED CARD OF 'effigylaw02.HeapSound'. -/
def heapSoundCard : Claim7 := { stood := { row := heapSoundRow, standIns := [], harness := (true, "d54a98369e6dda363ace0a5bf0f877db3bb8a523ce65ae3589cbe01ba4e7f2e5"), looks := false }, kinds := [], alts := [], laidByText := true, laidKinds := [.data, .data, .data, .data], laidTests := true, laidLooks := .later }
def HeapSoundCardSaid : Prop := Claim7.holds Tryd.pinned (.plain (OpenSpec.ofChange heapSoundSpec)) heapSoundCard

/-- THE TIED CARD OF 'effigylaw02.HeapNil'. -/
def heapNilCard : Claim7 := { stood := { row := heapNilRow, standIns := [], harness := (true, "d54a98369e6dda363ace0a5bf0f877db3bb8a523ce65ae3589cbe01ba4e7f2e5"), looks := false }, kinds := [], alts := [], laidByText := true, laidKinds := [.data, .data, .data, .data], laidTests := true, laidLooks := .later }
def HeapNilCardSaid : Prop := Claim7.holds Tryd.pinned (.plain (OpenSpec.ofChange heapNilSpec)) heapNilCard

/-- THE SECOND FORM's CARD OF 'effigylaw02.HeapFull'. -/
def heapFullUptoCard : Claim7 := { stood := { row := heapFullUptoRow, standIns := [], harness := (true, "d54a98369e6dda363ace0a5bf0f877db3bb8a523ce65ae3589cbe01ba4e7f2e5"), looks := false }, kinds := [], alts := [], laidByText := true, laidKinds := [.data, .data, .data, .data], laidTests := true, laidLooks := .later }
def HeapFullUptoCardSaid : Prop := Claim7.holds Tryd.pinned (.plain (OpenSpec.upto heapFullSpec)) heapFullUptoCard

/-- THE SECOND FORM's CARD OF 'effigylaw02.HeapNews'. -/
def heapNewsUptoCard : Claim7 := { stood := { row := heapNewsUptoRow, standIns := [], harness := (true, "d54a98369e6dda363ace0a5bf0f877db3bb8a523ce65ae3589cbe01ba4e7f2e5"), looks := false }, kinds := [], alts := [], laidByText := true, laidKinds := [.data, .data, .data, .data], laidTests := true, laidLooks := .later }
def HeapNewsUptoCardSaid : Prop := Claim7.holds Tryd.pinned (.plain (OpenSpec.upto heapNewsSpec)) heapNewsUptoCard

/-- THE SECOND FORM's CARD OF 'effigylaw02.HeapWrites'. -/
def heapWritesUptoCard : Claim7 := { stood := { row := heapWritesUptoRow, standIns := [], harness := (true, "d54a98369e6dda363ace0a5bf0f877db3bb8a523ce65ae3589cbe01ba4e7f2e5"), looks := false }, kinds := [], alts := [], laidByText := true, laidKinds := [.data, .data, .data, .data], laidTests := true, laidLooks := .later }
def HeapWritesUptoCardSaid : Prop := Claim7.holds Tryd.pinned (.plain (OpenSpec.upto heapWritesSpec)) heapWritesUptoCard

/-- THE SECOND FORM's CARD OF 'effigylaw02.HeapFresh'. -/
def heapFreshUptoCard : Claim7 := { stood := { row := heapFreshUptoRow, standIns := [], harness := (true, "d54a98369e6dda363ace0a5bf0f877db3bb8a523ce65ae3589cbe01ba4e7f2e5"), looks := false }, kinds := [], alts := [], laidByText := true, laidKinds := [.data, .data, .data, .data], laidTests := true, laidLooks := .later }
def HeapFreshUptoCardSaid : Prop := Claim7.holds Tryd.pinned (.plain (OpenSpec.upto heapFreshSpec)) heapFreshUptoCard

/-- THE SECOND FORM's CARD OF 'effigylaw02.HeapRows'. -/
def heapRowsUptoCard : Claim7 := { stood := { row := heapRowsUptoRow, standIns := [], harness := (true, "d54a98369e6dda363ace0a5bf0f877db3bb8a523ce65ae3589cbe01ba4e7f2e5"), looks := false }, kinds := [], alts := [], laidByText := true, laidKinds := [.data, .data, .data, .data], laidTests := true, laidLooks := .later }
def HeapRowsUptoCardSaid : Prop := Claim7.holds Tryd.pinned (.plain (OpenSpec.upto heapRowsSpec)) heapRowsUptoCard

/-- THE SECOND FORM's CARD OF 'effigylaw02.HeapSound'. -/
def heapSoundUptoCard : Claim7 := { stood := { row := heapSoundUptoRow, standIns := [], harness := (true, "d54a98369e6dda363ace0a5bf0f877db3bb8a523ce65ae3589cbe01ba4e7f2e5"), looks := false }, kinds := [], alts := [], laidByText := true, laidKinds := [.data, .data, .data, .data], laidTests := true, laidLooks := .later }
def HeapSoundUptoCardSaid : Prop := Claim7.holds Tryd.pinned (.plain (OpenSpec.upto heapSoundSpec)) heapSoundUptoCard

/-- THE SECOND FORM's CARD OF 'effigylaw02.HeapNil'. -/
def heapNilUptoCard : Claim7 := { stood := { row := heapNilUptoRow, standIns := [], harness := (true, "d54a98369e6dda363ace0a5bf0f877db3bb8a523ce65ae3589cbe01ba4e7f2e5"), looks := false }, kinds := [], alts := [], laidByText := true, laidKinds := [.data, .data, .data, .data], laidTests := true, laidLooks := .later }
def HeapNilUptoCardSaid : Prop := Claim7.holds Tryd.pinned (.plain (OpenSpec.upto heapNilSpec)) heapNilUptoCard
end Rows
end Go.Proofs.YtkpjkbkglnabiaaDoor
