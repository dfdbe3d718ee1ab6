/-
  DERIVED. GIVEN WITH THE SEED: THE CARDS: each row of YtkpjkbkglnabiaaGreatDoorRows.lean that lists a variable, with what it lists TIED to the program's text (the seventh form; the later family's looks); each row that meets fmt, with fmt's text TOLD by the authors' own Lean function (tested against real Go, not proved from fmt's source: count such statements apart). THE CARD IS WHAT COUNTS. Prove the row's statement (the work); the ties are given (YtkpjkbkglnabiaaGreatDoorTie.lean); close each card by the builder's one call (the guide's Derived/Test/ToyasCard.lean, 'card_holds'). Laid BY PROGRAM, IN A SANDBOX (cutbox-door.mjs). By AI agents, Wed Nov 11 2026. No macro, syntax, notation, axiom, sorry.
-/
import Derived.Test.YtkpjkbkglnabiaaGreatDoorRows
import GoSem.ClaimSeven
namespace Go.Proofs.YtkpjkbkglnabiaaGreatDoor
namespace Rows

/-- THE TIED CARD OF 'effigylaw02.HeapDoes'. -/
def heapDoesCard : Claim7 := { stood := { row := heapDoesRow, standIns := [], harness := (true, "8e61889d891ec5e39cc56dfb0d9eff7e7b0af6f128f488af1f4aad78cc7a3b26"), looks := false }, kinds := [], alts := [], laidByText := true, laidKinds := [.data, .data, .data, .data], laidTests := true, laidLooks := .later }
def HeapDoesCardSaid : Prop := Claim7.holds Tryz.pinned (.plain (OpenSpec.ofChange heapDoesSpec)) heapDoesCard

/-- THE TIED CARD OF 'effigylaw02.HeapClones'. -/
def heapClonesCard : Claim7 := { stood := { row := heapClonesRow, standIns := [], harness := (true, "8e61889d891ec5e39cc56dfb0d9eff7e7b0af6f128f488af1f4aad78cc7a3b26"), looks := false }, kinds := [], alts := [], laidByText := true, laidKinds := [.data, .data, .data, .data], laidTests := true, laidLooks := .later }
def HeapClonesCardSaid : Prop := Claim7.holds Tryz.pinned (.plain (OpenSpec.ofChange heapClonesSpec)) heapClonesCard

/-- THE TIED CARD OF 'effigylaw02.HeapLoads'. -/
def heapLoadsCard : Claim7 := { stood := { row := heapLoadsRow, standIns := [], harness := (true, "8e61889d891ec5e39cc56dfb0d9eff7e7b0af6f128f488af1f4aad78cc7a3b26"), looks := false }, kinds := [], alts := [], laidByText := true, laidKinds := [.data, .data, .data, .data], laidTests := true, laidLooks := .later }
def HeapLoadsCardSaid : Prop := Claim7.holds Tryz.pinned (.plain (OpenSpec.ofChange heapLoadsSpec)) heapLoadsCard

/-- THE SECOND FORM's CARD OF 'effigylaw02.HeapDoes'. -/
def heapDoesUptoCard : Claim7 := { stood := { row := heapDoesUptoRow, standIns := [], harness := (true, "8e61889d891ec5e39cc56dfb0d9eff7e7b0af6f128f488af1f4aad78cc7a3b26"), looks := false }, kinds := [], alts := [], laidByText := true, laidKinds := [.data, .data, .data, .data], laidTests := true, laidLooks := .later }
def HeapDoesUptoCardSaid : Prop := Claim7.holds Tryz.pinned (.plain (OpenSpec.upto heapDoesSpec)) heapDoesUptoCard

/-- THE SECOND FORM's CARD OF 'effigylaw02.HeapClones'. -/
def heapClonesUptoCard : Claim7 := { stood := { row := heapClonesUptoRow, standIns := [], harness := (true, "8e61889d891ec5e39cc56dfb0d9eff7e7b0af6f128f488af1f4aad78cc7a3b26"), looks := false }, kinds := [], alts := [], laidByText := true, laidKinds := [.data, .data, .data, .data], laidTests := true, laidLooks := .later }
def HeapClonesUptoCardSaid : Prop := Claim7.holds Tryz.pinned (.plain (OpenSpec.upto heapClonesSpec)) heapClonesUptoCard

/-- THE SECOND FORM's CARD OF 'effigylaw02.HeapLoads'. -/
def heapLoadsUptoCard : Claim7 := { stood := { row := heapLoadsUptoRow, standIns := [], harness := (true, "8e61889d891ec5e39cc56dfb0d9eff7e7b0af6f128f488af1f4aad78cc7a3b26"), looks := false }, kinds := [], alts := [], laidByText := true, laidKinds := [.data, .data, .data, .data], laidTests := true, laidLooks := .later }
def HeapLoadsUptoCardSaid : Prop := Claim7.holds Tryz.pinned (.plain (OpenSpec.upto heapLoadsSpec)) heapLoadsUptoCard
end Rows
end Go.Proofs.YtkpjkbkglnabiaaGreatDoor
