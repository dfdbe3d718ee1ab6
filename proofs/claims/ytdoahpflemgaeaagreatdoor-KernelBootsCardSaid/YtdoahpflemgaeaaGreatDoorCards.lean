/-
  DERIVED. GIVEN WITH THE SEED: THE CARDS: each row of YtdoahpflemgaeaaGreatDoorRows.lean that lists a variable, with what it lists TIED to the program's text (the seventh form; the later family's looks); each row that meets fmt, with fmt's text TOLD by the authors' own Lean function (tested against real Go, not proved from fmt's source: count such statements apart). THE CARD IS WHAT COUNTS. Prove the row's statement (the work); the ties are given (YtdoahpflemgaeaaGreatDoorTie.lean); close each card by the builder's one call (the guide's Derived/Test/ToyasCard.lean, 'card_holds'). Laid BY PROGRAM, IN A SANDBOX (cutbox-door.mjs). By AI agents, Wed Nov 11 2026. No macro, syntax, notation, axiom, sorry.
-/
import Derived.Test.YtdoahpflemgaeaaGreatDoorRows
import GoSem.ClaimSeven
namespace Go.Proofs.YtdoahpflemgaeaaGreatDoor
namespace Rows

/-- THE TIED CARD OF 'effigylaw04.KernelBoots'. -/
def kernelBootsCard : Claim7 := { stood := { row := kernelBootsRow, standIns := [], harness := (true, "d9fa90c297e32bdf78b36f4b1a41b2ce342b70b8ee887d0d2c2082d77f644a9a"), looks := false }, kinds := [], alts := [], laidByText := true, laidKinds := [.data, .data, .data, .data, .data, .pinned], laidTests := true, laidLooks := .later }
def KernelBootsCardSaid : Prop := Claim7.holds Tryz.pinned (.plain (OpenSpec.ofChange kernelBootsSpec)) kernelBootsCard

/-- THE SECOND FORM's CARD OF 'effigylaw04.KernelBoots'. -/
def kernelBootsUptoCard : Claim7 := { stood := { row := kernelBootsUptoRow, standIns := [], harness := (true, "d9fa90c297e32bdf78b36f4b1a41b2ce342b70b8ee887d0d2c2082d77f644a9a"), looks := false }, kinds := [], alts := [], laidByText := true, laidKinds := [.data, .data, .data, .data, .data, .pinned], laidTests := true, laidLooks := .later }
def KernelBootsUptoCardSaid : Prop := Claim7.holds Tryz.pinned (.plain (OpenSpec.upto kernelBootsSpec)) kernelBootsUptoCard
end Rows
end Go.Proofs.YtdoahpflemgaeaaGreatDoor
