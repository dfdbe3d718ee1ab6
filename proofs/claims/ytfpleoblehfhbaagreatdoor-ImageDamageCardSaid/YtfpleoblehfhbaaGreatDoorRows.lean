/-
  NARROWER THAN 'FOR EVERY INPUT', by the rows' own cells (each row's printed sentence says how): ImageLoads: laid · ImageDamage: laid · ImageSaves: laid.
  DERIVED. THE GIVEN ROWS OF THIS SEAT. 3 by the template 'for every input the law returns true; each argument reads behind the call as it read before'; 0 by the template 'total and deterministic' (their statements: YtfpleoblehfhbaaGreatDoorTotals.lean).
  GIVEN WITH THE SEED: the statements are not yours to turn. If you find one false, say at which input.
  Laid BY PROGRAM, IN A SANDBOX (cutbox-rows.mjs): the forced cells as the released guide's own fill.sh prints them over the translation 98fd29177c698d02… (all of the seat's roots in one cut). By AI agents, Wed Nov 11 2026. No macro, syntax, notation, axiom, sorry.
-/
import Derived.Test.YtfpleoblehfhbaaGreatDoorChecked
import GoSem.Claim
import GoSem.ClaimJoined
import GoSem.ClaimMapViews
import Derived.JoinedTies
import Derived.KernelRfl
namespace Go.Proofs.YtfpleoblehfhbaaGreatDoor
/- THE CELL 'sum', in the pinned program and in every row, IS THE sha256 OF THE DUMP (.gsa) THAT YtfpleoblehfhbaaGreatDoorProg.lean LOADS. Nothing in Lean hashes anything: it is a label: what it is worth is what the hold of that sum in a sandbox is worth. -/
noncomputable def Tryz.pinned : Pinned := { name := "ytfpleoblehfhbaagreatdoor", sum := "98fd29177c698d02480fff35056e7f3001492a77f691143d075d8317fc4468b3", checked := Tryz.checked }
namespace Rows
def none {H : Type} : Left H := { results := [], args := [] }

/- WHAT THE LISTED PACKAGE-LEVEL VARIABLES READ AS WHEN THE CALL BEGINS. Each datum BY PROGRAM (the guide's laid-datum.mjs) off the statement by which the dump's own 'gosem.cut.vars' lays the variable. In a bare row this is a premise. The card (YtfpleoblehfhbaaGreatDoorCards.lean) ties it to the program's text. -/
def laid_effigy_oop_spares {H : Type} : DataW H := .agg [.lit (.bool false), .lit (.bool false), .lit (.bool true), .lit (.bool false), .lit (.bool false)]

/-- 'effigylaw14.ImageLoads': WHATEVER THE INPUT: true; the input reads as it did. -/
def imageLoadsSpec : ChangeSpec := { name := "imageLoads", fn := fun _ => fun
  | [d1, d2] => { results := [.lit (.bool true)], args := [d1, d2] }
  | _ => none }
def imageLoadsRow : OpenClaim := { program := "ytfpleoblehfhbaagreatdoor", sum := "98fd29177c698d02480fff35056e7f3001492a77f691143d075d8317fc4468b3", func := "effigy/effigylaw14.ImageLoads", spec := "imageLoads", unfollowed := true, recurses := true, named := ["effigy/oop.spares"], apart := false, laid := [("effigy/oop.spares", laid_effigy_oop_spares)] }
def ImageLoadsSaid : Prop := imageLoadsRow.holds Tryz.pinned (OpenSpec.ofChange imageLoadsSpec)

/-- ITS FALSE NEIGHBOUR: 'it returns false'. Refute it at one input. -/
def imageLoadsWrong : ChangeSpec := { name := "imageLoads", fn := fun _ => fun
  | [d1, d2] => { results := [.lit (.bool false)], args := [d1, d2] }
  | _ => none }
def ImageLoadsWrongFalsely : Prop := imageLoadsRow.holds Tryz.pinned (OpenSpec.ofChange imageLoadsWrong)

/-- 'effigylaw14.ImageDamage': WHATEVER THE INPUT: true; the input reads as it did. -/
def imageDamageSpec : ChangeSpec := { name := "imageDamage", fn := fun _ => fun
  | [d1, d2, d3, d4] => { results := [.lit (.bool true)], args := [d1, d2, d3, d4] }
  | _ => none }
def imageDamageRow : OpenClaim := { program := "ytfpleoblehfhbaagreatdoor", sum := "98fd29177c698d02480fff35056e7f3001492a77f691143d075d8317fc4468b3", func := "effigy/effigylaw14.ImageDamage", spec := "imageDamage", unfollowed := true, recurses := true, named := ["effigy/oop.spares"], apart := false, laid := [("effigy/oop.spares", laid_effigy_oop_spares)] }
def ImageDamageSaid : Prop := imageDamageRow.holds Tryz.pinned (OpenSpec.ofChange imageDamageSpec)

/-- ITS FALSE NEIGHBOUR: 'it returns false'. Refute it at one input. -/
def imageDamageWrong : ChangeSpec := { name := "imageDamage", fn := fun _ => fun
  | [d1, d2, d3, d4] => { results := [.lit (.bool false)], args := [d1, d2, d3, d4] }
  | _ => none }
def ImageDamageWrongFalsely : Prop := imageDamageRow.holds Tryz.pinned (OpenSpec.ofChange imageDamageWrong)

/-- 'effigylaw14.ImageSaves': WHATEVER THE INPUT: true; the input reads as it did. -/
def imageSavesSpec : ChangeSpec := { name := "imageSaves", fn := fun _ => fun
  | [d] => { results := [.lit (.bool true)], args := [d] }
  | _ => none }
def imageSavesRow : OpenClaim := { program := "ytfpleoblehfhbaagreatdoor", sum := "98fd29177c698d02480fff35056e7f3001492a77f691143d075d8317fc4468b3", func := "effigy/effigylaw14.ImageSaves", spec := "imageSaves", unfollowed := true, recurses := true, named := ["effigy/oop.spares"], apart := false, laid := [("effigy/oop.spares", laid_effigy_oop_spares)] }
def ImageSavesSaid : Prop := imageSavesRow.holds Tryz.pinned (OpenSpec.ofChange imageSavesSpec)

/-- ITS FALSE NEIGHBOUR: 'it returns false'. Refute it at one input. -/
def imageSavesWrong : ChangeSpec := { name := "imageSaves", fn := fun _ => fun
  | [d] => { results := [.lit (.bool false)], args := [d] }
  | _ => none }
def ImageSavesWrongFalsely : Prop := imageSavesRow.holds Tryz.pinned (OpenSpec.ofChange imageSavesWrong)

/- THE SECOND FORM. 'bulk': how many values and letters a reading holds, each counted each time it is reached (what is shared counts as often as it is met; a slice's spare places count too). A statement '..UptoSaid' is the law's where the arguments, and the package variables that the reading takes, are together of bulk at most 1048576: NARROWER than '..Said'. Prove '..Said' where nothing that the law and all that it calls make is longer than what came in: it says more and counts as full. Else prove '..UptoSaid'. A law counts once. -/
mutual
def uptoBulk {H : Type} : DataW H → Nat
  | .lit (.string bytes) => bytes.length + 1
  | .lit _ => 1
  | .nil => 1
  | .ptr d => uptoBulk d + 1
  | .slice elems spare => uptoBulkAll elems + uptoBulkAll spare + 1
  | .agg parts => uptoBulkAll parts + 1
  | .iface _ d => uptoBulk d + 1
  | .map entries => uptoBulkEntries entries + 1
  | .held _ => 1
def uptoBulkAll {H : Type} : List (DataW H) → Nat
  | [] => 0
  | d :: r => uptoBulk d + uptoBulkAll r
def uptoBulkEntries {H : Type} : List (Lit × DataW H) → Nat
  | [] => 0
  | x :: r => uptoBulkEntry x + uptoBulkEntries r
def uptoBulkEntry {H : Type} : Lit × DataW H → Nat
  | (.string bytes, d) => bytes.length + uptoBulk d + 1
  | (_, d) => uptoBulk d + 1
 end
def uptoSmall : (H : Type) → List (DataW H) → Bool := fun _ ds => decide (uptoBulkAll ds ≤ 1048576)
def OpenSpec.upto (s : _root_.Go.ChangeSpec) : _root_.Go.OpenSpec := { _root_.Go.OpenSpec.ofChange s with cond := some uptoSmall }

/-- 'effigylaw14.ImageLoads', WHERE WHAT IT READS IS OF BULK AT MOST 1048576: true; the input reads as it did. -/
def imageLoadsUptoRow : OpenClaim := { program := "ytfpleoblehfhbaagreatdoor", sum := "98fd29177c698d02480fff35056e7f3001492a77f691143d075d8317fc4468b3", func := "effigy/effigylaw14.ImageLoads", spec := "imageLoads", unfollowed := true, recurses := true, named := ["effigy/oop.spares"], apart := false, laid := [("effigy/oop.spares", laid_effigy_oop_spares)], narrowed := true }
def ImageLoadsUptoSaid : Prop := imageLoadsUptoRow.holds Tryz.pinned (OpenSpec.upto imageLoadsSpec)

/-- 'effigylaw14.ImageDamage', WHERE WHAT IT READS IS OF BULK AT MOST 1048576: true; the input reads as it did. -/
def imageDamageUptoRow : OpenClaim := { program := "ytfpleoblehfhbaagreatdoor", sum := "98fd29177c698d02480fff35056e7f3001492a77f691143d075d8317fc4468b3", func := "effigy/effigylaw14.ImageDamage", spec := "imageDamage", unfollowed := true, recurses := true, named := ["effigy/oop.spares"], apart := false, laid := [("effigy/oop.spares", laid_effigy_oop_spares)], narrowed := true }
def ImageDamageUptoSaid : Prop := imageDamageUptoRow.holds Tryz.pinned (OpenSpec.upto imageDamageSpec)

/-- 'effigylaw14.ImageSaves', WHERE WHAT IT READS IS OF BULK AT MOST 1048576: true; the input reads as it did. -/
def imageSavesUptoRow : OpenClaim := { program := "ytfpleoblehfhbaagreatdoor", sum := "98fd29177c698d02480fff35056e7f3001492a77f691143d075d8317fc4468b3", func := "effigy/effigylaw14.ImageSaves", spec := "imageSaves", unfollowed := true, recurses := true, named := ["effigy/oop.spares"], apart := false, laid := [("effigy/oop.spares", laid_effigy_oop_spares)], narrowed := true }
def ImageSavesUptoSaid : Prop := imageSavesUptoRow.holds Tryz.pinned (OpenSpec.upto imageSavesSpec)

end Rows
end Go.Proofs.YtfpleoblehfhbaaGreatDoor
