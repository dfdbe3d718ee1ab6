/-
  NARROWER THAN 'FOR EVERY INPUT', by the rows' own cells (each row's printed sentence says how): ImageBack: laid · ImageAnywhere: laid.
  DERIVED. THE GIVEN ROWS OF THIS SEAT. 2 by the template 'for every input the law returns true; each argument reads behind the call as it read before'; 0 by the template 'total and deterministic' (their statements: YtfpleoblehfhbaaDoorTotals.lean).
  GIVEN WITH THE SEED: the statements are not yours to turn. If you find one false, say at which input.
  Laid BY PROGRAM, IN A SANDBOX (cutbox-rows.mjs): the forced cells as the released guide's own fill.sh prints them over the translation bc54603de20eec41… (all of the seat's roots in one cut). By AI agents, Wed Nov 11 2026. No macro, syntax, notation, axiom, sorry.
-/
import Derived.Test.YtfpleoblehfhbaaDoorChecked
import GoSem.Claim
import GoSem.ClaimJoined
import GoSem.ClaimMapViews
import Derived.JoinedTies
import Derived.KernelRfl
namespace Go.Proofs.YtfpleoblehfhbaaDoor
/- THE CELL 'sum', in the pinned program and in every row, IS THE sha256 OF THE DUMP (.gsa) THAT YtfpleoblehfhbaaDoorProg.lean LOADS. Nothing in Lean hashes anything: it is a label: what it is worth is what the hold of that sum in a sandbox is worth. -/
noncomputable def Tryd.pinned : Pinned := { name := "ytfpleoblehfhbaadoor", sum := "bc54603de20eec4137cfd8d57ba5eea58d51ecca9bb3eb3908619903afa2fe48", checked := Tryd.checked }
namespace Rows
def none {H : Type} : Left H := { results := [], args := [] }

/- WHAT THE LISTED PACKAGE-LEVEL VARIABLES READ AS WHEN THE CALL BEGINS. Each datum BY PROGRAM (the guide's laid-datum.mjs) off the statement by which the dump's own 'gosem.cut.vars' lays the variable. In a bare row this is a premise. The card (YtfpleoblehfhbaaDoorCards.lean) ties it to the program's text. -/
def laid_effigy_oop_spares {H : Type} : DataW H := .agg [.lit (.bool false), .lit (.bool false), .lit (.bool true), .lit (.bool false), .lit (.bool false)]

/-- 'effigylaw14.ImageBack': WHATEVER THE INPUT: true; the input reads as it did. -/
def imageBackSpec : ChangeSpec := { name := "imageBack", fn := fun _ => fun
  | [d] => { results := [.lit (.bool true)], args := [d] }
  | _ => none }
def imageBackRow : OpenClaim := { program := "ytfpleoblehfhbaadoor", sum := "bc54603de20eec4137cfd8d57ba5eea58d51ecca9bb3eb3908619903afa2fe48", func := "effigy/effigylaw14.ImageBack", spec := "imageBack", unfollowed := true, recurses := true, named := ["effigy/oop.spares"], apart := false, laid := [("effigy/oop.spares", laid_effigy_oop_spares)] }
def ImageBackSaid : Prop := imageBackRow.holds Tryd.pinned (OpenSpec.ofChange imageBackSpec)

/-- ITS FALSE NEIGHBOUR: 'it returns false'. Refute it at one input. -/
def imageBackWrong : ChangeSpec := { name := "imageBack", fn := fun _ => fun
  | [d] => { results := [.lit (.bool false)], args := [d] }
  | _ => none }
def ImageBackWrongFalsely : Prop := imageBackRow.holds Tryd.pinned (OpenSpec.ofChange imageBackWrong)

/-- 'effigylaw14.ImageAnywhere': WHATEVER THE INPUT: true; the input reads as it did. -/
def imageAnywhereSpec : ChangeSpec := { name := "imageAnywhere", fn := fun _ => fun
  | [d1, d2] => { results := [.lit (.bool true)], args := [d1, d2] }
  | _ => none }
def imageAnywhereRow : OpenClaim := { program := "ytfpleoblehfhbaadoor", sum := "bc54603de20eec4137cfd8d57ba5eea58d51ecca9bb3eb3908619903afa2fe48", func := "effigy/effigylaw14.ImageAnywhere", spec := "imageAnywhere", unfollowed := true, recurses := true, named := ["effigy/oop.spares"], apart := false, laid := [("effigy/oop.spares", laid_effigy_oop_spares)] }
def ImageAnywhereSaid : Prop := imageAnywhereRow.holds Tryd.pinned (OpenSpec.ofChange imageAnywhereSpec)

/-- ITS FALSE NEIGHBOUR: 'it returns false'. Refute it at one input. -/
def imageAnywhereWrong : ChangeSpec := { name := "imageAnywhere", fn := fun _ => fun
  | [d1, d2] => { results := [.lit (.bool false)], args := [d1, d2] }
  | _ => none }
def ImageAnywhereWrongFalsely : Prop := imageAnywhereRow.holds Tryd.pinned (OpenSpec.ofChange imageAnywhereWrong)

/- THE SECOND FORM. 'bulk': how many values and letters a reading holds, each counted each time it is reached (what is shared counts as often as it is met; a slice's spare places count too). A statement '..UptoSaid' is the law's where the arguments, and the package variables that the reading takes, are together of bulk at most 1048576: NARROWER than '..Said'. Prove '..Said' where nothing that the law and all that it calls make is longer than what came in: it says more and counts as full. Else prove '..UptoSaid'. A law counts once. -/
mutual
def uptoBulk {H : Type} : DataW H → Nat
  | .lit (.string bytes) => bytes.length + 1
  | .lit _ => 1
  | .nil => 1
  | .ptr d => uptoBulk d + 1
  | .slice elems spare => uptoBulkAll elems + uptoBulkAll spare + 1
  | .agg parts => uptoBulkAll parts + 1
  | .iface _ d => uptoBulk d + 1
  | .map entries => uptoBulkEntries entries + 1
  | .held _ => 1
def uptoBulkAll {H : Type} : List (DataW H) → Nat
  | [] => 0
  | d :: r => uptoBulk d + uptoBulkAll r
def uptoBulkEntries {H : Type} : List (Lit × DataW H) → Nat
  | [] => 0
  | x :: r => uptoBulkEntry x + uptoBulkEntries r
def uptoBulkEntry {H : Type} : Lit × DataW H → Nat
  | (.string bytes, d) => bytes.length + uptoBulk d + 1
  | (_, d) => uptoBulk d + 1
 end
def uptoSmall : (H : Type) → List (DataW H) → Bool := fun _ ds => decide (uptoBulkAll ds ≤ 1048576)
def OpenSpec.upto (s : _root_.Go.ChangeSpec) : _root_.Go.OpenSpec := { _root_.Go.OpenSpec.ofChange s with cond := some uptoSmall }

/-- 'effigylaw14.ImageBack', WHERE WHAT IT READS IS OF BULK AT MOST 1048576: true; the input reads as it did. -/
def imageBackUptoRow : OpenClaim := { program := "ytfpleoblehfhbaadoor", sum := "bc54603de20eec4137cfd8d57ba5eea58d51ecca9bb3eb3908619903afa2fe48", func := "effigy/effigylaw14.ImageBack", spec := "imageBack", unfollowed := true, recurses := true, named := ["effigy/oop.spares"], apart := false, laid := [("effigy/oop.spares", laid_effigy_oop_spares)], narrowed := true }
def ImageBackUptoSaid : Prop := imageBackUptoRow.holds Tryd.pinned (OpenSpec.upto imageBackSpec)

/-- 'effigylaw14.ImageAnywhere', WHERE WHAT IT READS IS OF BULK AT MOST 1048576: true; the input reads as it did. -/
def imageAnywhereUptoRow : OpenClaim := { program := "ytfpleoblehfhbaadoor", sum := "bc54603de20eec4137cfd8d57ba5eea58d51ecca9bb3eb3908619903afa2fe48", func := "effigy/effigylaw14.ImageAnywhere", spec := "imageAnywhere", unfollowed := true, recurses := true, named := ["effigy/oop.spares"], apart := false, laid := [("effigy/oop.spares", laid_effigy_oop_spares)], narrowed := true }
def ImageAnywhereUptoSaid : Prop := imageAnywhereUptoRow.holds Tryd.pinned (OpenSpec.upto imageAnywhereSpec)

end Rows
end Go.Proofs.YtfpleoblehfhbaaDoor
