/-
  NARROWER THAN 'FOR EVERY INPUT', by the rows' own cells (each row's printed sentence says how): ImageLoads: laid · HandlesUnroot: laid · HandlesMean: laid · HandlesFull: laid · HandlesNil: laid · ImageShrinks: laid · ImageFresh: laid · HandlesDoes: laid · CompareMoves: laid.
  DERIVED. THE GIVEN ROWS OF THIS SEAT. 9 by the template 'for every input the law returns true; each argument reads behind the call as it read before'; 0 by the template 'total and deterministic' (their statements: YtlkahgagmfhdaaaGreatDoorTotals.lean).
  GIVEN WITH THE SEED: the statements are not yours to turn. If you find one false, say at which input.
  Laid BY PROGRAM, IN A SANDBOX (cutbox-rows.mjs): the forced cells as the released guide's own fill.sh prints them over the translation f757557853f6bebc… (all of the seat's roots in one cut). By AI agents, Wed Nov 11 2026. No macro, syntax, notation, axiom, sorry.
-/
import Derived.Test.YtlkahgagmfhdaaaGreatDoorChecked
import GoSem.Claim
import GoSem.ClaimJoined
import GoSem.ClaimMapViews
import Derived.JoinedTies
import Derived.KernelRfl
namespace Go.Proofs.YtlkahgagmfhdaaaGreatDoor
/- THE CELL 'sum', in the pinned program and in every row, IS THE sha256 OF THE DUMP (.gsa) THAT YtlkahgagmfhdaaaGreatDoorProg.lean LOADS. Nothing in Lean hashes anything: it is a label: what it is worth is what the hold of that sum in a sandbox is worth. -/
noncomputable def Tryz.pinned : Pinned := { name := "ytlkahgagmfhdaaagreatdoor", sum := "f757557853f6bebc1f626f86f64a074ee8ae944f83cb5024c5d3a430c077a737", checked := Tryz.checked }
namespace Rows
def none {H : Type} : Left H := { results := [], args := [] }

/- WHAT THE LISTED PACKAGE-LEVEL VARIABLES READ AS WHEN THE CALL BEGINS. Each datum BY PROGRAM (the guide's laid-datum.mjs) off the statement by which the dump's own 'gosem.cut.vars' lays the variable. In a bare row this is a premise. The card (YtlkahgagmfhdaaaGreatDoorCards.lean) ties it to the program's text. -/
def laid_effigy_oop_spares {H : Type} : DataW H := .agg [.lit (.bool false), .lit (.bool false), .lit (.bool true), .lit (.bool false), .lit (.bool false)]

/-- 'effigylaw14.ImageLoads': WHATEVER THE INPUT: true; the input reads as it did. -/
def imageLoadsSpec : ChangeSpec := { name := "imageLoads", fn := fun _ => fun
  | [d1, d2] => { results := [.lit (.bool true)], args := [d1, d2] }
  | _ => none }
def imageLoadsRow : OpenClaim := { program := "ytlkahgagmfhdaaagreatdoor", sum := "f757557853f6bebc1f626f86f64a074ee8ae944f83cb5024c5d3a430c077a737", func := "effigy/effigylaw14.ImageLoads", spec := "imageLoads", unfollowed := true, recurses := true, named := ["effigy/oop.spares"], apart := false, laid := [("effigy/oop.spares", laid_effigy_oop_spares)] }
def ImageLoadsSaid : Prop := imageLoadsRow.holds Tryz.pinned (OpenSpec.ofChange imageLoadsSpec)

/-- ITS FALSE NEIGHBOUR: 'it returns false'. Refute it at one input. -/
def imageLoadsWrong : ChangeSpec := { name := "imageLoads", fn := fun _ => fun
  | [d1, d2] => { results := [.lit (.bool false)], args := [d1, d2] }
  | _ => none }
def ImageLoadsWrongFalsely : Prop := imageLoadsRow.holds Tryz.pinned (OpenSpec.ofChange imageLoadsWrong)

/-- 'effigylaw16.HandlesUnroot': WHATEVER THE INPUT: true; the input reads as it did. -/
def handlesUnrootSpec : ChangeSpec := { name := "handlesUnroot", fn := fun _ => fun
  | [d1, d2, d3] => { results := [.lit (.bool true)], args := [d1, d2, d3] }
  | _ => none }
def handlesUnrootRow : OpenClaim := { program := "ytlkahgagmfhdaaagreatdoor", sum := "f757557853f6bebc1f626f86f64a074ee8ae944f83cb5024c5d3a430c077a737", func := "effigy/effigylaw16.HandlesUnroot", spec := "handlesUnroot", unfollowed := true, recurses := true, named := ["effigy/oop.spares"], apart := false, laid := [("effigy/oop.spares", laid_effigy_oop_spares)] }
def HandlesUnrootSaid : Prop := handlesUnrootRow.holds Tryz.pinned (OpenSpec.ofChange handlesUnrootSpec)

/-- ITS FALSE NEIGHBOUR: 'it returns false'. Refute it at one input. -/
def handlesUnrootWrong : ChangeSpec := { name := "handlesUnroot", fn := fun _ => fun
  | [d1, d2, d3] => { results := [.lit (.bool false)], args := [d1, d2, d3] }
  | _ => none }
def HandlesUnrootWrongFalsely : Prop := handlesUnrootRow.holds Tryz.pinned (OpenSpec.ofChange handlesUnrootWrong)

/-- 'effigylaw16.HandlesMean': WHATEVER THE INPUT: true; the input reads as it did. -/
def handlesMeanSpec : ChangeSpec := { name := "handlesMean", fn := fun _ => fun
  | [d] => { results := [.lit (.bool true)], args := [d] }
  | _ => none }
def handlesMeanRow : OpenClaim := { program := "ytlkahgagmfhdaaagreatdoor", sum := "f757557853f6bebc1f626f86f64a074ee8ae944f83cb5024c5d3a430c077a737", func := "effigy/effigylaw16.HandlesMean", spec := "handlesMean", unfollowed := true, recurses := true, named := ["effigy/oop.spares"], apart := false, laid := [("effigy/oop.spares", laid_effigy_oop_spares)] }
def HandlesMeanSaid : Prop := handlesMeanRow.holds Tryz.pinned (OpenSpec.ofChange handlesMeanSpec)

/-- ITS FALSE NEIGHBOUR: 'it returns false'. Refute it at one input. -/
def handlesMeanWrong : ChangeSpec := { name := "handlesMean", fn := fun _ => fun
  | [d] => { results := [.lit (.bool false)], args := [d] }
  | _ => none }
def HandlesMeanWrongFalsely : Prop := handlesMeanRow.holds Tryz.pinned (OpenSpec.ofChange handlesMeanWrong)

/-- 'effigylaw16.HandlesFull': WHATEVER THE INPUT: true; the input reads as it did. -/
def handlesFullSpec : ChangeSpec := { name := "handlesFull", fn := fun _ => fun
  | [d1, d2] => { results := [.lit (.bool true)], args := [d1, d2] }
  | _ => none }
def handlesFullRow : OpenClaim := { program := "ytlkahgagmfhdaaagreatdoor", sum := "f757557853f6bebc1f626f86f64a074ee8ae944f83cb5024c5d3a430c077a737", func := "effigy/effigylaw16.HandlesFull", spec := "handlesFull", unfollowed := true, recurses := true, named := ["effigy/oop.spares"], apart := false, laid := [("effigy/oop.spares", laid_effigy_oop_spares)] }
def HandlesFullSaid : Prop := handlesFullRow.holds Tryz.pinned (OpenSpec.ofChange handlesFullSpec)

/-- ITS FALSE NEIGHBOUR: 'it returns false'. Refute it at one input. -/
def handlesFullWrong : ChangeSpec := { name := "handlesFull", fn := fun _ => fun
  | [d1, d2] => { results := [.lit (.bool false)], args := [d1, d2] }
  | _ => none }
def HandlesFullWrongFalsely : Prop := handlesFullRow.holds Tryz.pinned (OpenSpec.ofChange handlesFullWrong)

/-- 'effigylaw16.HandlesNil': WHATEVER THE INPUT: true; the input reads as it did. -/
def handlesNilSpec : ChangeSpec := { name := "handlesNil", fn := fun _ => fun
  | [d1, d2, d3] => { results := [.lit (.bool true)], args := [d1, d2, d3] }
  | _ => none }
def handlesNilRow : OpenClaim := { program := "ytlkahgagmfhdaaagreatdoor", sum := "f757557853f6bebc1f626f86f64a074ee8ae944f83cb5024c5d3a430c077a737", func := "effigy/effigylaw16.HandlesNil", spec := "handlesNil", unfollowed := true, recurses := true, named := ["effigy/oop.spares"], apart := false, laid := [("effigy/oop.spares", laid_effigy_oop_spares)] }
def HandlesNilSaid : Prop := handlesNilRow.holds Tryz.pinned (OpenSpec.ofChange handlesNilSpec)

/-- ITS FALSE NEIGHBOUR: 'it returns false'. Refute it at one input. -/
def handlesNilWrong : ChangeSpec := { name := "handlesNil", fn := fun _ => fun
  | [d1, d2, d3] => { results := [.lit (.bool false)], args := [d1, d2, d3] }
  | _ => none }
def HandlesNilWrongFalsely : Prop := handlesNilRow.holds Tryz.pinned (OpenSpec.ofChange handlesNilWrong)

/-- 'effigylaw14.ImageShrinks': WHATEVER THE INPUT: true; the input reads as it did. -/
def imageShrinksSpec : ChangeSpec := { name := "imageShrinks", fn := fun _ => fun
  | [d] => { results := [.lit (.bool true)], args := [d] }
  | _ => none }
def imageShrinksRow : OpenClaim := { program := "ytlkahgagmfhdaaagreatdoor", sum := "f757557853f6bebc1f626f86f64a074ee8ae944f83cb5024c5d3a430c077a737", func := "effigy/effigylaw14.ImageShrinks", spec := "imageShrinks", unfollowed := true, recurses := true, named := ["effigy/oop.spares"], apart := false, laid := [("effigy/oop.spares", laid_effigy_oop_spares)] }
def ImageShrinksSaid : Prop := imageShrinksRow.holds Tryz.pinned (OpenSpec.ofChange imageShrinksSpec)

/-- ITS FALSE NEIGHBOUR: 'it returns false'. Refute it at one input. -/
def imageShrinksWrong : ChangeSpec := { name := "imageShrinks", fn := fun _ => fun
  | [d] => { results := [.lit (.bool false)], args := [d] }
  | _ => none }
def ImageShrinksWrongFalsely : Prop := imageShrinksRow.holds Tryz.pinned (OpenSpec.ofChange imageShrinksWrong)

/-- 'effigylaw14.ImageFresh': WHATEVER THE INPUT: true; the input reads as it did. -/
def imageFreshSpec : ChangeSpec := { name := "imageFresh", fn := fun _ => fun
  | [d] => { results := [.lit (.bool true)], args := [d] }
  | _ => none }
def imageFreshRow : OpenClaim := { program := "ytlkahgagmfhdaaagreatdoor", sum := "f757557853f6bebc1f626f86f64a074ee8ae944f83cb5024c5d3a430c077a737", func := "effigy/effigylaw14.ImageFresh", spec := "imageFresh", unfollowed := true, recurses := true, named := ["effigy/oop.spares"], apart := false, laid := [("effigy/oop.spares", laid_effigy_oop_spares)] }
def ImageFreshSaid : Prop := imageFreshRow.holds Tryz.pinned (OpenSpec.ofChange imageFreshSpec)

/-- ITS FALSE NEIGHBOUR: 'it returns false'. Refute it at one input. -/
def imageFreshWrong : ChangeSpec := { name := "imageFresh", fn := fun _ => fun
  | [d] => { results := [.lit (.bool false)], args := [d] }
  | _ => none }
def ImageFreshWrongFalsely : Prop := imageFreshRow.holds Tryz.pinned (OpenSpec.ofChange imageFreshWrong)

/-- 'effigylaw16.HandlesDoes': WHATEVER THE INPUT: true; the input reads as it did. -/
def handlesDoesSpec : ChangeSpec := { name := "handlesDoes", fn := fun _ => fun
  | [d] => { results := [.lit (.bool true)], args := [d] }
  | _ => none }
def handlesDoesRow : OpenClaim := { program := "ytlkahgagmfhdaaagreatdoor", sum := "f757557853f6bebc1f626f86f64a074ee8ae944f83cb5024c5d3a430c077a737", func := "effigy/effigylaw16.HandlesDoes", spec := "handlesDoes", unfollowed := true, recurses := true, named := ["effigy/oop.spares"], apart := false, laid := [("effigy/oop.spares", laid_effigy_oop_spares)] }
def HandlesDoesSaid : Prop := handlesDoesRow.holds Tryz.pinned (OpenSpec.ofChange handlesDoesSpec)

/-- ITS FALSE NEIGHBOUR: 'it returns false'. Refute it at one input. -/
def handlesDoesWrong : ChangeSpec := { name := "handlesDoes", fn := fun _ => fun
  | [d] => { results := [.lit (.bool false)], args := [d] }
  | _ => none }
def HandlesDoesWrongFalsely : Prop := handlesDoesRow.holds Tryz.pinned (OpenSpec.ofChange handlesDoesWrong)

/-- 'effigylaw23.CompareMoves': WHATEVER THE INPUT: true; the input reads as it did. -/
def compareMovesSpec : ChangeSpec := { name := "compareMoves", fn := fun _ => fun
  | [d] => { results := [.lit (.bool true)], args := [d] }
  | _ => none }
def compareMovesRow : OpenClaim := { program := "ytlkahgagmfhdaaagreatdoor", sum := "f757557853f6bebc1f626f86f64a074ee8ae944f83cb5024c5d3a430c077a737", func := "effigy/effigylaw23.CompareMoves", spec := "compareMoves", unfollowed := true, recurses := true, named := ["effigy/oop.spares"], apart := false, laid := [("effigy/oop.spares", laid_effigy_oop_spares)] }
def CompareMovesSaid : Prop := compareMovesRow.holds Tryz.pinned (OpenSpec.ofChange compareMovesSpec)

/-- ITS FALSE NEIGHBOUR: 'it returns false'. Refute it at one input. -/
def compareMovesWrong : ChangeSpec := { name := "compareMoves", fn := fun _ => fun
  | [d] => { results := [.lit (.bool false)], args := [d] }
  | _ => none }
def CompareMovesWrongFalsely : Prop := compareMovesRow.holds Tryz.pinned (OpenSpec.ofChange compareMovesWrong)

/- THE SECOND FORM. 'bulk': how many values and letters a reading holds, each counted each time it is reached (what is shared counts as often as it is met; a slice's spare places count too). A statement '..UptoSaid' is the law's where the arguments, and the package variables that the reading takes, are together of bulk at most 1048576: NARROWER than '..Said'. Prove '..Said' where nothing that the law and all that it calls make is longer than what came in: it says more and counts as full. Else prove '..UptoSaid'. A law counts once. -/
mutual
def uptoBulk {H : Type} : DataW H → Nat
  | .lit (.string bytes) => bytes.length + 1
  | .lit _ => 1
  | .nil => 1
  | .ptr d => uptoBulk d + 1
  | .slice elems spare => uptoBulkAll elems + uptoBulkAll spare + 1
  | .agg parts => uptoBulkAll parts + 1
  | .iface _ d => uptoBulk d + 1
  | .map entries => uptoBulkEntries entries + 1
  | .held _ => 1
def uptoBulkAll {H : Type} : List (DataW H) → Nat
  | [] => 0
  | d :: r => uptoBulk d + uptoBulkAll r
def uptoBulkEntries {H : Type} : List (Lit × DataW H) → Nat
  | [] => 0
  | x :: r => uptoBulkEntry x + uptoBulkEntries r
def uptoBulkEntry {H : Type} : Lit × DataW H → Nat
  | (.string bytes, d) => bytes.length + uptoBulk d + 1
  | (_, d) => uptoBulk d + 1
 end
def uptoSmall : (H : Type) → List (DataW H) → Bool := fun _ ds => decide (uptoBulkAll ds ≤ 1048576)
def OpenSpec.upto (s : _root_.Go.ChangeSpec) : _root_.Go.OpenSpec := { _root_.Go.OpenSpec.ofChange s with cond := some uptoSmall }

/-- 'effigylaw14.ImageLoads', WHERE WHAT IT READS IS OF BULK AT MOST 1048576: true; the input reads as it did. -/
def imageLoadsUptoRow : OpenClaim := { program := "ytlkahgagmfhdaaagreatdoor", sum := "f757557853f6bebc1f626f86f64a074ee8ae944f83cb5024c5d3a430c077a737", func := "effigy/effigylaw14.ImageLoads", spec := "imageLoads", unfollowed := true, recurses := true, named := ["effigy/oop.spares"], apart := false, laid := [("effigy/oop.spares", laid_effigy_oop_spares)], narrowed := true }
def ImageLoadsUptoSaid : Prop := imageLoadsUptoRow.holds Tryz.pinned (OpenSpec.upto imageLoadsSpec)

/-- 'effigylaw16.HandlesUnroot', WHERE WHAT IT READS IS OF BULK AT MOST 1048576: true; the input reads as it did. -/
def handlesUnrootUptoRow : OpenClaim := { program := "ytlkahgagmfhdaaagreatdoor", sum := "f757557853f6bebc1f626f86f64a074ee8ae944f83cb5024c5d3a430c077a737", func := "effigy/effigylaw16.HandlesUnroot", spec := "handlesUnroot", unfollowed := true, recurses := true, named := ["effigy/oop.spares"], apart := false, laid := [("effigy/oop.spares", laid_effigy_oop_spares)], narrowed := true }
def HandlesUnrootUptoSaid : Prop := handlesUnrootUptoRow.holds Tryz.pinned (OpenSpec.upto handlesUnrootSpec)

/-- 'effigylaw16.HandlesMean', WHERE WHAT IT READS IS OF BULK AT MOST 1048576: true; the input reads as it did. -/
def handlesMeanUptoRow : OpenClaim := { program := "ytlkahgagmfhdaaagreatdoor", sum := "f757557853f6bebc1f626f86f64a074ee8ae944f83cb5024c5d3a430c077a737", func := "effigy/effigylaw16.HandlesMean", spec := "handlesMean", unfollowed := true, recurses := true, named := ["effigy/oop.spares"], apart := false, laid := [("effigy/oop.spares", laid_effigy_oop_spares)], narrowed := true }
def HandlesMeanUptoSaid : Prop := handlesMeanUptoRow.holds Tryz.pinned (OpenSpec.upto handlesMeanSpec)

/-- 'effigylaw16.HandlesFull', WHERE WHAT IT READS IS OF BULK AT MOST 1048576: true; the input reads as it did. -/
def handlesFullUptoRow : OpenClaim := { program := "ytlkahgagmfhdaaagreatdoor", sum := "f757557853f6bebc1f626f86f64a074ee8ae944f83cb5024c5d3a430c077a737", func := "effigy/effigylaw16.HandlesFull", spec := "handlesFull", unfollowed := true, recurses := true, named := ["effigy/oop.spares"], apart := false, laid := [("effigy/oop.spares", laid_effigy_oop_spares)], narrowed := true }
def HandlesFullUptoSaid : Prop := handlesFullUptoRow.holds Tryz.pinned (OpenSpec.upto handlesFullSpec)

/-- 'effigylaw16.HandlesNil', WHERE WHAT IT READS IS OF BULK AT MOST 1048576: true; the input reads as it did. -/
def handlesNilUptoRow : OpenClaim := { program := "ytlkahgagmfhdaaagreatdoor", sum := "f757557853f6bebc1f626f86f64a074ee8ae944f83cb5024c5d3a430c077a737", func := "effigy/effigylaw16.HandlesNil", spec := "handlesNil", unfollowed := true, recurses := true, named := ["effigy/oop.spares"], apart := false, laid := [("effigy/oop.spares", laid_effigy_oop_spares)], narrowed := true }
def HandlesNilUptoSaid : Prop := handlesNilUptoRow.holds Tryz.pinned (OpenSpec.upto handlesNilSpec)

/-- 'effigylaw14.ImageShrinks', WHERE WHAT IT READS IS OF BULK AT MOST 1048576: true; the input reads as it did. -/
def imageShrinksUptoRow : OpenClaim := { program := "ytlkahgagmfhdaaagreatdoor", sum := "f757557853f6bebc1f626f86f64a074ee8ae944f83cb5024c5d3a430c077a737", func := "effigy/effigylaw14.ImageShrinks", spec := "imageShrinks", unfollowed := true, recurses := true, named := ["effigy/oop.spares"], apart := false, laid := [("effigy/oop.spares", laid_effigy_oop_spares)], narrowed := true }
def ImageShrinksUptoSaid : Prop := imageShrinksUptoRow.holds Tryz.pinned (OpenSpec.upto imageShrinksSpec)

/-- 'effigylaw14.ImageFresh', WHERE WHAT IT READS IS OF BULK AT MOST 1048576: true; the input reads as it did. -/
def imageFreshUptoRow : OpenClaim := { program := "ytlkahgagmfhdaaagreatdoor", sum := "f757557853f6bebc1f626f86f64a074ee8ae944f83cb5024c5d3a430c077a737", func := "effigy/effigylaw14.ImageFresh", spec := "imageFresh", unfollowed := true, recurses := true, named := ["effigy/oop.spares"], apart := false, laid := [("effigy/oop.spares", laid_effigy_oop_spares)], narrowed := true }
def ImageFreshUptoSaid : Prop := imageFreshUptoRow.holds Tryz.pinned (OpenSpec.upto imageFreshSpec)

/-- 'effigylaw16.HandlesDoes', WHERE WHAT IT READS IS OF BULK AT MOST 1048576: true; the input reads as it did. -/
def handlesDoesUptoRow : OpenClaim := { program := "ytlkahgagmfhdaaagreatdoor", sum := "f757557853f6bebc1f626f86f64a074ee8ae944f83cb5024c5d3a430c077a737", func := "effigy/effigylaw16.HandlesDoes", spec := "handlesDoes", unfollowed := true, recurses := true, named := ["effigy/oop.spares"], apart := false, laid := [("effigy/oop.spares", laid_effigy_oop_spares)], narrowed := true }
def HandlesDoesUptoSaid : Prop := handlesDoesUptoRow.holds Tryz.pinned (OpenSpec.upto handlesDoesSpec)

/-- 'effigylaw23.CompareMoves', WHERE WHAT IT READS IS OF BULK AT MOST 1048576: true; the input reads as it did. -/
def compareMovesUptoRow : OpenClaim := { program := "ytlkahgagmfhdaaagreatdoor", sum := "f757557853f6bebc1f626f86f64a074ee8ae944f83cb5024c5d3a430c077a737", func := "effigy/effigylaw23.CompareMoves", spec := "compareMoves", unfollowed := true, recurses := true, named := ["effigy/oop.spares"], apart := false, laid := [("effigy/oop.spares", laid_effigy_oop_spares)], narrowed := true }
def CompareMovesUptoSaid : Prop := compareMovesUptoRow.holds Tryz.pinned (OpenSpec.upto compareMovesSpec)

end Rows
end Go.Proofs.YtlkahgagmfhdaaaGreatDoor
