/-
  NARROWER THAN 'FOR EVERY INPUT', by the rows' own cells (each row's printed sentence says how): CompareDiffs: laid · CompareLike: laid · CompareTells: laid · CompareFollows: laid · CompareCanons: laid.
  DERIVED. THE GIVEN ROWS OF THIS SEAT. 5 by the template 'for every input the law returns true; each argument reads behind the call as it read before'; 0 by the template 'total and deterministic' (their statements: YtpajpdjjpgbklaaDoorTotals.lean).
  GIVEN WITH THE SEED: the statements are not yours to turn. If you find one false, say at which input.
  Laid BY PROGRAM, IN A SANDBOX (cutbox-rows.mjs): the forced cells as the released guide's own fill.sh prints them over the translation 0724369d365d6e70… (all of the seat's roots in one cut). By AI agents, Wed Nov 11 2026. No macro, syntax, notation, axiom, sorry.
-/
import Derived.Test.YtpajpdjjpgbklaaDoorChecked
import GoSem.Claim
import GoSem.ClaimJoined
import GoSem.ClaimMapViews
import Derived.JoinedTies
import Derived.KernelRfl
namespace Go.Proofs.YtpajpdjjpgbklaaDoor
/- THE CELL 'sum', in the pinned program and in every row, IS THE sha256 OF THE DUMP (.gsa) THAT YtpajpdjjpgbklaaDoorProg.lean LOADS. Nothing in Lean hashes anything: it is a label: what it is worth is what the hold of that sum in a sandbox is worth. -/
noncomputable def Tryd.pinned : Pinned := { name := "ytpajpdjjpgbklaadoor", sum := "0724369d365d6e70ebbf1455bc08ea480dc13a581c16f08cb82003e5934daff8", checked := Tryd.checked }
namespace Rows
def none {H : Type} : Left H := { results := [], args := [] }

/- WHAT THE LISTED PACKAGE-LEVEL VARIABLES READ AS WHEN THE CALL BEGINS. Each datum BY PROGRAM (the guide's laid-datum.mjs) off the statement by which the dump's own 'gosem.cut.vars' lays the variable. In a bare row this is a premise. The card (YtpajpdjjpgbklaaDoorCards.lean) ties it to the program's text. -/
def laid_effigy_oop_spares {H : Type} : DataW H := .agg [.lit (.bool false), .lit (.bool false), .lit (.bool true), .lit (.bool false), .lit (.bool false)]

/-- 'effigylaw23.CompareDiffs': WHATEVER THE INPUT: true; the input reads as it did. -/
def compareDiffsSpec : ChangeSpec := { name := "compareDiffs", fn := fun _ => fun
  | [d1, d2, d3, d4, d5] => { results := [.lit (.bool true)], args := [d1, d2, d3, d4, d5] }
  | _ => none }
def compareDiffsRow : OpenClaim := { program := "ytpajpdjjpgbklaadoor", sum := "0724369d365d6e70ebbf1455bc08ea480dc13a581c16f08cb82003e5934daff8", func := "effigy/effigylaw23.CompareDiffs", spec := "compareDiffs", unfollowed := true, recurses := true, named := ["effigy/oop.spares"], apart := false, laid := [("effigy/oop.spares", laid_effigy_oop_spares)] }
def CompareDiffsSaid : Prop := compareDiffsRow.holds Tryd.pinned (OpenSpec.ofChange compareDiffsSpec)

/-- ITS FALSE NEIGHBOUR: 'it returns false'. Refute it at one input. -/
def compareDiffsWrong : ChangeSpec := { name := "compareDiffs", fn := fun _ => fun
  | [d1, d2, d3, d4, d5] => { results := [.lit (.bool false)], args := [d1, d2, d3, d4, d5] }
  | _ => none }
def CompareDiffsWrongFalsely : Prop := compareDiffsRow.holds Tryd.pinned (OpenSpec.ofChange compareDiffsWrong)

/-- 'effigylaw23.CompareLike': WHATEVER THE INPUT: true; the input reads as it did. -/
def compareLikeSpec : ChangeSpec := { name := "compareLike", fn := fun _ => fun
  | [d1, d2, d3, d4, d5] => { results := [.lit (.bool true)], args := [d1, d2, d3, d4, d5] }
  | _ => none }
def compareLikeRow : OpenClaim := { program := "ytpajpdjjpgbklaadoor", sum := "0724369d365d6e70ebbf1455bc08ea480dc13a581c16f08cb82003e5934daff8", func := "effigy/effigylaw23.CompareLike", spec := "compareLike", unfollowed := true, recurses := true, named := ["effigy/oop.spares"], apart := false, laid := [("effigy/oop.spares", laid_effigy_oop_spares)] }
def CompareLikeSaid : Prop := compareLikeRow.holds Tryd.pinned (OpenSpec.ofChange compareLikeSpec)

/-- ITS FALSE NEIGHBOUR: 'it returns false'. Refute it at one input. -/
def compareLikeWrong : ChangeSpec := { name := "compareLike", fn := fun _ => fun
  | [d1, d2, d3, d4, d5] => { results := [.lit (.bool false)], args := [d1, d2, d3, d4, d5] }
  | _ => none }
def CompareLikeWrongFalsely : Prop := compareLikeRow.holds Tryd.pinned (OpenSpec.ofChange compareLikeWrong)

/-- 'effigylaw23.CompareTells': WHATEVER THE INPUT: true; the input reads as it did. -/
def compareTellsSpec : ChangeSpec := { name := "compareTells", fn := fun _ => fun
  | [d1, d2, d3, d4, d5] => { results := [.lit (.bool true)], args := [d1, d2, d3, d4, d5] }
  | _ => none }
def compareTellsRow : OpenClaim := { program := "ytpajpdjjpgbklaadoor", sum := "0724369d365d6e70ebbf1455bc08ea480dc13a581c16f08cb82003e5934daff8", func := "effigy/effigylaw23.CompareTells", spec := "compareTells", unfollowed := true, recurses := true, named := ["effigy/oop.spares"], apart := false, laid := [("effigy/oop.spares", laid_effigy_oop_spares)] }
def CompareTellsSaid : Prop := compareTellsRow.holds Tryd.pinned (OpenSpec.ofChange compareTellsSpec)

/-- ITS FALSE NEIGHBOUR: 'it returns false'. Refute it at one input. -/
def compareTellsWrong : ChangeSpec := { name := "compareTells", fn := fun _ => fun
  | [d1, d2, d3, d4, d5] => { results := [.lit (.bool false)], args := [d1, d2, d3, d4, d5] }
  | _ => none }
def CompareTellsWrongFalsely : Prop := compareTellsRow.holds Tryd.pinned (OpenSpec.ofChange compareTellsWrong)

/-- 'effigylaw23.CompareFollows': WHATEVER THE INPUT: true; the input reads as it did. -/
def compareFollowsSpec : ChangeSpec := { name := "compareFollows", fn := fun _ => fun
  | [d1, d2, d3] => { results := [.lit (.bool true)], args := [d1, d2, d3] }
  | _ => none }
def compareFollowsRow : OpenClaim := { program := "ytpajpdjjpgbklaadoor", sum := "0724369d365d6e70ebbf1455bc08ea480dc13a581c16f08cb82003e5934daff8", func := "effigy/effigylaw23.CompareFollows", spec := "compareFollows", unfollowed := true, recurses := true, named := ["effigy/oop.spares"], apart := false, laid := [("effigy/oop.spares", laid_effigy_oop_spares)] }
def CompareFollowsSaid : Prop := compareFollowsRow.holds Tryd.pinned (OpenSpec.ofChange compareFollowsSpec)

/-- ITS FALSE NEIGHBOUR: 'it returns false'. Refute it at one input. -/
def compareFollowsWrong : ChangeSpec := { name := "compareFollows", fn := fun _ => fun
  | [d1, d2, d3] => { results := [.lit (.bool false)], args := [d1, d2, d3] }
  | _ => none }
def CompareFollowsWrongFalsely : Prop := compareFollowsRow.holds Tryd.pinned (OpenSpec.ofChange compareFollowsWrong)

/-- 'effigylaw23.CompareCanons': WHATEVER THE INPUT: true; the input reads as it did. -/
def compareCanonsSpec : ChangeSpec := { name := "compareCanons", fn := fun _ => fun
  | [d1, d2, d3, d4] => { results := [.lit (.bool true)], args := [d1, d2, d3, d4] }
  | _ => none }
def compareCanonsRow : OpenClaim := { program := "ytpajpdjjpgbklaadoor", sum := "0724369d365d6e70ebbf1455bc08ea480dc13a581c16f08cb82003e5934daff8", func := "effigy/effigylaw23.CompareCanons", spec := "compareCanons", unfollowed := true, recurses := true, named := ["effigy/oop.spares"], apart := false, laid := [("effigy/oop.spares", laid_effigy_oop_spares)] }
def CompareCanonsSaid : Prop := compareCanonsRow.holds Tryd.pinned (OpenSpec.ofChange compareCanonsSpec)

/-- ITS FALSE NEIGHBOUR: 'it returns false'. Refute it at one input. -/
def compareCanonsWrong : ChangeSpec := { name := "compareCanons", fn := fun _ => fun
  | [d1, d2, d3, d4] => { results := [.lit (.bool false)], args := [d1, d2, d3, d4] }
  | _ => none }
def CompareCanonsWrongFalsely : Prop := compareCanonsRow.holds Tryd.pinned (OpenSpec.ofChange compareCanonsWrong)

/- THE SECOND FORM. 'bulk': how many values and letters a reading holds, each counted each time it is reached (what is shared counts as often as it is met; a slice's spare places count too). A statement '..UptoSaid' is the law's where the arguments, and the package variables that the reading takes, are together of bulk at most 1048576: NARROWER than '..Said'. Prove '..Said' where nothing that the law and all that it calls make is longer than what came in: it says more and counts as full. Else prove '..UptoSaid'. A law counts once. -/
mutual
def uptoBulk {H : Type} : DataW H → Nat
  | .lit (.string bytes) => bytes.length + 1
  | .lit _ => 1
  | .nil => 1
  | .ptr d => uptoBulk d + 1
  | .slice elems spare => uptoBulkAll elems + uptoBulkAll spare + 1
  | .agg parts => uptoBulkAll parts + 1
  | .iface _ d => uptoBulk d + 1
  | .map entries => uptoBulkEntries entries + 1
  | .held _ => 1
def uptoBulkAll {H : Type} : List (DataW H) → Nat
  | [] => 0
  | d :: r => uptoBulk d + uptoBulkAll r
def uptoBulkEntries {H : Type} : List (Lit × DataW H) → Nat
  | [] => 0
  | x :: r => uptoBulkEntry x + uptoBulkEntries r
def uptoBulkEntry {H : Type} : Lit × DataW H → Nat
  | (.string bytes, d) => bytes.length + uptoBulk d + 1
  | (_, d) => uptoBulk d + 1
 end
def uptoSmall : (H : Type) → List (DataW H) → Bool := fun _ ds => decide (uptoBulkAll ds ≤ 1048576)
def OpenSpec.upto (s : _root_.Go.ChangeSpec) : _root_.Go.OpenSpec := { _root_.Go.OpenSpec.ofChange s with cond := some uptoSmall }

/-- 'effigylaw23.CompareDiffs', WHERE WHAT IT READS IS OF BULK AT MOST 1048576: true; the input reads as it did. -/
def compareDiffsUptoRow : OpenClaim := { program := "ytpajpdjjpgbklaadoor", sum := "0724369d365d6e70ebbf1455bc08ea480dc13a581c16f08cb82003e5934daff8", func := "effigy/effigylaw23.CompareDiffs", spec := "compareDiffs", unfollowed := true, recurses := true, named := ["effigy/oop.spares"], apart := false, laid := [("effigy/oop.spares", laid_effigy_oop_spares)], narrowed := true }
def CompareDiffsUptoSaid : Prop := compareDiffsUptoRow.holds Tryd.pinned (OpenSpec.upto compareDiffsSpec)

/-- 'effigylaw23.CompareLike', WHERE WHAT IT READS IS OF BULK AT MOST 1048576: true; the input reads as it did. -/
def compareLikeUptoRow : OpenClaim := { program := "ytpajpdjjpgbklaadoor", sum := "0724369d365d6e70ebbf1455bc08ea480dc13a581c16f08cb82003e5934daff8", func := "effigy/effigylaw23.CompareLike", spec := "compareLike", unfollowed := true, recurses := true, named := ["effigy/oop.spares"], apart := false, laid := [("effigy/oop.spares", laid_effigy_oop_spares)], narrowed := true }
def CompareLikeUptoSaid : Prop := compareLikeUptoRow.holds Tryd.pinned (OpenSpec.upto compareLikeSpec)

/-- 'effigylaw23.CompareTells', WHERE WHAT IT READS IS OF BULK AT MOST 1048576: true; the input reads as it did. -/
def compareTellsUptoRow : OpenClaim := { program := "ytpajpdjjpgbklaadoor", sum := "0724369d365d6e70ebbf1455bc08ea480dc13a581c16f08cb82003e5934daff8", func := "effigy/effigylaw23.CompareTells", spec := "compareTells", unfollowed := true, recurses := true, named := ["effigy/oop.spares"], apart := false, laid := [("effigy/oop.spares", laid_effigy_oop_spares)], narrowed := true }
def CompareTellsUptoSaid : Prop := compareTellsUptoRow.holds Tryd.pinned (OpenSpec.upto compareTellsSpec)

/-- 'effigylaw23.CompareFollows', WHERE WHAT IT READS IS OF BULK AT MOST 1048576: true; the input reads as it did. -/
def compareFollowsUptoRow : OpenClaim := { program := "ytpajpdjjpgbklaadoor", sum := "0724369d365d6e70ebbf1455bc08ea480dc13a581c16f08cb82003e5934daff8", func := "effigy/effigylaw23.CompareFollows", spec := "compareFollows", unfollowed := true, recurses := true, named := ["effigy/oop.spares"], apart := false, laid := [("effigy/oop.spares", laid_effigy_oop_spares)], narrowed := true }
def CompareFollowsUptoSaid : Prop := compareFollowsUptoRow.holds Tryd.pinned (OpenSpec.upto compareFollowsSpec)

/-- 'effigylaw23.CompareCanons', WHERE WHAT IT READS IS OF BULK AT MOST 1048576: true; the input reads as it did. -/
def compareCanonsUptoRow : OpenClaim := { program := "ytpajpdjjpgbklaadoor", sum := "0724369d365d6e70ebbf1455bc08ea480dc13a581c16f08cb82003e5934daff8", func := "effigy/effigylaw23.CompareCanons", spec := "compareCanons", unfollowed := true, recurses := true, named := ["effigy/oop.spares"], apart := false, laid := [("effigy/oop.spares", laid_effigy_oop_spares)], narrowed := true }
def CompareCanonsUptoSaid : Prop := compareCanonsUptoRow.holds Tryd.pinned (OpenSpec.upto compareCanonsSpec)

end Rows
end Go.Proofs.YtpajpdjjpgbklaaDoor
