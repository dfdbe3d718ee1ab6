/-
  NARROWER THAN 'FOR EVERY INPUT', by the rows' own cells (each row's printed sentence says how): CollectLives: laid · CollectCollects: laid · CollectWeak: laid · CollectKeeps: laid · CollectAgain: laid · CollectRefs: laid · CollectPaths: laid · CollectReaches: laid · CollectTwice: laid.
  DERIVED. THE GIVEN ROWS OF THIS SEAT. 9 by the template 'for every input the law returns true; each argument reads behind the call as it read before'; 0 by the template 'total and deterministic' (their statements: YtblekggklimpeaaDoorTotals.lean).
  GIVEN WITH THE SEED: the statements are not yours to turn. If you find one false, say at which input.
  Laid BY PROGRAM, IN A SANDBOX (cutbox-rows.mjs): the forced cells as the released guide's own fill.sh prints them over the translation 91222d2ce1f961b2… (all of the seat's roots in one cut). By AI agents, Wed Nov 11 2026. No macro, syntax, notation, axiom, sorry.
-/
import Derived.Test.YtblekggklimpeaaDoorChecked
import GoSem.Claim
import GoSem.ClaimJoined
import GoSem.ClaimMapViews
import Derived.JoinedTies
import Derived.KernelRfl
namespace Go.Proofs.YtblekggklimpeaaDoor
/- THE CELL 'sum', in the pinned program and in every row, IS THE sha256 OF THE DUMP (.gsa) THAT YtblekggklimpeaaDoorProg.lean LOADS. Nothing in Lean hashes anything: it is a label: what it is worth is what the hold of that sum in a sandbox is worth. -/
noncomputable def Tryd.pinned : Pinned := { name := "ytblekggklimpeaadoor", sum := "91222d2ce1f961b219a09e48643f1bb2b6d6330b58bff2f2cedeae7da1860368", checked := Tryd.checked }
namespace Rows
def none {H : Type} : Left H := { results := [], args := [] }

/- WHAT THE LISTED PACKAGE-LEVEL VARIABLES READ AS WHEN THE CALL BEGINS. Each datum BY PROGRAM (the guide's laid-datum.mjs) off the statement by which the dump's own 'gosem.cut.vars' lays the variable. In a bare row this is a premise. The card (YtblekggklimpeaaDoorCards.lean) ties it to the program's text. -/
def laid_effigy_oop_spares {H : Type} : DataW H := .agg [.lit (.bool false), .lit (.bool false), .lit (.bool true), .lit (.bool false), .lit (.bool false)]

/-- 'effigylaw03.CollectLives': WHATEVER THE INPUT: true; the input reads as it did. -/
def collectLivesSpec : ChangeSpec := { name := "collectLives", fn := fun _ => fun
  | [d] => { results := [.lit (.bool true)], args := [d] }
  | _ => none }
def collectLivesRow : OpenClaim := { program := "ytblekggklimpeaadoor", sum := "91222d2ce1f961b219a09e48643f1bb2b6d6330b58bff2f2cedeae7da1860368", func := "effigy/effigylaw03.CollectLives", spec := "collectLives", unfollowed := true, recurses := true, named := ["effigy/oop.spares"], apart := false, laid := [("effigy/oop.spares", laid_effigy_oop_spares)] }
def CollectLivesSaid : Prop := collectLivesRow.holds Tryd.pinned (OpenSpec.ofChange collectLivesSpec)

/-- ITS FALSE NEIGHBOUR: 'it returns false'. Refute it at one input. -/
def collectLivesWrong : ChangeSpec := { name := "collectLives", fn := fun _ => fun
  | [d] => { results := [.lit (.bool false)], args := [d] }
  | _ => none }
def CollectLivesWrongFalsely : Prop := collectLivesRow.holds Tryd.pinned (OpenSpec.ofChange collectLivesWrong)

/-- 'effigylaw03.CollectCollects': WHATEVER THE INPUT: true; the input reads as it did. -/
def collectCollectsSpec : ChangeSpec := { name := "collectCollects", fn := fun _ => fun
  | [d] => { results := [.lit (.bool true)], args := [d] }
  | _ => none }
def collectCollectsRow : OpenClaim := { program := "ytblekggklimpeaadoor", sum := "91222d2ce1f961b219a09e48643f1bb2b6d6330b58bff2f2cedeae7da1860368", func := "effigy/effigylaw03.CollectCollects", spec := "collectCollects", unfollowed := true, recurses := true, named := ["effigy/oop.spares"], apart := false, laid := [("effigy/oop.spares", laid_effigy_oop_spares)] }
def CollectCollectsSaid : Prop := collectCollectsRow.holds Tryd.pinned (OpenSpec.ofChange collectCollectsSpec)

/-- ITS FALSE NEIGHBOUR: 'it returns false'. Refute it at one input. -/
def collectCollectsWrong : ChangeSpec := { name := "collectCollects", fn := fun _ => fun
  | [d] => { results := [.lit (.bool false)], args := [d] }
  | _ => none }
def CollectCollectsWrongFalsely : Prop := collectCollectsRow.holds Tryd.pinned (OpenSpec.ofChange collectCollectsWrong)

/-- 'effigylaw03.CollectWeak': WHATEVER THE INPUT: true; the input reads as it did. -/
def collectWeakSpec : ChangeSpec := { name := "collectWeak", fn := fun _ => fun
  | [d] => { results := [.lit (.bool true)], args := [d] }
  | _ => none }
def collectWeakRow : OpenClaim := { program := "ytblekggklimpeaadoor", sum := "91222d2ce1f961b219a09e48643f1bb2b6d6330b58bff2f2cedeae7da1860368", func := "effigy/effigylaw03.CollectWeak", spec := "collectWeak", unfollowed := true, recurses := true, named := ["effigy/oop.spares"], apart := false, laid := [("effigy/oop.spares", laid_effigy_oop_spares)] }
def CollectWeakSaid : Prop := collectWeakRow.holds Tryd.pinned (OpenSpec.ofChange collectWeakSpec)

/-- ITS FALSE NEIGHBOUR: 'it returns false'. Refute it at one input. -/
def collectWeakWrong : ChangeSpec := { name := "collectWeak", fn := fun _ => fun
  | [d] => { results := [.lit (.bool false)], args := [d] }
  | _ => none }
def CollectWeakWrongFalsely : Prop := collectWeakRow.holds Tryd.pinned (OpenSpec.ofChange collectWeakWrong)

/-- 'effigylaw03.CollectKeeps': WHATEVER THE INPUT: true; the input reads as it did. -/
def collectKeepsSpec : ChangeSpec := { name := "collectKeeps", fn := fun _ => fun
  | [d] => { results := [.lit (.bool true)], args := [d] }
  | _ => none }
def collectKeepsRow : OpenClaim := { program := "ytblekggklimpeaadoor", sum := "91222d2ce1f961b219a09e48643f1bb2b6d6330b58bff2f2cedeae7da1860368", func := "effigy/effigylaw03.CollectKeeps", spec := "collectKeeps", unfollowed := true, recurses := true, named := ["effigy/oop.spares"], apart := false, laid := [("effigy/oop.spares", laid_effigy_oop_spares)] }
def CollectKeepsSaid : Prop := collectKeepsRow.holds Tryd.pinned (OpenSpec.ofChange collectKeepsSpec)

/-- ITS FALSE NEIGHBOUR: 'it returns false'. Refute it at one input. -/
def collectKeepsWrong : ChangeSpec := { name := "collectKeeps", fn := fun _ => fun
  | [d] => { results := [.lit (.bool false)], args := [d] }
  | _ => none }
def CollectKeepsWrongFalsely : Prop := collectKeepsRow.holds Tryd.pinned (OpenSpec.ofChange collectKeepsWrong)

/-- 'effigylaw03.CollectAgain': WHATEVER THE INPUT: true; the input reads as it did. -/
def collectAgainSpec : ChangeSpec := { name := "collectAgain", fn := fun _ => fun
  | [d] => { results := [.lit (.bool true)], args := [d] }
  | _ => none }
def collectAgainRow : OpenClaim := { program := "ytblekggklimpeaadoor", sum := "91222d2ce1f961b219a09e48643f1bb2b6d6330b58bff2f2cedeae7da1860368", func := "effigy/effigylaw03.CollectAgain", spec := "collectAgain", unfollowed := true, recurses := true, named := ["effigy/oop.spares"], apart := false, laid := [("effigy/oop.spares", laid_effigy_oop_spares)] }
def CollectAgainSaid : Prop := collectAgainRow.holds Tryd.pinned (OpenSpec.ofChange collectAgainSpec)

/-- ITS FALSE NEIGHBOUR: 'it returns false'. Refute it at one input. -/
def collectAgainWrong : ChangeSpec := { name := "collectAgain", fn := fun _ => fun
  | [d] => { results := [.lit (.bool false)], args := [d] }
  | _ => none }
def CollectAgainWrongFalsely : Prop := collectAgainRow.holds Tryd.pinned (OpenSpec.ofChange collectAgainWrong)

/-- 'effigylaw03.CollectRefs': WHATEVER THE INPUT: true; the input reads as it did. -/
def collectRefsSpec : ChangeSpec := { name := "collectRefs", fn := fun _ => fun
  | [d1, d2] => { results := [.lit (.bool true)], args := [d1, d2] }
  | _ => none }
def collectRefsRow : OpenClaim := { program := "ytblekggklimpeaadoor", sum := "91222d2ce1f961b219a09e48643f1bb2b6d6330b58bff2f2cedeae7da1860368", func := "effigy/effigylaw03.CollectRefs", spec := "collectRefs", unfollowed := true, recurses := true, named := ["effigy/oop.spares"], apart := false, laid := [("effigy/oop.spares", laid_effigy_oop_spares)] }
def CollectRefsSaid : Prop := collectRefsRow.holds Tryd.pinned (OpenSpec.ofChange collectRefsSpec)

/-- ITS FALSE NEIGHBOUR: 'it returns false'. Refute it at one input. -/
def collectRefsWrong : ChangeSpec := { name := "collectRefs", fn := fun _ => fun
  | [d1, d2] => { results := [.lit (.bool false)], args := [d1, d2] }
  | _ => none }
def CollectRefsWrongFalsely : Prop := collectRefsRow.holds Tryd.pinned (OpenSpec.ofChange collectRefsWrong)

/-- 'effigylaw03.CollectPaths': WHATEVER THE INPUT: true; the input reads as it did. -/
def collectPathsSpec : ChangeSpec := { name := "collectPaths", fn := fun _ => fun
  | [d] => { results := [.lit (.bool true)], args := [d] }
  | _ => none }
def collectPathsRow : OpenClaim := { program := "ytblekggklimpeaadoor", sum := "91222d2ce1f961b219a09e48643f1bb2b6d6330b58bff2f2cedeae7da1860368", func := "effigy/effigylaw03.CollectPaths", spec := "collectPaths", unfollowed := true, recurses := true, named := ["effigy/oop.spares"], apart := false, laid := [("effigy/oop.spares", laid_effigy_oop_spares)] }
def CollectPathsSaid : Prop := collectPathsRow.holds Tryd.pinned (OpenSpec.ofChange collectPathsSpec)

/-- ITS FALSE NEIGHBOUR: 'it returns false'. Refute it at one input. -/
def collectPathsWrong : ChangeSpec := { name := "collectPaths", fn := fun _ => fun
  | [d] => { results := [.lit (.bool false)], args := [d] }
  | _ => none }
def CollectPathsWrongFalsely : Prop := collectPathsRow.holds Tryd.pinned (OpenSpec.ofChange collectPathsWrong)

/-- 'effigylaw03.CollectReaches': WHATEVER THE INPUT: true; the input reads as it did. -/
def collectReachesSpec : ChangeSpec := { name := "collectReaches", fn := fun _ => fun
  | [d1, d2] => { results := [.lit (.bool true)], args := [d1, d2] }
  | _ => none }
def collectReachesRow : OpenClaim := { program := "ytblekggklimpeaadoor", sum := "91222d2ce1f961b219a09e48643f1bb2b6d6330b58bff2f2cedeae7da1860368", func := "effigy/effigylaw03.CollectReaches", spec := "collectReaches", unfollowed := true, recurses := true, named := ["effigy/oop.spares"], apart := false, laid := [("effigy/oop.spares", laid_effigy_oop_spares)] }
def CollectReachesSaid : Prop := collectReachesRow.holds Tryd.pinned (OpenSpec.ofChange collectReachesSpec)

/-- ITS FALSE NEIGHBOUR: 'it returns false'. Refute it at one input. -/
def collectReachesWrong : ChangeSpec := { name := "collectReaches", fn := fun _ => fun
  | [d1, d2] => { results := [.lit (.bool false)], args := [d1, d2] }
  | _ => none }
def CollectReachesWrongFalsely : Prop := collectReachesRow.holds Tryd.pinned (OpenSpec.ofChange collectReachesWrong)

/-- 'effigylaw03.CollectTwice': WHATEVER THE INPUT: true; the input reads as it did. -/
def collectTwiceSpec : ChangeSpec := { name := "collectTwice", fn := fun _ => fun
  | [d1, d2, d3] => { results := [.lit (.bool true)], args := [d1, d2, d3] }
  | _ => none }
def collectTwiceRow : OpenClaim := { program := "ytblekggklimpeaadoor", sum := "91222d2ce1f961b219a09e48643f1bb2b6d6330b58bff2f2cedeae7da1860368", func := "effigy/effigylaw03.CollectTwice", spec := "collectTwice", unfollowed := true, recurses := true, named := ["effigy/oop.spares"], apart := false, laid := [("effigy/oop.spares", laid_effigy_oop_spares)] }
def CollectTwiceSaid : Prop := collectTwiceRow.holds Tryd.pinned (OpenSpec.ofChange collectTwiceSpec)

/-- ITS FALSE NEIGHBOUR: 'it returns false'. Refute it at one input. -/
def collectTwiceWrong : ChangeSpec := { name := "collectTwice", fn := fun _ => fun
  | [d1, d2, d3] => { results := [.lit (.bool false)], args := [d1, d2, d3] }
  | _ => none }
def CollectTwiceWrongFalsely : Prop := collectTwiceRow.holds Tryd.pinned (OpenSpec.ofChange collectTwiceWrong)

/- THE SECOND FORM. 'bulk': how many values and letters a reading holds, each counted each time it is reached (what is shared counts as often as it is met; a slice's spare places count too). A statement '..UptoSaid' is the law's where the arguments, and the package variables that the reading takes, are together of bulk at most 1048576: NARROWER than '..Said'. Prove '..Said' where nothing that the law and all that it calls make is longer than what came in: it says more and counts as full. Else prove '..UptoSaid'. A law counts once. -/
mutual
def uptoBulk {H : Type} : DataW H → Nat
  | .lit (.string bytes) => bytes.length + 1
  | .lit _ => 1
  | .nil => 1
  | .ptr d => uptoBulk d + 1
  | .slice elems spare => uptoBulkAll elems + uptoBulkAll spare + 1
  | .agg parts => uptoBulkAll parts + 1
  | .iface _ d => uptoBulk d + 1
  | .map entries => uptoBulkEntries entries + 1
  | .held _ => 1
def uptoBulkAll {H : Type} : List (DataW H) → Nat
  | [] => 0
  | d :: r => uptoBulk d + uptoBulkAll r
def uptoBulkEntries {H : Type} : List (Lit × DataW H) → Nat
  | [] => 0
  | x :: r => uptoBulkEntry x + uptoBulkEntries r
def uptoBulkEntry {H : Type} : Lit × DataW H → Nat
  | (.string bytes, d) => bytes.length + uptoBulk d + 1
  | (_, d) => uptoBulk d + 1
 end
def uptoSmall : (H : Type) → List (DataW H) → Bool := fun _ ds => decide (uptoBulkAll ds ≤ 1048576)
def OpenSpec.upto (s : _root_.Go.ChangeSpec) : _root_.Go.OpenSpec := { _root_.Go.OpenSpec.ofChange s with cond := some uptoSmall }

/-- 'effigylaw03.CollectLives', WHERE WHAT IT READS IS OF BULK AT MOST 1048576: true; the input reads as it did. -/
def collectLivesUptoRow : OpenClaim := { program := "ytblekggklimpeaadoor", sum := "91222d2ce1f961b219a09e48643f1bb2b6d6330b58bff2f2cedeae7da1860368", func := "effigy/effigylaw03.CollectLives", spec := "collectLives", unfollowed := true, recurses := true, named := ["effigy/oop.spares"], apart := false, laid := [("effigy/oop.spares", laid_effigy_oop_spares)], narrowed := true }
def CollectLivesUptoSaid : Prop := collectLivesUptoRow.holds Tryd.pinned (OpenSpec.upto collectLivesSpec)

/-- 'effigylaw03.CollectCollects', WHERE WHAT IT READS IS OF BULK AT MOST 1048576: true; the input reads as it did. -/
def collectCollectsUptoRow : OpenClaim := { program := "ytblekggklimpeaadoor", sum := "91222d2ce1f961b219a09e48643f1bb2b6d6330b58bff2f2cedeae7da1860368", func := "effigy/effigylaw03.CollectCollects", spec := "collectCollects", unfollowed := true, recurses := true, named := ["effigy/oop.spares"], apart := false, laid := [("effigy/oop.spares", laid_effigy_oop_spares)], narrowed := true }
def CollectCollectsUptoSaid : Prop := collectCollectsUptoRow.holds Tryd.pinned (OpenSpec.upto collectCollectsSpec)

/-- 'effigylaw03.CollectWeak', WHERE WHAT IT READS IS OF BULK AT MOST 1048576: true; the input reads as it did. -/
def collectWeakUptoRow : OpenClaim := { program := "ytblekggklimpeaadoor", sum := "91222d2ce1f961b219a09e48643f1bb2b6d6330b58bff2f2cedeae7da1860368", func := "effigy/effigylaw03.CollectWeak", spec := "collectWeak", unfollowed := true, recurses := true, named := ["effigy/oop.spares"], apart := false, laid := [("effigy/oop.spares", laid_effigy_oop_spares)], narrowed := true }
def CollectWeakUptoSaid : Prop := collectWeakUptoRow.holds Tryd.pinned (OpenSpec.upto collectWeakSpec)

/-- 'effigylaw03.CollectKeeps', WHERE WHAT IT READS IS OF BULK AT MOST 1048576: true; the input reads as it did. -/
def collectKeepsUptoRow : OpenClaim := { program := "ytblekggklimpeaadoor", sum := "91222d2ce1f961b219a09e48643f1bb2b6d6330b58bff2f2cedeae7da1860368", func := "effigy/effigylaw03.CollectKeeps", spec := "collectKeeps", unfollowed := true, recurses := true, named := ["effigy/oop.spares"], apart := false, laid := [("effigy/oop.spares", laid_effigy_oop_spares)], narrowed := true }
def CollectKeepsUptoSaid : Prop := collectKeepsUptoRow.holds Tryd.pinned (OpenSpec.upto collectKeepsSpec)

/-- 'effigylaw03.CollectAgain', WHERE WHAT IT READS IS OF BULK AT MOST 1048576: true; the input reads as it did. -/
def collectAgainUptoRow : OpenClaim := { program := "ytblekggklimpeaadoor", sum := "91222d2ce1f961b219a09e48643f1bb2b6d6330b58bff2f2cedeae7da1860368", func := "effigy/effigylaw03.CollectAgain", spec := "collectAgain", unfollowed := true, recurses := true, named := ["effigy/oop.spares"], apart := false, laid := [("effigy/oop.spares", laid_effigy_oop_spares)], narrowed := true }
def CollectAgainUptoSaid : Prop := collectAgainUptoRow.holds Tryd.pinned (OpenSpec.upto collectAgainSpec)

/-- 'effigylaw03.CollectRefs', WHERE WHAT IT READS IS OF BULK AT MOST 1048576: true; the input reads as it did. -/
def collectRefsUptoRow : OpenClaim := { program := "ytblekggklimpeaadoor", sum := "91222d2ce1f961b219a09e48643f1bb2b6d6330b58bff2f2cedeae7da1860368", func := "effigy/effigylaw03.CollectRefs", spec := "collectRefs", unfollowed := true, recurses := true, named := ["effigy/oop.spares"], apart := false, laid := [("effigy/oop.spares", laid_effigy_oop_spares)], narrowed := true }
def CollectRefsUptoSaid : Prop := collectRefsUptoRow.holds Tryd.pinned (OpenSpec.upto collectRefsSpec)

/-- 'effigylaw03.CollectPaths', WHERE WHAT IT READS IS OF BULK AT MOST 1048576: true; the input reads as it did. -/
def collectPathsUptoRow : OpenClaim := { program := "ytblekggklimpeaadoor", sum := "91222d2ce1f961b219a09e48643f1bb2b6d6330b58bff2f2cedeae7da1860368", func := "effigy/effigylaw03.CollectPaths", spec := "collectPaths", unfollowed := true, recurses := true, named := ["effigy/oop.spares"], apart := false, laid := [("effigy/oop.spares", laid_effigy_oop_spares)], narrowed := true }
def CollectPathsUptoSaid : Prop := collectPathsUptoRow.holds Tryd.pinned (OpenSpec.upto collectPathsSpec)

/-- 'effigylaw03.CollectReaches', WHERE WHAT IT READS IS OF BULK AT MOST 1048576: true; the input reads as it did. -/
def collectReachesUptoRow : OpenClaim := { program := "ytblekggklimpeaadoor", sum := "91222d2ce1f961b219a09e48643f1bb2b6d6330b58bff2f2cedeae7da1860368", func := "effigy/effigylaw03.CollectReaches", spec := "collectReaches", unfollowed := true, recurses := true, named := ["effigy/oop.spares"], apart := false, laid := [("effigy/oop.spares", laid_effigy_oop_spares)], narrowed := true }
def CollectReachesUptoSaid : Prop := collectReachesUptoRow.holds Tryd.pinned (OpenSpec.upto collectReachesSpec)

/-- 'effigylaw03.CollectTwice', WHERE WHAT IT READS IS OF BULK AT MOST 1048576: true; the input reads as it did. -/
def collectTwiceUptoRow : OpenClaim := { program := "ytblekggklimpeaadoor", sum := "91222d2ce1f961b219a09e48643f1bb2b6d6330b58bff2f2cedeae7da1860368", func := "effigy/effigylaw03.CollectTwice", spec := "collectTwice", unfollowed := true, recurses := true, named := ["effigy/oop.spares"], apart := false, laid := [("effigy/oop.spares", laid_effigy_oop_spares)], narrowed := true }
def CollectTwiceUptoSaid : Prop := collectTwiceUptoRow.holds Tryd.pinned (OpenSpec.upto collectTwiceSpec)

end Rows
end Go.Proofs.YtblekggklimpeaaDoor
