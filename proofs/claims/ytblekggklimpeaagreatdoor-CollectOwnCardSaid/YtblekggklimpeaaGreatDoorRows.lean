/-
  NARROWER THAN 'FOR EVERY INPUT', by the rows' own cells (each row's printed sentence says how): CollectBecomes: laid · CollectOwn: laid.
  DERIVED. THE GIVEN ROWS OF THIS SEAT. 2 by the template 'for every input the law returns true; each argument reads behind the call as it read before'; 0 by the template 'total and deterministic' (their statements: YtblekggklimpeaaGreatDoorTotals.lean).
  GIVEN WITH THE SEED: the statements are not yours to turn. If you find one false, say at which input.
  Laid BY PROGRAM, IN A SANDBOX (cutbox-rows.mjs): the forced cells as the released guide's own fill.sh prints them over the translation fc6db2799f9c0a59… (all of the seat's roots in one cut). By AI agents, Wed Nov 11 2026. No macro, syntax, notation, axiom, sorry.
-/
import Derived.Test.YtblekggklimpeaaGreatDoorChecked
import GoSem.Claim
import GoSem.ClaimJoined
import GoSem.ClaimMapViews
import Derived.JoinedTies
import Derived.KernelRfl
namespace Go.Proofs.YtblekggklimpeaaGreatDoor
/- THE CELL 'sum', in the pinned program and in every row, IS THE sha256 OF THE DUMP (.gsa) THAT YtblekggklimpeaaGreatDoorProg.lean LOADS. Nothing in Lean hashes anything: it is a label: what it is worth is what the hold of that sum in a sandbox is worth. -/
noncomputable def Tryz.pinned : Pinned := { name := "ytblekggklimpeaagreatdoor", sum := "fc6db2799f9c0a59f897b07ab4143b07b1901e77016c831e4c031d3e9c477f82", checked := Tryz.checked }
namespace Rows
def none {H : Type} : Left H := { results := [], args := [] }

/- WHAT THE LISTED PACKAGE-LEVEL VARIABLES READ AS WHEN THE CALL BEGINS. Each datum BY PROGRAM (the guide's laid-datum.mjs) off the statement by which the dump's own 'gosem.cut.vars' lays the variable. In a bare row this is a premise. The card (YtblekggklimpeaaGreatDoorCards.lean) ties it to the program's text. -/
def laid_effigy_oop_spares {H : Type} : DataW H := .agg [.lit (.bool false), .lit (.bool false), .lit (.bool true), .lit (.bool false), .lit (.bool false)]

/-- 'effigylaw03.CollectBecomes': WHATEVER THE INPUT: true; the input reads as it did. -/
def collectBecomesSpec : ChangeSpec := { name := "collectBecomes", fn := fun _ => fun
  | [d1, d2, d3] => { results := [.lit (.bool true)], args := [d1, d2, d3] }
  | _ => none }
def collectBecomesRow : OpenClaim := { program := "ytblekggklimpeaagreatdoor", sum := "fc6db2799f9c0a59f897b07ab4143b07b1901e77016c831e4c031d3e9c477f82", func := "effigy/effigylaw03.CollectBecomes", spec := "collectBecomes", unfollowed := true, recurses := true, named := ["effigy/oop.spares"], apart := false, laid := [("effigy/oop.spares", laid_effigy_oop_spares)] }
def CollectBecomesSaid : Prop := collectBecomesRow.holds Tryz.pinned (OpenSpec.ofChange collectBecomesSpec)

/-- ITS FALSE NEIGHBOUR: 'it returns false'. Refute it at one input. -/
def collectBecomesWrong : ChangeSpec := { name := "collectBecomes", fn := fun _ => fun
  | [d1, d2, d3] => { results := [.lit (.bool false)], args := [d1, d2, d3] }
  | _ => none }
def CollectBecomesWrongFalsely : Prop := collectBecomesRow.holds Tryz.pinned (OpenSpec.ofChange collectBecomesWrong)

/-- 'effigylaw03.CollectOwn': WHATEVER THE INPUT: true; the input reads as it did. -/
def collectOwnSpec : ChangeSpec := { name := "collectOwn", fn := fun _ => fun
  | [d1, d2] => { results := [.lit (.bool true)], args := [d1, d2] }
  | _ => none }
def collectOwnRow : OpenClaim := { program := "ytblekggklimpeaagreatdoor", sum := "fc6db2799f9c0a59f897b07ab4143b07b1901e77016c831e4c031d3e9c477f82", func := "effigy/effigylaw03.CollectOwn", spec := "collectOwn", unfollowed := true, recurses := true, named := ["effigy/oop.spares"], apart := false, laid := [("effigy/oop.spares", laid_effigy_oop_spares)] }
def CollectOwnSaid : Prop := collectOwnRow.holds Tryz.pinned (OpenSpec.ofChange collectOwnSpec)

/-- ITS FALSE NEIGHBOUR: 'it returns false'. Refute it at one input. -/
def collectOwnWrong : ChangeSpec := { name := "collectOwn", fn := fun _ => fun
  | [d1, d2] => { results := [.lit (.bool false)], args := [d1, d2] }
  | _ => none }
def CollectOwnWrongFalsely : Prop := collectOwnRow.holds Tryz.pinned (OpenSpec.ofChange collectOwnWrong)

/- THE SECOND FORM. 'bulk': how many values and letters a reading holds, each counted each time it is reached (what is shared counts as often as it is met; a slice's spare places count too). A statement '..UptoSaid' is the law's where the arguments, and the package variables that the reading takes, are together of bulk at most 1048576: NARROWER than '..Said'. Prove '..Said' where nothing that the law and all that it calls make is longer than what came in: it says more and counts as full. Else prove '..UptoSaid'. A law counts once. -/
mutual
def uptoBulk {H : Type} : DataW H → Nat
  | .lit (.string bytes) => bytes.length + 1
  | .lit _ => 1
  | .nil => 1
  | .ptr d => uptoBulk d + 1
  | .slice elems spare => uptoBulkAll elems + uptoBulkAll spare + 1
  | .agg parts => uptoBulkAll parts + 1
  | .iface _ d => uptoBulk d + 1
  | .map entries => uptoBulkEntries entries + 1
  | .held _ => 1
def uptoBulkAll {H : Type} : List (DataW H) → Nat
  | [] => 0
  | d :: r => uptoBulk d + uptoBulkAll r
def uptoBulkEntries {H : Type} : List (Lit × DataW H) → Nat
  | [] => 0
  | x :: r => uptoBulkEntry x + uptoBulkEntries r
def uptoBulkEntry {H : Type} : Lit × DataW H → Nat
  | (.string bytes, d) => bytes.length + uptoBulk d + 1
  | (_, d) => uptoBulk d + 1
 end
def uptoSmall : (H : Type) → List (DataW H) → Bool := fun _ ds => decide (uptoBulkAll ds ≤ 1048576)
def OpenSpec.upto (s : _root_.Go.ChangeSpec) : _root_.Go.OpenSpec := { _root_.Go.OpenSpec.ofChange s with cond := some uptoSmall }

/-- 'effigylaw03.CollectBecomes', WHERE WHAT IT READS IS OF BULK AT MOST 1048576: true; the input reads as it did. -/
def collectBecomesUptoRow : OpenClaim := { program := "ytblekggklimpeaagreatdoor", sum := "fc6db2799f9c0a59f897b07ab4143b07b1901e77016c831e4c031d3e9c477f82", func := "effigy/effigylaw03.CollectBecomes", spec := "collectBecomes", unfollowed := true, recurses := true, named := ["effigy/oop.spares"], apart := false, laid := [("effigy/oop.spares", laid_effigy_oop_spares)], narrowed := true }
def CollectBecomesUptoSaid : Prop := collectBecomesUptoRow.holds Tryz.pinned (OpenSpec.upto collectBecomesSpec)

/-- 'effigylaw03.CollectOwn', WHERE WHAT IT READS IS OF BULK AT MOST 1048576: true; the input reads as it did. -/
def collectOwnUptoRow : OpenClaim := { program := "ytblekggklimpeaagreatdoor", sum := "fc6db2799f9c0a59f897b07ab4143b07b1901e77016c831e4c031d3e9c477f82", func := "effigy/effigylaw03.CollectOwn", spec := "collectOwn", unfollowed := true, recurses := true, named := ["effigy/oop.spares"], apart := false, laid := [("effigy/oop.spares", laid_effigy_oop_spares)], narrowed := true }
def CollectOwnUptoSaid : Prop := collectOwnUptoRow.holds Tryz.pinned (OpenSpec.upto collectOwnSpec)

end Rows
end Go.Proofs.YtblekggklimpeaaGreatDoor
