/-
  NARROWER THAN 'FOR EVERY INPUT', by the rows' own cells (each row's printed sentence says how): HeapFull: laid · HeapNews: laid · HeapWrites: laid · HeapFresh: laid · HeapRows: laid · HeapSound: laid · HeapNil: laid.
  DERIVED. THE GIVEN ROWS OF THIS SEAT. 7 by the template 'for every input the law returns true; each argument reads behind the call as it read before'; 0 by the template 'total and deterministic' (their statements: YtkpjkbkglnabiaaDoorTotals.lean).
  GIVEN WITH THE SEED: the statements are not yours to turn. If you find one false, say at which input.
  Laid BY PROGRAM, IN A SANDBOX (cutbox-rows.mjs): the forced cells as the released guide's own fill.sh prints them over the translation d59d4132e2ae0b2e… (all of the seat's roots in one cut). By AI agents, Wed Nov 11 2026. No macro, syntax, notation, axiom, sorry.
-/
import Derived.Test.YtkpjkbkglnabiaaDoorChecked
import GoSem.Claim
import GoSem.ClaimJoined
import GoSem.ClaimMapViews
import Derived.JoinedTies
import Derived.KernelRfl
namespace Go.Proofs.YtkpjkbkglnabiaaDoor
/- THE CELL 'sum', in the pinned program and in every row, IS THE sha256 OF THE DUMP (.gsa) THAT YtkpjkbkglnabiaaDoorProg.lean LOADS. Nothing in Lean hashes anything: it is a label: what it is worth is what the hold of that sum in a sandbox is worth. -/
noncomputable def Tryd.pinned : Pinned := { name := "ytkpjkbkglnabiaadoor", sum := "d59d4132e2ae0b2ea04c9c574f9ea880c48aca0a370cb0c877a0a253203f349b", checked := Tryd.checked }
namespace Rows
def none {H : Type} : Left H := { results := [], args := [] }

/- WHAT THE LISTED PACKAGE-LEVEL VARIABLES READ AS WHEN THE CALL BEGINS. Each datum BY PROGRAM (the guide's laid-datum.mjs) off the statement by which the dump's own 'gosem.cut.vars' lays the variable. In a bare row this is a premise. The card (YtkpjkbkglnabiaaDoorCards.lean) ties it to the program's text. -/
def laid_math_bits_deBruijn32tab {H : Type} : DataW H := .agg [.lit (.int .u8 0), .lit (.int .u8 1), .lit (.int .u8 28), .lit (.int .u8 2), .lit (.int .u8 29), .lit (.int .u8 14), .lit (.int .u8 24), .lit (.int .u8 3), .lit (.int .u8 30), .lit (.int .u8 22), .lit (.int .u8 20), .lit (.int .u8 15), .lit (.int .u8 25), .lit (.int .u8 17), .lit (.int .u8 4), .lit (.int .u8 8), .lit (.int .u8 31), .lit (.int .u8 27), .lit (.int .u8 13), .lit (.int .u8 23), .lit (.int .u8 21), .lit (.int .u8 19), .lit (.int .u8 16), .lit (.int .u8 7), .lit (.int .u8 26), .lit (.int .u8 12), .lit (.int .u8 18), .lit (.int .u8 6), .lit (.int .u8 11), .lit (.int .u8 5), .lit (.int .u8 10), .lit (.int .u8 9)]
def laid_math_bits_deBruijn64tab {H : Type} : DataW H := .agg [.lit (.int .u8 0), .lit (.int .u8 1), .lit (.int .u8 56), .lit (.int .u8 2), .lit (.int .u8 57), .lit (.int .u8 49), .lit (.int .u8 28), .lit (.int .u8 3), .lit (.int .u8 61), .lit (.int .u8 58), .lit (.int .u8 42), .lit (.int .u8 50), .lit (.int .u8 38), .lit (.int .u8 29), .lit (.int .u8 17), .lit (.int .u8 4), .lit (.int .u8 62), .lit (.int .u8 47), .lit (.int .u8 59), .lit (.int .u8 36), .lit (.int .u8 45), .lit (.int .u8 43), .lit (.int .u8 51), .lit (.int .u8 22), .lit (.int .u8 53), .lit (.int .u8 39), .lit (.int .u8 33), .lit (.int .u8 30), .lit (.int .u8 24), .lit (.int .u8 18), .lit (.int .u8 12), .lit (.int .u8 5), .lit (.int .u8 63), .lit (.int .u8 55), .lit (.int .u8 48), .lit (.int .u8 27), .lit (.int .u8 60), .lit (.int .u8 41), .lit (.int .u8 37), .lit (.int .u8 16), .lit (.int .u8 46), .lit (.int .u8 35), .lit (.int .u8 44), .lit (.int .u8 21), .lit (.int .u8 52), .lit (.int .u8 32), .lit (.int .u8 23), .lit (.int .u8 11), .lit (.int .u8 54), .lit (.int .u8 26), .lit (.int .u8 40), .lit (.int .u8 15), .lit (.int .u8 34), .lit (.int .u8 20), .lit (.int .u8 31), .lit (.int .u8 10), .lit (.int .u8 25), .lit (.int .u8 14), .lit (.int .u8 19), .lit (.int .u8 9), .lit (.int .u8 13), .lit (.int .u8 8), .lit (.int .u8 7), .lit (.int .u8 6)]
def laid_internal_strconv_uint64pow10 {H : Type} : DataW H := .agg [.lit (.int .u64 1), .lit (.int .u64 10), .lit (.int .u64 100), .lit (.int .u64 1000), .lit (.int .u64 10000), .lit (.int .u64 100000), .lit (.int .u64 1000000), .lit (.int .u64 10000000), .lit (.int .u64 100000000), .lit (.int .u64 1000000000), .lit (.int .u64 10000000000), .lit (.int .u64 100000000000), .lit (.int .u64 1000000000000), .lit (.int .u64 10000000000000), .lit (.int .u64 100000000000000), .lit (.int .u64 1000000000000000), .lit (.int .u64 10000000000000000), .lit (.int .u64 100000000000000000), .lit (.int .u64 1000000000000000000), .lit (.int .u64 10000000000000000000)]
def laid_effigy_oop_spares {H : Type} : DataW H := .agg [.lit (.bool false), .lit (.bool false), .lit (.bool true), .lit (.bool false), .lit (.bool false)]

/-- 'effigylaw02.HeapFull': WHATEVER THE INPUT: true; the input reads as it did. -/
def heapFullSpec : ChangeSpec := { name := "heapFull", fn := fun _ => fun
  | [d1, d2, d3] => { results := [.lit (.bool true)], args := [d1, d2, d3] }
  | _ => none }
def heapFullRow : OpenClaim := { program := "ytkpjkbkglnabiaadoor", sum := "d59d4132e2ae0b2ea04c9c574f9ea880c48aca0a370cb0c877a0a253203f349b", func := "effigy/effigylaw02.HeapFull", spec := "heapFull", inPlace := ["internal/abi.NoEscape", "internal/bytealg.MakeNoZero"], named := ["effigy/oop.spares", "internal/strconv.uint64pow10", "math/bits.deBruijn32tab", "math/bits.deBruijn64tab"], apart := false, laid := [("math/bits.deBruijn32tab", laid_math_bits_deBruijn32tab), ("math/bits.deBruijn64tab", laid_math_bits_deBruijn64tab), ("internal/strconv.uint64pow10", laid_internal_strconv_uint64pow10), ("effigy/oop.spares", laid_effigy_oop_spares)] }
def HeapFullSaid : Prop := heapFullRow.holds Tryd.pinned (OpenSpec.ofChange heapFullSpec)

/-- ITS FALSE NEIGHBOUR: 'it returns false'. Refute it at one input. -/
def heapFullWrong : ChangeSpec := { name := "heapFull", fn := fun _ => fun
  | [d1, d2, d3] => { results := [.lit (.bool false)], args := [d1, d2, d3] }
  | _ => none }
def HeapFullWrongFalsely : Prop := heapFullRow.holds Tryd.pinned (OpenSpec.ofChange heapFullWrong)

/-- 'effigylaw02.HeapNews': WHATEVER THE INPUT: true; the input reads as it did. -/
def heapNewsSpec : ChangeSpec := { name := "heapNews", fn := fun _ => fun
  | [d] => { results := [.lit (.bool true)], args := [d] }
  | _ => none }
def heapNewsRow : OpenClaim := { program := "ytkpjkbkglnabiaadoor", sum := "d59d4132e2ae0b2ea04c9c574f9ea880c48aca0a370cb0c877a0a253203f349b", func := "effigy/effigylaw02.HeapNews", spec := "heapNews", inPlace := ["internal/abi.NoEscape", "internal/bytealg.MakeNoZero"], named := ["effigy/oop.spares", "internal/strconv.uint64pow10", "math/bits.deBruijn32tab", "math/bits.deBruijn64tab"], apart := false, laid := [("math/bits.deBruijn32tab", laid_math_bits_deBruijn32tab), ("math/bits.deBruijn64tab", laid_math_bits_deBruijn64tab), ("internal/strconv.uint64pow10", laid_internal_strconv_uint64pow10), ("effigy/oop.spares", laid_effigy_oop_spares)] }
def HeapNewsSaid : Prop := heapNewsRow.holds Tryd.pinned (OpenSpec.ofChange heapNewsSpec)

/-- ITS FALSE NEIGHBOUR: 'it returns false'. Refute it at one input. -/
def heapNewsWrong : ChangeSpec := { name := "heapNews", fn := fun _ => fun
  | [d] => { results := [.lit (.bool false)], args := [d] }
  | _ => none }
def HeapNewsWrongFalsely : Prop := heapNewsRow.holds Tryd.pinned (OpenSpec.ofChange heapNewsWrong)

/-- 'effigylaw02.HeapWrites': WHATEVER THE INPUT: true; the input reads as it did. -/
def heapWritesSpec : ChangeSpec := { name := "heapWrites", fn := fun _ => fun
  | [d1, d2, d3] => { results := [.lit (.bool true)], args := [d1, d2, d3] }
  | _ => none }
def heapWritesRow : OpenClaim := { program := "ytkpjkbkglnabiaadoor", sum := "d59d4132e2ae0b2ea04c9c574f9ea880c48aca0a370cb0c877a0a253203f349b", func := "effigy/effigylaw02.HeapWrites", spec := "heapWrites", inPlace := ["internal/abi.NoEscape", "internal/bytealg.MakeNoZero"], named := ["effigy/oop.spares", "internal/strconv.uint64pow10", "math/bits.deBruijn32tab", "math/bits.deBruijn64tab"], apart := false, laid := [("math/bits.deBruijn32tab", laid_math_bits_deBruijn32tab), ("math/bits.deBruijn64tab", laid_math_bits_deBruijn64tab), ("internal/strconv.uint64pow10", laid_internal_strconv_uint64pow10), ("effigy/oop.spares", laid_effigy_oop_spares)] }
def HeapWritesSaid : Prop := heapWritesRow.holds Tryd.pinned (OpenSpec.ofChange heapWritesSpec)

/-- ITS FALSE NEIGHBOUR: 'it returns false'. Refute it at one input. -/
def heapWritesWrong : ChangeSpec := { name := "heapWrites", fn := fun _ => fun
  | [d1, d2, d3] => { results := [.lit (.bool false)], args := [d1, d2, d3] }
  | _ => none }
def HeapWritesWrongFalsely : Prop := heapWritesRow.holds Tryd.pinned (OpenSpec.ofChange heapWritesWrong)

/-- 'effigylaw02.HeapFresh': WHATEVER THE INPUT: true; the input reads as it did. -/
def heapFreshSpec : ChangeSpec := { name := "heapFresh", fn := fun _ => fun
  | [d1, d2, d3] => { results := [.lit (.bool true)], args := [d1, d2, d3] }
  | _ => none }
def heapFreshRow : OpenClaim := { program := "ytkpjkbkglnabiaadoor", sum := "d59d4132e2ae0b2ea04c9c574f9ea880c48aca0a370cb0c877a0a253203f349b", func := "effigy/effigylaw02.HeapFresh", spec := "heapFresh", inPlace := ["internal/abi.NoEscape", "internal/bytealg.MakeNoZero"], named := ["effigy/oop.spares", "internal/strconv.uint64pow10", "math/bits.deBruijn32tab", "math/bits.deBruijn64tab"], apart := false, laid := [("math/bits.deBruijn32tab", laid_math_bits_deBruijn32tab), ("math/bits.deBruijn64tab", laid_math_bits_deBruijn64tab), ("internal/strconv.uint64pow10", laid_internal_strconv_uint64pow10), ("effigy/oop.spares", laid_effigy_oop_spares)] }
def HeapFreshSaid : Prop := heapFreshRow.holds Tryd.pinned (OpenSpec.ofChange heapFreshSpec)

/-- ITS FALSE NEIGHBOUR: 'it returns false'. Refute it at one input. -/
def heapFreshWrong : ChangeSpec := { name := "heapFresh", fn := fun _ => fun
  | [d1, d2, d3] => { results := [.lit (.bool false)], args := [d1, d2, d3] }
  | _ => none }
def HeapFreshWrongFalsely : Prop := heapFreshRow.holds Tryd.pinned (OpenSpec.ofChange heapFreshWrong)

/-- 'effigylaw02.HeapRows': WHATEVER THE INPUT: true; the input reads as it did. -/
def heapRowsSpec : ChangeSpec := { name := "heapRows", fn := fun _ => fun
  | [d1, d2] => { results := [.lit (.bool true)], args := [d1, d2] }
  | _ => none }
def heapRowsRow : OpenClaim := { program := "ytkpjkbkglnabiaadoor", sum := "d59d4132e2ae0b2ea04c9c574f9ea880c48aca0a370cb0c877a0a253203f349b", func := "effigy/effigylaw02.HeapRows", spec := "heapRows", inPlace := ["internal/abi.NoEscape", "internal/bytealg.MakeNoZero"], unfollowed := true, recurses := true, named := ["effigy/oop.spares", "internal/strconv.uint64pow10", "math/bits.deBruijn32tab", "math/bits.deBruijn64tab"], apart := false, laid := [("math/bits.deBruijn32tab", laid_math_bits_deBruijn32tab), ("math/bits.deBruijn64tab", laid_math_bits_deBruijn64tab), ("internal/strconv.uint64pow10", laid_internal_strconv_uint64pow10), ("effigy/oop.spares", laid_effigy_oop_spares)] }
def HeapRowsSaid : Prop := heapRowsRow.holds Tryd.pinned (OpenSpec.ofChange heapRowsSpec)

/-- ITS FALSE NEIGHBOUR: 'it returns false'. Refute it at one input. -/
def heapRowsWrong : ChangeSpec := { name := "heapRows", fn := fun _ => fun
  | [d1, d2] => { results := [.lit (.bool false)], args := [d1, d2] }
  | _ => none }
def HeapRowsWrongFalsely : Prop := heapRowsRow.holds Tryd.pinned (OpenSpec.ofChange heapRowsWrong)

/-- 'effigylaw02.HeapSound': WHATEVER THE INPUT: true; the input reads as it did. -/
def heapSoundSpec : ChangeSpec := { name := "heapSound", fn := fun _ => fun
  | [d1, d2] => { results := [.lit (.bool true)], args := [d1, d2] }
  | _ => none }
def heapSoundRow : OpenClaim := { program := "ytkpjkbkglnabiaadoor", sum := "d59d4132e2ae0b2ea04c9c574f9ea880c48aca0a370cb0c877a0a253203f349b", func := "effigy/effigylaw02.HeapSound", spec := "heapSound", inPlace := ["internal/abi.NoEscape", "internal/bytealg.MakeNoZero"], unfollowed := true, recurses := true, named := ["effigy/oop.spares", "internal/strconv.uint64pow10", "math/bits.deBruijn32tab", "math/bits.deBruijn64tab"], apart := false, laid := [("math/bits.deBruijn32tab", laid_math_bits_deBruijn32tab), ("math/bits.deBruijn64tab", laid_math_bits_deBruijn64tab), ("internal/strconv.uint64pow10", laid_internal_strconv_uint64pow10), ("effigy/oop.spares", laid_effigy_oop_spares)] }
def HeapSoundSaid : Prop := heapSoundRow.holds Tryd.pinned (OpenSpec.ofChange heapSoundSpec)

/-- ITS FALSE NEIGHBOUR: 'it returns false'. Refute it at one input. -/
def heapSoundWrong : ChangeSpec := { name := "heapSound", fn := fun _ => fun
  | [d1, d2] => { results := [.lit (.bool false)], args := [d1, d2] }
  | _ => none }
def HeapSoundWrongFalsely : Prop := heapSoundRow.holds Tryd.pinned (OpenSpec.ofChange heapSoundWrong)

/-- 'effigylaw02.HeapNil': WHATEVER THE INPUT: true; the input reads as it did. -/
def heapNilSpec : ChangeSpec := { name := "heapNil", fn := fun _ => fun
  | [d] => { results := [.lit (.bool true)], args := [d] }
  | _ => none }
def heapNilRow : OpenClaim := { program := "ytkpjkbkglnabiaadoor", sum := "d59d4132e2ae0b2ea04c9c574f9ea880c48aca0a370cb0c877a0a253203f349b", func := "effigy/effigylaw02.HeapNil", spec := "heapNil", inPlace := ["internal/abi.NoEscape", "internal/bytealg.MakeNoZero"], unfollowed := true, recurses := true, named := ["effigy/oop.spares", "internal/strconv.uint64pow10", "math/bits.deBruijn32tab", "math/bits.deBruijn64tab"], apart := false, laid := [("math/bits.deBruijn32tab", laid_math_bits_deBruijn32tab), ("math/bits.deBruijn64tab", laid_math_bits_deBruijn64tab), ("internal/strconv.uint64pow10", laid_internal_strconv_uint64pow10), ("effigy/oop.spares", laid_effigy_oop_spares)] }
def HeapNilSaid : Prop := heapNilRow.holds Tryd.pinned (OpenSpec.ofChange heapNilSpec)

/-- ITS FALSE NEIGHBOUR: 'it returns false'. Refute it at one input. -/
def heapNilWrong : ChangeSpec := { name := "heapNil", fn := fun _ => fun
  | [d] => { results := [.lit (.bool false)], args := [d] }
  | _ => none }
def HeapNilWrongFalsely : Prop := heapNilRow.holds Tryd.pinned (OpenSpec.ofChange heapNilWrong)

/- THE SECOND FORM. 'bulk': how many values and letters a reading holds, each counted each time it is reached (what is shared counts as often as it is met; a slice's spare places count too). A statement '..UptoSaid' is the law's where the arguments, and the package variables that the reading takes, are together of bulk at most 1048576: NARROWER than '..Said'. Prove '..Said' where nothing that the law and all that it calls make is longer than what came in: it says more and counts as full. Else prove '..UptoSaid'. A law counts once. -/
mutual
def uptoBulk {H : Type} : DataW H → Nat
  | .lit (.string bytes) => bytes.length + 1
  | .lit _ => 1
  | .nil => 1
  | .ptr d => uptoBulk d + 1
  | .slice elems spare => uptoBulkAll elems + uptoBulkAll spare + 1
  | .agg parts => uptoBulkAll parts + 1
  | .iface _ d => uptoBulk d + 1
  | .map entries => uptoBulkEntries entries + 1
  | .held _ => 1
def uptoBulkAll {H : Type} : List (DataW H) → Nat
  | [] => 0
  | d :: r => uptoBulk d + uptoBulkAll r
def uptoBulkEntries {H : Type} : List (Lit × DataW H) → Nat
  | [] => 0
  | x :: r => uptoBulkEntry x + uptoBulkEntries r
def uptoBulkEntry {H : Type} : Lit × DataW H → Nat
  | (.string bytes, d) => bytes.length + uptoBulk d + 1
  | (_, d) => uptoBulk d + 1
 end
def uptoSmall : (H : Type) → List (DataW H) → Bool := fun _ ds => decide (uptoBulkAll ds ≤ 1048576)
def OpenSpec.upto (s : _root_.Go.ChangeSpec) : _root_.Go.OpenSpec := { _root_.Go.OpenSpec.ofChange s with cond := some uptoSmall }

/-- 'effigylaw02.HeapFull', WHERE WHAT IT READS IS OF BULK AT MOST 1048576: true; the input reads as it did. -/
def heapFullUptoRow : OpenClaim := { program := "ytkpjkbkglnabiaadoor", sum := "d59d4132e2ae0b2ea04c9c574f9ea880c48aca0a370cb0c877a0a253203f349b", func := "effigy/effigylaw02.HeapFull", spec := "heapFull", inPlace := ["internal/abi.NoEscape", "internal/bytealg.MakeNoZero"], named := ["effigy/oop.spares", "internal/strconv.uint64pow10", "math/bits.deBruijn32tab", "math/bits.deBruijn64tab"], apart := false, laid := [("math/bits.deBruijn32tab", laid_math_bits_deBruijn32tab), ("math/bits.deBruijn64tab", laid_math_bits_deBruijn64tab), ("internal/strconv.uint64pow10", laid_internal_strconv_uint64pow10), ("effigy/oop.spares", laid_effigy_oop_spares)], narrowed := true }
def HeapFullUptoSaid : Prop := heapFullUptoRow.holds Tryd.pinned (OpenSpec.upto heapFullSpec)

/-- 'effigylaw02.HeapNews', WHERE WHAT IT READS IS OF BULK AT MOST 1048576: true; the input reads as it did. -/
def heapNewsUptoRow : OpenClaim := { program := "ytkpjkbkglnabiaadoor", sum := "d59d4132e2ae0b2ea04c9c574f9ea880c48aca0a370cb0c877a0a253203f349b", func := "effigy/effigylaw02.HeapNews", spec := "heapNews", inPlace := ["internal/abi.NoEscape", "internal/bytealg.MakeNoZero"], named := ["effigy/oop.spares", "internal/strconv.uint64pow10", "math/bits.deBruijn32tab", "math/bits.deBruijn64tab"], apart := false, laid := [("math/bits.deBruijn32tab", laid_math_bits_deBruijn32tab), ("math/bits.deBruijn64tab", laid_math_bits_deBruijn64tab), ("internal/strconv.uint64pow10", laid_internal_strconv_uint64pow10), ("effigy/oop.spares", laid_effigy_oop_spares)], narrowed := true }
def HeapNewsUptoSaid : Prop := heapNewsUptoRow.holds Tryd.pinned (OpenSpec.upto heapNewsSpec)

/-- 'effigylaw02.HeapWrites', WHERE WHAT IT READS IS OF BULK AT MOST 1048576: true; the input reads as it did. -/
def heapWritesUptoRow : OpenClaim := { program := "ytkpjkbkglnabiaadoor", sum := "d59d4132e2ae0b2ea04c9c574f9ea880c48aca0a370cb0c877a0a253203f349b", func := "effigy/effigylaw02.HeapWrites", spec := "heapWrites", inPlace := ["internal/abi.NoEscape", "internal/bytealg.MakeNoZero"], named := ["effigy/oop.spares", "internal/strconv.uint64pow10", "math/bits.deBruijn32tab", "math/bits.deBruijn64tab"], apart := false, laid := [("math/bits.deBruijn32tab", laid_math_bits_deBruijn32tab), ("math/bits.deBruijn64tab", laid_math_bits_deBruijn64tab), ("internal/strconv.uint64pow10", laid_internal_strconv_uint64pow10), ("effigy/oop.spares", laid_effigy_oop_spares)], narrowed := true }
def HeapWritesUptoSaid : Prop := heapWritesUptoRow.holds Tryd.pinned (OpenSpec.upto heapWritesSpec)

/-- 'effigylaw02.HeapFresh', WHERE WHAT IT READS IS OF BULK AT MOST 1048576: true; the input reads as it did. -/
def heapFreshUptoRow : OpenClaim := { program := "ytkpjkbkglnabiaadoor", sum := "d59d4132e2ae0b2ea04c9c574f9ea880c48aca0a370cb0c877a0a253203f349b", func := "effigy/effigylaw02.HeapFresh", spec := "heapFresh", inPlace := ["internal/abi.NoEscape", "internal/bytealg.MakeNoZero"], named := ["effigy/oop.spares", "internal/strconv.uint64pow10", "math/bits.deBruijn32tab", "math/bits.deBruijn64tab"], apart := false, laid := [("math/bits.deBruijn32tab", laid_math_bits_deBruijn32tab), ("math/bits.deBruijn64tab", laid_math_bits_deBruijn64tab), ("internal/strconv.uint64pow10", laid_internal_strconv_uint64pow10), ("effigy/oop.spares", laid_effigy_oop_spares)], narrowed := true }
def HeapFreshUptoSaid : Prop := heapFreshUptoRow.holds Tryd.pinned (OpenSpec.upto heapFreshSpec)

/-- 'effigylaw02.HeapRows', WHERE WHAT IT READS IS OF BULK AT MOST 1048576: true; the input reads as it did. -/
def heapRowsUptoRow : OpenClaim := { program := "ytkpjkbkglnabiaadoor", sum := "d59d4132e2ae0b2ea04c9c574f9ea880c48aca0a370cb0c877a0a253203f349b", func := "effigy/effigylaw02.HeapRows", spec := "heapRows", inPlace := ["internal/abi.NoEscape", "internal/bytealg.MakeNoZero"], unfollowed := true, recurses := true, named := ["effigy/oop.spares", "internal/strconv.uint64pow10", "math/bits.deBruijn32tab", "math/bits.deBruijn64tab"], apart := false, laid := [("math/bits.deBruijn32tab", laid_math_bits_deBruijn32tab), ("math/bits.deBruijn64tab", laid_math_bits_deBruijn64tab), ("internal/strconv.uint64pow10", laid_internal_strconv_uint64pow10), ("effigy/oop.spares", laid_effigy_oop_spares)], narrowed := true }
def HeapRowsUptoSaid : Prop := heapRowsUptoRow.holds Tryd.pinned (OpenSpec.upto heapRowsSpec)

/-- 'effigylaw02.HeapSound', WHERE WHAT IT READS IS OF BULK AT MOST 1048576: true; the input reads as it did. -/
def heapSoundUptoRow : OpenClaim := { program := "ytkpjkbkglnabiaadoor", sum := "d59d4132e2ae0b2ea04c9c574f9ea880c48aca0a370cb0c877a0a253203f349b", func := "effigy/effigylaw02.HeapSound", spec := "heapSound", inPlace := ["internal/abi.NoEscape", "internal/bytealg.MakeNoZero"], unfollowed := true, recurses := true, named := ["effigy/oop.spares", "internal/strconv.uint64pow10", "math/bits.deBruijn32tab", "math/bits.deBruijn64tab"], apart := false, laid := [("math/bits.deBruijn32tab", laid_math_bits_deBruijn32tab), ("math/bits.deBruijn64tab", laid_math_bits_deBruijn64tab), ("internal/strconv.uint64pow10", laid_internal_strconv_uint64pow10), ("effigy/oop.spares", laid_effigy_oop_spares)], narrowed := true }
def HeapSoundUptoSaid : Prop := heapSoundUptoRow.holds Tryd.pinned (OpenSpec.upto heapSoundSpec)

/-- 'effigylaw02.HeapNil', WHERE WHAT IT READS IS OF BULK AT MOST 1048576: true; the input reads as it did. -/
def heapNilUptoRow : OpenClaim := { program := "ytkpjkbkglnabiaadoor", sum := "d59d4132e2ae0b2ea04c9c574f9ea880c48aca0a370cb0c877a0a253203f349b", func := "effigy/effigylaw02.HeapNil", spec := "heapNil", inPlace := ["internal/abi.NoEscape", "internal/bytealg.MakeNoZero"], unfollowed := true, recurses := true, named := ["effigy/oop.spares", "internal/strconv.uint64pow10", "math/bits.deBruijn32tab", "math/bits.deBruijn64tab"], apart := false, laid := [("math/bits.deBruijn32tab", laid_math_bits_deBruijn32tab), ("math/bits.deBruijn64tab", laid_math_bits_deBruijn64tab), ("internal/strconv.uint64pow10", laid_internal_strconv_uint64pow10), ("effigy/oop.spares", laid_effigy_oop_spares)], narrowed := true }
def HeapNilUptoSaid : Prop := heapNilUptoRow.holds Tryd.pinned (OpenSpec.upto heapNilSpec)

end Rows
end Go.Proofs.YtkpjkbkglnabiaaDoor
