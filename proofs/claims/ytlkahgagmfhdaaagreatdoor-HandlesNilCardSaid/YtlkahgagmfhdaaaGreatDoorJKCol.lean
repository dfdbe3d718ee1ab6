/- Collect: the program's. -/
/- built of chapter 3: a case's heap. -/
/- oops, store of chapter 3. -/
/- is of chapter 3: a heap has just these words and roots. -/
/- awake of chapter 3: a small heap collected. -/
import Derived.Test.YtlkahgagmfhdaaaGreatDoorJKLay
import Derived.Test.YtlkahgagmfhdaaaGreatDoorJSound
import Derived.Test.YtlkahgagmfhdaaaGreatDoorJAll
import Derived.Test.YtlkahgagmfhdaaaGreatDoorJUntil
import Derived.Test.YtlkahgagmfhdaaaGreatDoorJRoundW
import Derived.Test.YtlkahgagmfhdaaaGreatDoorJLive
import Derived.Test.YtlkahgagmfhdaaaGreatDoorJSameL
import Derived.Carry
import Derived.Sort.CutIn
import Derived.Deep.RegionHeld3
set_option linter.unusedVariables false
set_option linter.unusedSimpArgs false
set_option linter.unusedSectionVars false
namespace Go.Proofs.YtlkahgagmfhdaaaGreatDoor
open Go.RowKit
attribute [local go_sem] Oper.semAt_some
/-- The plan's row. -/
def PlA (w : World) (g : Nat) (pl : List (Nat × Nat)) : Prop := g < w.heap.size ∧ ∀ k q, pl[k]? = some q → w.cell? ⟨g, k * 2, none⟩ = some (.int .u32 (q.1 : Int)) ∧ w.cell? ⟨g, k * 2 + 1, none⟩ = some (.int .u32 (q.2 : Int))
theorem PlA.same {w w' : World} {g : Nat} {pl : List (Nat × Nat)} (h : PlA w g pl) (hz : w.heap.size ≤ w'.heap.size) (he : w'.heap[g]? = w.heap[g]?) : PlA w' g pl :=
  ⟨Nat.lt_of_lt_of_le h.1 hz, fun k q hk => ⟨(World.cell?_of_block he).trans (h.2 k q hk).1, (World.cell?_of_block he).trans (h.2 k q hk).2⟩⟩
end Go.Proofs.YtlkahgagmfhdaaaGreatDoor

namespace Go.Proofs.YtlkahgagmfhdaaaGreatDoor
open Go.RowKit
/-- A case. -/
structure CsK where
  size : Int
  A : Option Addr
  n : Nat
  c : Nat
  A' : Option Addr
  n' : Nat
  c' : Nat
  ws : List Nat
  rs : List Nat
  last : Nat
def CsK.agg (k : CsK) : Value := .agg #[.int .i64 k.size, .slice k.A k.n k.c, .slice k.A' k.n' k.c', .int .u32 (k.last : Nat)]
def CsK.h (k : CsK) : HM := HM.ofWords k.size.toNat k.ws k.rs k.last
def CsK.Ok (k : CsK) : Prop := 64 ≤ k.size ∧ k.size ≤ 1048576 ∧ loadE k.size.toNat k.ws k.rs k.last = 0
/-- A case as it lies in memory. -/
structure CsK.At (k : CsK) (w : World) (B : Nat) : Prop where
  hn : k.n ≤ 9223372036854775807
  hr : Reads w B 1 k.A k.n (u32s k.ws)
  h32 : ∀ x ∈ k.ws, x < 4294967296
  hn' : k.n' ≤ 9223372036854775807
  hr' : Reads w B 1 k.A' k.n' (u32s k.rs)
  h32' : ∀ x ∈ k.rs, x < 4294967296
  hl : k.last < 4294967296
theorem CsK.At.below {k : CsK} {w w' : World} (h : k.At w w.heap.size) (hb : Below w.heap.size w w') : k.At w' w'.heap.size :=
  ⟨h.hn, (h.hr.below hb).more hb.size, h.h32, h.hn', (h.hr'.below hb).more hb.size, h.h32', h.hl⟩
end Go.Proofs.YtlkahgagmfhdaaaGreatDoor

namespace Go.Proofs.YtlkahgagmfhdaaaGreatDoor
open Go.RowKit
end Go.Proofs.YtlkahgagmfhdaaaGreatDoor

namespace Go.Proofs.YtlkahgagmfhdaaaGreatDoor
open Go.RowKit
end Go.Proofs.YtlkahgagmfhdaaaGreatDoor

namespace Go.Proofs.YtlkahgagmfhdaaaGreatDoor
open Go.RowKit
end Go.Proofs.YtlkahgagmfhdaaaGreatDoor
