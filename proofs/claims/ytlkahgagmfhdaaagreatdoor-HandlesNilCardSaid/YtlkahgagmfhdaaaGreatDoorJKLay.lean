/- lay: a live object put behind the others. -/
/- Collect: the mover's first state and its steps outside lay. -/
import Derived.Test.YtlkahgagmfhdaaaGreatDoorJSoAll
import Derived.Test.YtlkahgagmfhdaaaGreatDoorJUntil
import Derived.IntWalk
set_option linter.unusedVariables false
set_option linter.unusedSimpArgs false
set_option linter.unusedSectionVars false
namespace Go.Proofs.YtlkahgagmfhdaaaGreatDoor
open Go.RowKit
attribute [local go_sem] Oper.semAt_some
section
variable {w : World} {p : HP} {h : HM} {l : List Ob} {B mg mb go co void : Nat} {v : Value} {ws : List Nat} {pl : List (Nat × Nat)} {t0 t1 t2 t3 t4 : Nat}
end
end Go.Proofs.YtlkahgagmfhdaaaGreatDoor

namespace Go.Proofs.YtlkahgagmfhdaaaGreatDoor
open Go.RowKit
attribute [local go_sem] Oper.semAt_some
/-- Memory but for two blocks. -/
structure Fr2 (a b : Nat) (w w' : World) : Prop where
  os : w'.os = w.os
  tape : w'.tape = w.tape
  output : w'.output = w.output
  size : w.heap.size ≤ w'.heap.size
  same : ∀ k, k < w.heap.size → k ≠ a → k ≠ b → w'.heap[k]? = w.heap[k]?
theorem Fr2.refl (a b : Nat) (w : World) : Fr2 a b w w := ⟨rfl, rfl, rfl, Nat.le_refl _, fun _ _ _ _ => rfl⟩
theorem Fr2.of_below {a b : Nat} {w w' : World} (h : Below w.heap.size w w') : Fr2 a b w w' := ⟨h.os, h.tape, h.output, h.size, fun k hk _ _ => h.block k hk⟩
theorem Fr2.trans {a b : Nat} {w w1 w2 : World} (h : Fr2 a b w w1) (k : Fr2 a b w1 w2) : Fr2 a b w w2 :=
  ⟨k.os.trans h.os, k.tape.trans h.tape, k.output.trans h.output, Nat.le_trans h.size k.size, fun q hq h1 h2 => (k.same q (Nat.lt_of_lt_of_le hq h.size) h1 h2).trans (h.same q hq h1 h2)⟩
theorem Fr2.grown {a b : Nat} {w w' : World} (h : w.grownBy w' (some b)) : Fr2 a b w w' :=
  ⟨h.os, h.tape, h.output, h.size, fun k hk _ h2 => h.block k hk (fun e => h2 (by injection e))⟩
theorem Fr2.below {a b B : Nat} {w w' : World} (h : Fr2 a b w w') (ha : B ≤ a) (hb : B ≤ b) (hw : B ≤ w.heap.size) : Below B w w' :=
  ⟨h.os, h.tape, h.output, h.size, fun k hk => h.same k (by omega) (by omega) (by omega)⟩
section
variable {w w' : World} {B mg mb : Nat} {hp v : Value} {ws : List Nat} {pl : List (Nat × Nat)} {t0 t1 t2 t3 t4 : Nat}
end
end Go.Proofs.YtlkahgagmfhdaaaGreatDoor
