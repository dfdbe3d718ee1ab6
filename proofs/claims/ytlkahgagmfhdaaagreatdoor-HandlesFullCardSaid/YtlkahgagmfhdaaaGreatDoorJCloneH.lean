/- (*Heap).Clone: another heap with the same. -/
import Derived.Test.YtlkahgagmfhdaaaGreatDoorJClone
import Derived.Deep.RegionHeld3
import Derived.Deep.DeepCutAuto
set_option linter.unusedVariables false
namespace Go.Proofs.YtlkahgagmfhdaaaGreatDoor
open Go.RowKit

/-- Rows that Clone has made so far. -/
def CRow (W w : World) (e : TypeId) (xs : List Value) : Option (Nat × Nat) → Prop
  | none => True
  | some (g, c) => W.heap.size ≤ g ∧ Row w g e c xs
def CAcc (W : World) (h : HM) (w : World) (a b c : Option (Nat × Nat)) : Prop :=
  Below W.heap.size W w ∧ CRow W w 32 (u32s h.words) a ∧ CRow W w 4 (bools h.starts) b ∧ CRow W w 54 (u32s h.roots) c
section
variable {W w w' : World} {p : HP} {h : HM} {a b c : Option (Nat × Nat)}
theorem CRow.below {e : TypeId} {xs : List Value} (h : CRow W w e xs a) (hb : Below w.heap.size w w') : CRow W w' e xs a := by
  cases a with
  | none => trivial
  | some x => exact ⟨h.1, h.2.below hb⟩
theorem CAcc.start (W : World) (h : HM) : CAcc W h W.drew none none none := ⟨⟨rfl, rfl, rfl, Nat.le_refl _, fun _ _ => rfl⟩, trivial, trivial, trivial⟩
theorem CAcc.below (k : CAcc W h w a b c) (hb : Below w.heap.size w w') : CAcc W h w' a b c :=
  ⟨below_top k.1 hb, k.2.1.below hb, k.2.2.1.below hb, k.2.2.2.below hb⟩
theorem CAcc.close {g1 c1 g2 c2 g3 c3 : Nat} (k : CAcc W h w (some (g1, c1)) (some (g2, c2)) (some (g3, c3))) :
    NewHeap HAt ptr h W (.returned (ptr w.heap.size)) (w.alloc (.cells #[.slice (some ⟨g1, 0, none⟩) h.words.length c1, .slice (some ⟨g2, 0, none⟩) h.starts.length c2, .slice (some ⟨g3, 0, none⟩) h.roots.length c3, .int .i64 h.size, .int .u32 h.last] 110)) := by
  obtain ⟨hb, ⟨h1, r1⟩, ⟨h2, r2⟩, ⟨h3, r3⟩⟩ := k
  refine ⟨⟨w.heap.size, g1, c1, g2, c2, g3, c3⟩, rfl, ⟨Blk.new w _ _, r1.alloc _, r2.alloc _, r3.alloc _⟩, ?_, hb.alloc hb.size _⟩
  rintro k (rfl | rfl | rfl | rfl)
  · exact hb.size
  · exact h1
  · exact h2
  · exact h3
end
end Go.Proofs.YtlkahgagmfhdaaaGreatDoor
