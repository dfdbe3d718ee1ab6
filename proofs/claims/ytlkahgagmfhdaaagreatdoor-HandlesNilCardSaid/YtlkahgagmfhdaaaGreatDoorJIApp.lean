/- append onto a row of bytes of the call's own, as one step. -/
import Derived.Test.YtlkahgagmfhdaaaGreatDoorJAlloc
set_option linter.unusedVariables false
set_option linter.unusedSimpArgs false
namespace Go.Proofs.YtlkahgagmfhdaaaGreatDoor
open Go.RowKit
attribute [local go_sem] Oper.semAt_some
theorem RB.new {w2 w w' : World} {v : Value} {bs : List Nat} (ho : w'.ownsRow w.heap.size 5 1 v bs.length (u8c bs)) (hb : Below w.heap.size w w') (h0 : Below w2.heap.size w2 w) : RB w2 w' w.heap.size v bs :=
  ⟨ho, below_top h0 hb, h0.size, hb.size⟩
theorem RB.reads {w2 w : World} {B : Nat} {v : Value} {bs : List Nat} (C : RB w2 w B v bs) : ∃ A c, v = .slice A bs.length c ∧ Reads w w.heap.size 1 A bs.length (u8c bs) := own_sliceI C.own
theorem RB.alloc {w2 w : World} {B : Nat} {v : Value} {bs : List Nat} (C : RB w2 w B v bs) (o : Obj) : RB w2 (w.alloc o) B v bs := C.below ((Below.refl _ _).alloc (Nat.le_refl _) o)
theorem RB.nil {w2 w : World} {B : Nat} (hb : Below w2.heap.size w2 w) (hB : w2.heap.size ≤ B) (ht : B ≤ w.heap.size) : RB w2 w B (.slice none 0 0) [] :=
  ⟨⟨rfl, .inl ⟨rfl, rfl⟩⟩, hb, hB, ht⟩
/-- A row of other entries is no row of bytes. -/
theorem RB.other {w2 w w' : World} {B g c : Nat} {v : Value} {bs : List Nat} {e : TypeId} {xs : List Value} (C : RB w2 w B v bs) (hr : Row w g e c xs) (hne : e ≠ 5) (hg : w.grownBy w' v.ownBlock) : Row w' g e c xs := by
  refine hr.same (hg.block g hr.lt fun hk => ?_)
  have hk' : v.ownBlock = some g := by first | exact hk | exact hk.symm
  rcases C.own.2 with ⟨h1, _⟩ | ⟨g', cap, cur, h1, h2, h3, h4⟩
  · rw [h1] at hk'; cases hk'
  · rw [h1] at hk'
    have e1 : g' = g := by injection hk'
    obtain ⟨cur', hb, _⟩ := hr
    rw [e1] at h3
    unfold Blk at hb
    rw [h3] at hb
    injection hb with hb
    injection hb with _ hb
    exact hne (by first | exact hb.symm | exact hb)
end Go.Proofs.YtlkahgagmfhdaaaGreatDoor
