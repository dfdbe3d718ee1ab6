/- The iterator All of the program's heap: its contract, for every body that keeps what it did not make ahead of the loop. -/
/- All and Find of the program's heap. -/
/- The document's heap: First, Next, Find. -/
/- The document's heap: Bytes. -/
/- The document's heap: Show. -/
/- The document's heaps: Alike. -/
/- The document's heap: Copy (in work). -/
/- The document's heap: keeps. -/
import Derived.Test.YtlkahgagmfhdaaaGreatDoorJCloneH
import Derived.Test.YtlkahgagmfhdaaaGreatDoorJSound
import Derived.Test.YtlkahgagmfhdaaaGreatDoorJLive
import Derived.Test.YtlkahgagmfhdaaaGreatDoorJRefI
import Derived.Test.YtlkahgagmfhdaaaGreatDoorJAlloc
import Derived.Test.YtlkahgagmfhdaaaGreatDoorJShow
import Derived.Test.YtlkahgagmfhdaaaGreatDoorJOop
import Derived.RangeFuncNested
import Derived.RangeFuncBound
import Derived.RangeFuncCalls
import Derived.RangeFuncLeaves
import Derived.Shelf.Abstract
import Derived.Shelf.RegionOpen
import Derived.WalkKit
import Derived.OwnWalkIn
import Derived.TacticsInMore
import Derived.LoopNIn
import Derived.LoopIn
set_option linter.unusedVariables false
set_option linter.unusedSectionVars false
namespace Go.Proofs.YtlkahgagmfhdaaaGreatDoor
open Go.RowKit
attribute [local go_sem] Oper.semAt_some

/-- What a round keeps: every block of cells but those from m0 to n0 (the caller's own variables). -/
structure KpB (m0 n0 : Nat) (w w' : World) : Prop where
  os : w'.os = w.os
  tape : w'.tape = w.tape
  output : w'.output = w.output
  size : w.heap.size ≤ w'.heap.size
  cells : ∀ k cs t fr, k < m0 ∨ n0 ≤ k → w.heap[k]? = some (.cells cs t fr) → w'.heap[k]? = some (.cells cs t fr)
theorem KpB.refl (m0 n0 : Nat) (w : World) : KpB m0 n0 w w := ⟨rfl, rfl, rfl, Nat.le_refl _, fun _ _ _ _ _ h => h⟩
theorem KpB.trans {m0 n0 : Nat} {a b c : World} (h : KpB m0 n0 a b) (k : KpB m0 n0 b c) : KpB m0 n0 a c :=
  ⟨k.os.trans h.os, k.tape.trans h.tape, k.output.trans h.output, Nat.le_trans h.size k.size, fun j cs t fr hj h1 => k.cells j cs t fr hj (h.cells j cs t fr hj h1)⟩
theorem lt_of_get {w : World} {k : Nat} {o : Obj} (h : w.heap[k]? = some o) : k < w.heap.size := by
  rcases Nat.lt_or_ge k w.heap.size with h1 | h1
  · exact h1
  · rw [Array.getElem?_eq_none h1] at h; cases h
theorem KpB.of_below {m0 n0 : Nat} {w w' : World} (h : Below w.heap.size w w') : KpB m0 n0 w w' :=
  ⟨h.os, h.tape, h.output, h.size, fun k cs t fr _ hk => (h.block k (lt_of_get hk)).trans hk⟩
theorem KpB.drew {m0 n0 : Nat} {w w' : World} (h : KpB m0 n0 w w') : KpB m0 n0 w w'.drew := ⟨h.os, h.tape, h.output, h.size, h.cells⟩
theorem KpB.alloc {m0 n0 : Nat} {w w' : World} (h : KpB m0 n0 w w') (o : Obj) : KpB m0 n0 w (w'.alloc o) := h.trans (.of_below (below_alloc1' (Below.refl _ _)))
where below_alloc1' {W w : World} {o : Obj} (h : Below W.heap.size W w) : Below W.heap.size W (w.alloc o) := h.alloc h.size o
theorem KpB.setCell {m0 n0 : Nat} {w w' : World} (h : KpB m0 n0 w w') {a : Addr} (h1 : m0 ≤ a.block) (h2 : a.block < n0) (u : Value) : KpB m0 n0 w (w'.setCell a u) :=
  ⟨h.os, h.tape, h.output, by simpa [World.setCell] using h.size, fun k cs t fr hk hh => (Below.heap_setCell w' a u k (fun e => by omega)).trans (h.cells k cs t fr hk hh)⟩
theorem Blk.kept {m0 n0 : Nat} {w w' : World} {g : Nat} {t : TypeId} {cs : Array Value} (h : Blk w g t cs) (k : KpB m0 n0 w w') (hg : g < m0 ∨ n0 ≤ g) : Blk w' g t cs := k.cells g cs t (0, 0) hg h
theorem Row.kept {m0 n0 : Nat} {w w' : World} {g c : Nat} {e : TypeId} {xs : List Value} (h : Row w g e c xs) (k : KpB m0 n0 w w') (hg : g < m0 ∨ n0 ≤ g) : Row w' g e c xs := by
  obtain ⟨cur, h, r⟩ := h
  exact ⟨cur, h.kept k hg, r⟩
theorem HAt.kept {m0 n0 : Nat} {w w' : World} {p : HP} {h : HM} (H : HAt w p h) (k : KpB m0 n0 w w') (hp : ∀ j, p.has j → j < m0 ∨ n0 ≤ j) : HAt w' p h :=
  ⟨H.1.kept k (hp _ (.inl rfl)), H.2.1.kept k (hp _ (.inr (.inl rfl))), H.2.2.1.kept k (hp _ (.inr (.inr (.inl rfl)))), H.2.2.2.kept k (hp _ (.inr (.inr (.inr rfl))))⟩

section
variable {w : World} {p : HP} {h : HM} {l : List Ob}
end
end Go.Proofs.YtlkahgagmfhdaaaGreatDoor

namespace Go.Proofs.YtlkahgagmfhdaaaGreatDoor
open Go.RowKit
attribute [local go_sem] Oper.semAt_some
end Go.Proofs.YtlkahgagmfhdaaaGreatDoor

namespace Go.Proofs.YtlkahgagmfhdaaaGreatDoor
open Go.RowKit
attribute [local go_sem] Oper.semAt_some
section
variable {w : World} {p : HP} {h : HM} (R : RAt w p h) (f : h.Fit)
include R f
theorem rfirst_any : Calls Tryz.prog 80 #[ptr p.g] w (Said (.int .u32 (h.objM 1 : Nat)) w) := by
  have c1 := R.c1
  have hone := f.one
  have hroom := f.room
  have hhi := f.hi
  unfold ptr
  by_cases h1 : h.words.length = 1
  · have HF := Lib.hid (show h.objM 1 = 0 by unfold HM.objM; rw [if_pos (by omega)])
    have hb : (((h.words.length : Nat) : Int) == 1) = true := by simp; omega
    clear h1 R
    generalize h.words.length = N at *
    go_enter Tryz.func80, Tryz.ntmps80
    go_wp2_with fail
    go_ret
    exact ⟨by rw [HF.out]; rfl, rfl⟩
  · have HF := Lib.hid (show h.objM 1 = 2 by unfold HM.objM; rw [if_neg (by omega)])
    have hb : (((h.words.length : Nat) : Int) == 1) = false := by simp; omega
    clear h1 R
    generalize h.words.length = N at *
    go_enter Tryz.func80, Tryz.ntmps80
    go_wp2_with fail
    go_ret
    exact ⟨by rw [HF.out]; rfl, rfl⟩
end
end Go.Proofs.YtlkahgagmfhdaaaGreatDoor

namespace Go.Proofs.YtlkahgagmfhdaaaGreatDoor
open Go.RowKit
attribute [local go_sem] Oper.semAt_some
section
variable {w : World} {p : HP} {h : HM} (R : RAt w p h) (f : h.Fit) (o : Nat) (ho : o < 4294967296) (hh : h.Heads)
include R f ho hh
end
end Go.Proofs.YtlkahgagmfhdaaaGreatDoor

namespace Go.Proofs.YtlkahgagmfhdaaaGreatDoor
open Go.RowKit Go.Sort Go.Lib
section
variable {w : World} {p : HP} {h : HM} (R : RAt w p h) (f : h.Fit) (hh : h.Heads) (hp : Pow w) (o : Nat) (ho : o < 4294967296) (hi : h.isB o = true)
include R f hh hp ho hi
end
end Go.Proofs.YtlkahgagmfhdaaaGreatDoor

namespace Go.Proofs.YtlkahgagmfhdaaaGreatDoor
open Go.RowKit
attribute [local go_sem] Oper.semAt_some
end Go.Proofs.YtlkahgagmfhdaaaGreatDoor

namespace Go.Proofs.YtlkahgagmfhdaaaGreatDoor
open Go.RowKit
attribute [local go_sem] Oper.semAt_some
end Go.Proofs.YtlkahgagmfhdaaaGreatDoor

namespace Go.Proofs.YtlkahgagmfhdaaaGreatDoor
open Go.RowKit Go.Maps
attribute [local go_sem] Oper.semAt_some
/-- An object's fields as they lie in the document's heap. -/
theorem RAt.fields {w : World} {p : HP} {h : HM} {a c : List Ob} {b : Ob} (H : RAt w p h) (L : h.Laid (a ++ b :: c)) {j : Nat} (hj : j < b.fs.length) : w.cell? ⟨p.gw, posOf a + 3 + j, none⟩ = some (.int .u32 (b.fs.getD j 0 : Nat)) := by
  have hwl := L.words_len
  have := H.word (i := posOf a + 3 + j) (by omega)
  rw [this]
  have e := L.f_at j hj
  unfold fw at e
  rw [half_pos] at e
  rw [← e]
  rfl

end Go.Proofs.YtlkahgagmfhdaaaGreatDoor
