/- What an object names: named. -/
/- A collection: where the live objects lie and would lie, and what is left. Plain data. -/
/- The walk by holding: put, walk. -/
/- The walk by holding: walk. -/
import Derived.Test.YtlkahgagmfhdaaaGreatDoorJRefQ
import Derived.Test.YtlkahgagmfhdaaaGreatDoorJLive
import Derived.Test.YtlkahgagmfhdaaaGreatDoorJMake
import Derived.Test.YtlkahgagmfhdaaaGreatDoorJMapOk
import Derived.Lib.QuietBelow
import Derived.ScopeJumps
set_option linter.unusedVariables false
set_option linter.unusedSimpArgs false
set_option linter.unusedSectionVars false
namespace Go.Proofs.YtlkahgagmfhdaaaGreatDoor
open Go.RowKit
attribute [local go_sem] Oper.semAt_some
section
variable {w : World} {p : HP} {h : HM} {l : List Ob}
theorem fields_len (G : h.Good l) {o : Nat} (hi : h.isB o = true) : (h.fields o).length = (h.hd (o / 2)).size := by
  obtain ⟨a, b, c, rfl, rfl⟩ := (G.laid.isB_iff o).1 hi
  rw [G.laid.fields_at, half_pos, G.laid.hd_at, G.laid.ok_at.size]
theorem own_base {w : World} {B B' s n : Nat} {e : TypeId} {v : Value} {xs : List Value} (h : w.ownsRow B e s v n xs) (hb : B' ≤ B) : w.ownsRow B' e s v n xs := by
  refine ⟨h.1, ?_⟩
  rcases h.2 with h1 | ⟨g, cap, cur, h1, h2, h3⟩
  · exact .inl h1
  · exact .inr ⟨g, cap, cur, h1, Nat.le_trans hb h2, h3⟩
theorem own_below {w w' : World} {B s n : Nat} {e : TypeId} {v : Value} {xs : List Value} (h : w.ownsRow B e s v n xs) (hb : Below w.heap.size w w') : w'.ownsRow B e s v n xs := by
  refine ⟨h.1, ?_⟩
  rcases h.2 with h1 | ⟨g, cap, cur, h1, h2, h3, h4⟩
  · exact .inl h1
  · exact .inr ⟨g, cap, cur, h1, h2, (hb.block g (lt_of_get h3)).trans h3, h4⟩
end
end Go.Proofs.YtlkahgagmfhdaaaGreatDoor

namespace Go.Proofs.YtlkahgagmfhdaaaGreatDoor
open Go.RowKit
section
variable {h : HM} {l : List Ob}
/-- Where an object goes; 0: it is not live. -/
def goesM (pl : List (Nat × Nat)) (x : Nat) : Nat := ((pl.find? (fun p => p.1 == x)).map (·.2)).getD 0
end
end Go.Proofs.YtlkahgagmfhdaaaGreatDoor

namespace Go.Proofs.YtlkahgagmfhdaaaGreatDoor
open Go.RowKit
attribute [local go_sem] Oper.semAt_some
/-- A trail in memory, all of it from B on. -/
structure TrailAt (w : World) (B gt bm : Nat) (v : Value) (l : Wk) : Prop where
  box : Blk w gt 323 #[v, .map (some bm)]
  own : w.ownsRow B 54 1 v l.length (u32s (metO l))
  map : MapE 54 3 .i64 w bm l.length (byOf l) (fun x => decide (x ∈ metO l))
  hg : B ≤ gt
  hm : B ≤ bm
  m32 : ∀ x ∈ metO l, x < 4294967296
section
variable {w w' : World} {B gt bm : Nat} {v v' : Value} {l : Wk}
theorem TrailAt.below (T : TrailAt w B gt bm v l) (h : Below w.heap.size w w') : TrailAt w' B gt bm v l :=
  ⟨T.box.below h T.box.lt, own_below T.own h, T.map.below h, T.hg, T.hm, T.m32⟩
end
theorem own_val {w : World} {B s n : Nat} {e : TypeId} {v : Value} {xs : List Value} (h : w.ownsRow B e s v n xs) : ∃ A c, v = .slice A n c := by
  rcases h.2 with ⟨rfl, h0⟩ | ⟨g, cap, cur, rfl, _⟩
  · have : n = 0 := by first | exact h0 | (have := h.1; simp_all) | omega
    subst this
    exact ⟨none, 0, rfl⟩
  · exact ⟨_, _, rfl⟩
theorem own_keep {w w' : World} {B s n : Nat} {e : TypeId} {v : Value} {xs : List Value} (h : w.ownsRow B e s v n xs) (hs : ∀ k, v.ownBlock = some k → w'.heap[k]? = w.heap[k]?) : w'.ownsRow B e s v n xs := by
  refine ⟨h.1, ?_⟩
  rcases h.2 with h1 | ⟨g, cap, cur, h1, h2, h3, h4⟩
  · exact .inl h1
  · exact .inr ⟨g, cap, cur, h1, h2, (hs g (by rw [h1]; rfl)).trans h3, h4⟩
end Go.Proofs.YtlkahgagmfhdaaaGreatDoor

namespace Go.Proofs.YtlkahgagmfhdaaaGreatDoor
open Go.RowKit
attribute [local go_sem] Oper.semAt_some
section
variable {w : World} {p : HP} {h : HM} {l : List Ob}
end
end Go.Proofs.YtlkahgagmfhdaaaGreatDoor
