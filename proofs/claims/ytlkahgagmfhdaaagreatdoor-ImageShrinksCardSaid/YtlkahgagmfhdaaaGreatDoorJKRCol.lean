import Derived.Test.YtlkahgagmfhdaaaGreatDoorJKRNames
import Derived.Test.YtlkahgagmfhdaaaGreatDoorJKCol
import Derived.Test.YtlkahgagmfhdaaaGreatDoorJLive
import Derived.Deep.RegionHeld3
import Derived.BigQuiet
set_option linter.unusedVariables false
set_option linter.unusedSimpArgs false
set_option linter.unusedSectionVars false
namespace Go.Proofs.YtlkahgagmfhdaaaGreatDoor
section
open Go.RowKit Go.Sort
attribute [local go_sem] Oper.semAt_some
section
variable {w w' : World} {M gt gc gn N : Nat} {pl : List (Nat × Nat)} {vw vr : Value} {ws rs : List Nat} {a0 a1 a3 clr : Nat}
end
section
variable {w w' w0 : World} {M gt gc gn N : Nat} {pl : List (Nat × Nat)} {vw vr v5 : Value} {ws rs ns : List Nat} {a0 a1 a3 clr : Nat}
end
section
variable {w w0 : World} {M gt gc gn N : Nat} {pl : List (Nat × Nat)} {vw vr : Value} {ws rs : List Nat} {a0 a1 a3 clr : Nat}
end
section
variable {w : World} {h : HM} {l : List Ob} {A A' : Option Addr} {n c n' c' : Nat}
end
end
section
open Go.RowKit Go.Sort
attribute [local go_sem] Oper.semAt_some
section
variable {W : World}
end
end
section
open Go.RowKit Go.Sort
attribute [local go_sem] Oper.semAt_some
theorem colV_ints (h : HM) (l : List Ob) : ∃ x0 x1 x2 x3 x4 : Int, colV h l = .agg #[.int .i64 x0, .int .i64 x1, .int .i64 x2, .int .i64 x3, .int .i64 x4] := ⟨_, _, _, _, _, rfl⟩
end
section
open Go.RowKit Go.Sort
attribute [local go_sem] Oper.semAt_some
theorem Live.beside {W w w' : World} {p q q' : HP} {g : Nat} {h : HM} (L : Live W w p g h) (s : Step q q' w w') (hd : ∀ j, p.has j → ¬ q.has j) (hq : ∀ j, q.has j → W.heap.size ≤ j) : Live W w' p g h :=
 ⟨L.at_.same (fun j hj => s.block j (L.at_.lt hj) (hd j hj)), L.hg, L.good, L.env, L.new, L.below.trans ⟨s.os, s.tape, s.output, s.size, fun j hj => s.block j (by have := L.below.size; omega) (fun e => by have := hq j e; omega)⟩⟩
end
section
open Go.RowKit Go.Sort
attribute [local go_sem] Oper.semAt_some
end
section
open Go.RowKit Go.Sort
attribute [local go_sem] Oper.semAt_some
theorem Live.rebase {W w1 w : World} {p : HP} {g : Nat} {h : HM} (L : Live w1 w p g h) (hb : Below W.heap.size W w1) (E : Env W) : Live W w p g h :=
 ⟨L.at_, L.hg, L.good, E, fun j hj => Nat.le_trans hb.size (L.new j hj), hb.trans (L.below.mono hb.size)⟩
theorem isB_obj {h : HM} {l : List Ob} (G : h.Good l) {j : Nat} (hj : j < l.length) : h.isB (2 * posOf (l.take j)) = true := (G.laid.isB_iff _).2 ⟨l.take j, l[j], l.drop (j + 1), split_at l j hj, rfl⟩
end
end Go.Proofs.YtlkahgagmfhdaaaGreatDoor
