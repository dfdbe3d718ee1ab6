import Derived.Test.YthadjmhipckelaaGreatDoorJOpen
import Derived.Test.YthadjmhipckelaaGreatDoorJRefQ
import Derived.Test.YthadjmhipckelaaGreatDoorCards
import Derived.Test.YthadjmhipckelaaGreatDoorTie
import Derived.Deep.Slices
import Derived.Deep.Fields
import Derived.Deep.DeepHandedRow
import Derived.Lib.LaidTab
import Derived.SizedLaws
set_option linter.unusedVariables false
set_option linter.unusedSectionVars false
namespace Go.Proofs.YthadjmhipckelaaGreatDoor
section
open Go.RowKit Go.WideShapes Go.ChangeShapes Go.ChangeAt Go.Deep
theorem own : ownKnob Tryz.prog.godebug = none := by kernel_rfl
theorem laidOut : laidOutB Tryz.prog = true := by kernel_rfl
def ReadsAs (P : Program) (w : World) (n : String) (d : DataW Unit) : Prop :=
 ∃ g t cs fuel p, P.globalNamed n = some g ∧ (P.globals[g]?).map (·.type) = some t ∧ w.var? P n = some cs ∧ DataW.trod (fun _ => ()) P w 0 (fun _ => true) false fuel t cs.toList = some (d, p)
theorem reads_of_vars {P : Program} {w : World} : ∀ {l : List (String × DataW Unit)} {ps : List MemPlace}, DataW.LaidVars P w l ps → ∀ n d, (n, d) ∈ l → ReadsAs P w n d
 | [], _, _, _, _, hm => by cases hm
 | (n', d') :: r, ps, h, n, d, hm => by
   obtain ⟨g, t, cs, fuel, p, q, h1, h2, h3, h4, h5, _⟩ := h
   rcases List.mem_cons.1 hm with e | e
   ·cases e
    exact ⟨g, t, cs, fuel, p, h1, h2, h3, h4⟩
   ·exact reads_of_vars h5 n d e
theorem reads_of_met {P : Program} {w : World} {l : List (String × DataW Unit)} (h : laidMet P l w) {n : String} {d : DataW Unit} (hm : (n, d) ∈ l) : ReadsAs P w n d :=
 let ⟨_, hv, _⟩ := h
 reads_of_vars hv n d hm
theorem bools_of_tab {H : Type} {enc : TypeId × Value → H} {P : Program} {w : World} {base : Nat} {sp : Nat → Bool} {held : Bool} {fuel : Nat} {t e : TypeId} {n : Nat} {cs : List Value} {zs : List Bool} {p : List MemPlace}
 (ht : P.underlying t = some (.array n e)) (he : P.underlying e = some .bool) (hce : P.cellsOf e = 1) (hct : P.cellsOf t = n)
 (h : DataW.trod enc P w base sp held fuel t cs = some (.agg (zs.map fun z => .lit (.bool z)), p)) : cs = zs.map Value.bool := by
 cases fuel with
 | zero => simp [DataW.trod] at h
 | succ fuel =>
   simp only [DataW.trod, ht, hce, hct, Nat.mul_one] at h
   split at h
   ·rename_i hl
    obtain ⟨xs, hm, hx⟩ := Option.map_eq_some_iff.1 h
    have hxs : xs.map (·.1) = zs.map fun z => (DataW.lit (.bool z) : DataW H) := by
     have := congrArg Prod.fst hx
     simpa using this
    have hxl : xs.length = n := by simpa using Lib.mapM_length hm
    have hzl : zs.length = n := by
     have := congrArg List.length hxs
     simp at this
     omega
    apply List.ext_getElem?
    intro i
    by_cases hi : i < n
    ·obtain ⟨b, hb, hf⟩ := Lib.mapM_at hm i i (by simp [hi])
     obtain ⟨z, hc, rfl⟩ := DataW.trod_bool he hf
     have h1 : cs[i]? = some (.bool z) := by
      have := congrArg (·[0]?) hc
      simpa [List.getElem?_take, List.getElem?_drop] using this
     have h2 : (xs.map (·.1))[i]? = some (DataW.lit (.bool z) : DataW H) := by simp [hb]
     rw [hxs] at h2
     simp only [List.getElem?_map, Option.map_eq_some_iff, DataW.lit.injEq, Lit.bool.injEq] at h2
     obtain ⟨z', hz', rfl⟩ := h2
     simp [h1, hz']
    ·rw [List.getElem?_eq_none (by omega), List.getElem?_eq_none (by simp; omega)]
   ·cases h
theorem gSp : Tryz.prog.globalNamed "effigy/oop.spares" = some 0 := by kernel_rfl
theorem gSpT : (Tryz.prog.globals[0]?).map (·.type) = some 181 := by kernel_rfl
theorem cSp : Tryz.prog.cellsOf 181 = 5 := by kernel_rfl
theorem cB : Tryz.prog.cellsOf 4 = 1 := by kernel_rfl
theorem env_of_met {l : List (String × DataW Unit)} {W : World} (h : laidMet Tryz.prog l W) (h2 : ("effigy/oop.spares", Rows.laid_effigy_oop_spares) ∈ l) : Env W := by
 have hs : Spares W := by
  obtain ⟨g, t, cs, fuel, p, e1, e2, e3, e4⟩ := reads_of_met h h2
  obtain rfl := Option.some.inj (gSp.symm.trans e1)
  obtain rfl := Option.some.inj (gSpT.symm.trans e2)
  have e5 := bools_of_tab (zs := [false, false, true, false, false]) Tryz.underlying181 Tryz.underlying4 cB cSp e4
  intro i hi
  have := World.var?_cell gSp e3 i
  rw [this, ← Array.getElem?_toList, e5]
  rcases (by omega : i = 0 ∨ i = 1 ∨ i = 2 ∨ i = 3 ∨ i = 4) with rfl | rfl | rfl | rfl | rfl <;> rfl
 exact ⟨hs, hs⟩
theorem cellsU8 : Tryz.prog.cellsOf 5 = 1 := by kernel_rfl
theorem open_nats {H : Type} {enc : TypeId × Value → H} {P : Program} {w : World} {base : Nat} {spare : Nat → Bool} {held : Bool} {t e : TypeId} {k : IntKind} {v : Value} {d : DataW H} {ps : List MemPlace}
 (ht : P.underlying t = some (.slice e)) (he : P.underlying e = some (.int k)) (hc : P.cellsOf e = 1) (hk : k.min = 0) (hv : ∃ a n c, v = .slice a n c) (h : DataW.Trod enc P w base spare held t v d ps) :
 ∃ (A : Option Addr) (n c : Nat) (zs : List Nat), v = .slice A n c ∧ n ≤ 9223372036854775807 ∧ Reads w w.heap.size 1 A n (zs.map fun x : Nat => Value.int k (x : Int)) ∧ (∀ y ∈ zs, (y : Int) ≤ k.max) ∧
   (n = 0 ∨ ∃ el sp, d = .slice el sp ∧ el.length = n) := by
 obtain ⟨a0, n0, c0, hv0⟩ := id hv
 have hd : n0 = 0 ∨ ∃ el sp, d = .slice el sp ∧ el.length = n0 := by
  obtain ⟨fuel, hf⟩ := id h
  subst hv0
  rcases open_ints ht he hc hf with ⟨hcs, hx⟩ | ⟨a, len', cap', zs, hcs, _, hl, hm, hz, hx, hcell, hwz⟩
  ·simp only [Value.cells, List.cons.injEq, Value.slice.injEq, and_true] at hcs
   exact .inl hcs.2.1
  ·simp only [Value.cells, List.cons.injEq, Value.slice.injEq, and_true] at hcs
   obtain ⟨rfl, rfl, rfl⟩ := hcs
   injection hx with hx1 hx2
   have hlz : n0 ≤ zs.length := by rw [hz]; split <;> omega
   exact .inr ⟨_, _, hx1, by simp [lits]; omega⟩
 obtain ⟨A, n, c, zs, hv', hnc, hcm, hr, hzl, hwz⟩ := open_ints_reads ht he hc hv h
 obtain ⟨ys, rfl, hys⟩ := nats_of_wf hk hwz
 rw [hv0] at hv'
 injection hv' with e1 e2 e3
 subst e1 e2 e3
 unfold maxLen at hcm
 exact ⟨a0, n0, c0, ys, hv0, by omega, by simpa [Function.comp_def] using hr, hys, hd⟩
theorem len_reach {H : Type} {P : Program} {ts : List TypeId} {ds : List (DataW H)} (h : (DataW.weightsEach P ts ds).all (· ≤ reachBytes) = true) (j : Nat) {t e : TypeId} {d : DataW H} {n b : Nat}
 (ht : ts[j]? = some t) (hd : ds[j]? = some d) (hu : P.underlying t = some (.slice e)) (hb : P.bytesOf e = b) (hn : n = 0 ∨ ∃ el sp, d = .slice el sp ∧ el.length = n) : n * b ≤ 140737488351232 := by
 rcases hn with rfl | ⟨el, sp, rfl, rfl⟩
 ·omega
 ·have h1 := sized_slice h ht hd hu
  rw [hb] at h1
  have h2 : el.length * b ≤ (el.length + sp.length) * b := Nat.mul_le_mul_right _ (by omega)
  unfold reachBytes at h1
  omega
section
variable {H : Type} {enc : TypeId × Value → H} {w : World} {base : Nat} {spare : Nat → Bool} {held : Bool} {v : Value} {d : DataW H} {ps : List MemPlace}
theorem open_u8s (hv : ∃ a n c, v = .slice a n c) (h : DataW.Trod enc Tryz.prog w base spare held 22 v d ps) :
 ∃ (A : Option Addr) (n c : Nat) (zs : List Nat), v = .slice A n c ∧ n ≤ 9223372036854775807 ∧ Reads w w.heap.size 1 A n (u8c zs) ∧ (∀ y ∈ zs, y < 256) ∧ (n = 0 ∨ ∃ el sp, d = .slice el sp ∧ el.length = n) := by
 obtain ⟨A, n, c, zs, h1, h2, h3, h4, h5⟩ := open_nats Tryz.underlying22 Tryz.underlying5 cellsU8 rfl hv h
 have hm8 : IntKind.u8.max = 255 := rfl
 exact ⟨A, n, c, zs, h1, h2, h3, fun y hy => by have := h4 y hy; omega, h5⟩
end
theorem bytesU8 : Tryz.prog.bytesOf 5 = 1 := by kernel_rfl
def laidCells (l : List Value) : Obj → Obj
 | .cells _ t frozen => .cells l.toArray t frozen
 | o => o
noncomputable def laidWorld (os : Os) : World :=
 { World.holding Tryz.prog os ⟨#[], #[], []⟩ with heap := ((World.holding Tryz.prog os ⟨#[], #[], []⟩).heap.modify 0 (laidCells [.bool false, .bool false, .bool true, .bool false, .bool false])) }
end
section
open Go.RowKit
variable {H : Type} {enc : TypeId × Value → H} {w : World} {base : Nat} {spare : Nat → Bool} {held : Bool} {v : Value} {d : DataW H} {ps : List MemPlace}
theorem open_u8cap (hv : ∃ a n c, v = .slice a n c) (h : DataW.Trod enc Tryz.prog w base spare held 22 v d ps) :
 ∃ (A : Option Addr) (n c : Nat) (zs : List Nat), v = .slice A n c ∧ n ≤ 9223372036854775807 ∧ n ≤ c ∧ Reads w w.heap.size 1 A n (u8c zs) ∧ (∀ y ∈ zs, y < 256) ∧ (n = 0 ∨ ∃ el sp, d = .slice el sp ∧ el.length = n) := by
 obtain ⟨A, n, c, zs, h1, h2, h3, h4, h5⟩ := open_u8s hv h
 obtain ⟨A', n', c', zs', k1, k2, -⟩ := open_ints_reads Tryz.underlying22 Tryz.underlying5 cellsU8 hv h
 rw [h1] at k1
 injection k1 with e1 e2 e3
 exact ⟨A, n, c, zs, h1, h2, by omega, h3, h4, h5⟩
end
end Go.Proofs.YthadjmhipckelaaGreatDoor
