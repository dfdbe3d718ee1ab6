import Derived.Test.YthadjmhipckelaaGreatDoorJBase
import Derived.Test.YthadjmhipckelaaGreatDoorRowKit

namespace Go.Proofs.YthadjmhipckelaaGreatDoor
section
open Go.RowKit Go.WideShapes Go.ChangeShapes Go.ChangeAt
section
variable {H : Type} {enc : TypeId × Value → H} {P : Program} {w : World} {base : Nat} {spare : Nat → Bool} {held : Bool}
theorem open_ints_reads {t e : TypeId} {k : IntKind} {v : Value} {d : DataW H} {ps : List MemPlace} (ht : P.underlying t = some (.slice e)) (he : P.underlying e = some (.int k)) (hc : P.cellsOf e = 1)
 (hv : ∃ a n c, v = .slice a n c) (h : DataW.Trod enc P w base spare held t v d ps) :
 ∃ (A : Option Addr) (n c : Nat) (zs : List Int), v = .slice A n c ∧ n ≤ c ∧ c ≤ maxLen ∧ Reads w w.heap.size 1 A n (zs.map (Value.int k)) ∧ zs.length = n ∧ (∀ x ∈ zs, (Lit.int k x).wf = true) := by
 obtain ⟨a0, n0, c0, rfl⟩ := hv
 obtain ⟨fuel, hf⟩ := h
 rcases open_ints ht he hc hf with ⟨hcs, hx⟩ | ⟨a, len', cap', zs, hcs, _, hl, hm, hz, hx, hcell, hwz⟩
 ·simp only [Value.cells, List.cons.injEq, Value.slice.injEq, and_true] at hcs
  obtain ⟨rfl, rfl, rfl⟩ := hcs
  exact ⟨none, 0, 0, [], rfl, by omega, by decide, Reads.none_, rfl, by simp⟩
 ·simp only [Value.cells, List.cons.injEq, Value.slice.injEq, and_true] at hcs
  obtain ⟨rfl, rfl, rfl⟩ := hcs
  have hlz : n0 ≤ zs.length := by rw [hz]; split <;> omega
  refine ⟨some a, n0, c0, zs.take n0, rfl, hl, hm, ⟨by simp; omega, fun hn => ⟨a, rfl, ?_, fun j u hu => ?_⟩⟩, by simp; omega, fun x hx => hwz x (List.mem_of_mem_take hx)⟩
  ·have := World.block_lt_of_cell? _ _ (hcell 0 (by omega))
   rwa [block_of_add] at this
  ·rw [List.getElem?_map, List.getElem?_take] at hu
   split at hu
   ·rename_i hj
    rw [hcell j (by omega), List.getElem?_eq_getElem (by omega)] at *
    simpa [List.getD, show j < zs.length by omega] using hu
   ·cases hu
theorem nats_of_wf {k : IntKind} {zs : List Int} (hk : k.min = 0) (h : ∀ x ∈ zs, (Lit.int k x).wf = true) : ∃ ys : List Nat, zs = ys.map (fun n : Nat => (n : Int)) ∧ ∀ y ∈ ys, (y : Int) ≤ k.max := by
 refine ⟨zs.map Int.toNat, ?_, ?_⟩
 ·rw [List.map_map]
  refine (List.map_id zs).symm.trans (List.map_congr_left fun x hx => ?_)
  have := h x hx
  simp [Lit.wf, hk] at this
  simp; omega
 ·intro y hy
  obtain ⟨x, hx, rfl⟩ := List.mem_map.1 hy
  have := h x hx
  simp [Lit.wf, hk] at this
  omega
end
end
end Go.Proofs.YthadjmhipckelaaGreatDoor
