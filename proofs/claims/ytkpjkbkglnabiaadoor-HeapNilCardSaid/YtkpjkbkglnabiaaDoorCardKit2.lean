/- More arguments opened: a deed by value, lists of bytes, words, oops, with what the form's reach says of their length. -/
import Derived.Test.YtkpjkbkglnabiaaDoorCardKit
import Derived.SizedLaws
set_option linter.unusedVariables false
namespace Go.Proofs.YtkpjkbkglnabiaaDoor
open Go.RowKit Go.WideShapes Go.ChangeShapes Go.ChangeAt Go.Deep

set_option maxRecDepth 100000 in
theorem open_deed1 {H : Type} {enc : TypeId × Value → H} {w : World} {r : Reach} {b0 base : Nat} {spare : Nat → Bool} {held : Bool} {v : Value} {d : DataW H} {ps : List MemPlace}
    (hv : Value.okWide Tryd.prog w r b0 45 v) (h : DataW.Trod enc Tryd.prog w base spare held 45 v d ps) :
    ∃ (x : Dd) (A : Option Addr) (n c : Nat), x.Fit ∧ v = x.val A n c ∧ n ≤ 9223372036854775807 ∧ Reads w w.heap.size 1 A n (u8c x.b) := by
  obtain ⟨fs, uDeed, -, -, -⟩ := deedX
  obtain ⟨cs, rfl, hsz⟩ := okWide_struct uDeed hv
  obtain ⟨fuel, hf⟩ := h
  obtain ⟨x, A, n, c, fx, hcs, hn, hr⟩ := open_deed (show DataW.trod enc Tryd.prog w base spare held fuel 45 cs.toList = some (d, ps) from hf)
  refine ⟨x, A, n, c, fx, ?_, hn, hr⟩
  unfold Dd.val
  congr 1
  apply Array.toList_inj.1
  rw [hcs]
  rfl

theorem open_nats {H : Type} {enc : TypeId × Value → H} {P : Program} {w : World} {base : Nat} {spare : Nat → Bool} {held : Bool} {t e : TypeId} {k : IntKind} {v : Value} {d : DataW H} {ps : List MemPlace}
    (ht : P.underlying t = some (.slice e)) (he : P.underlying e = some (.int k)) (hc : P.cellsOf e = 1) (hk : k.min = 0) (hv : ∃ a n c, v = .slice a n c) (h : DataW.Trod enc P w base spare held t v d ps) :
    ∃ (A : Option Addr) (n c : Nat) (zs : List Nat), v = .slice A n c ∧ n ≤ 9223372036854775807 ∧ Reads w w.heap.size 1 A n (zs.map fun x : Nat => Value.int k (x : Int)) ∧ (∀ y ∈ zs, (y : Int) ≤ k.max) ∧
      (n = 0 ∨ ∃ el sp, d = .slice el sp ∧ el.length = n) := by
  obtain ⟨a0, n0, c0, hv0⟩ := id hv
  have hd : n0 = 0 ∨ ∃ el sp, d = .slice el sp ∧ el.length = n0 := by
    obtain ⟨fuel, hf⟩ := id h
    subst hv0
    rcases open_ints ht he hc hf with ⟨hcs, hx⟩ | ⟨a, len', cap', zs, hcs, _, hl, hm, hz, hx, hcell, hwz⟩
    · simp only [Value.cells, List.cons.injEq, Value.slice.injEq, and_true] at hcs
      exact .inl hcs.2.1
    · simp only [Value.cells, List.cons.injEq, Value.slice.injEq, and_true] at hcs
      obtain ⟨rfl, rfl, rfl⟩ := hcs
      injection hx with hx1 hx2
      have hlz : n0 ≤ zs.length := by rw [hz]; split <;> omega
      exact .inr ⟨_, _, hx1, by simp [lits]; omega⟩
  obtain ⟨A, n, c, zs, hv', hnc, hcm, hr, hzl, hwz⟩ := open_ints_reads ht he hc hv h
  obtain ⟨ys, rfl, hys⟩ := nats_of_wf hk hwz
  rw [hv0] at hv'
  injection hv' with e1 e2 e3
  subst e1 e2 e3
  unfold maxLen at hcm
  exact ⟨a0, n0, c0, ys, hv0, by omega, by simpa [Function.comp_def] using hr, hys, hd⟩

/-- What the form's reach says of a list's length. -/
theorem len_reach {H : Type} {P : Program} {ts : List TypeId} {ds : List (DataW H)} (h : (DataW.weightsEach P ts ds).all (· ≤ reachBytes) = true) (j : Nat) {t e : TypeId} {d : DataW H} {n b : Nat}
    (ht : ts[j]? = some t) (hd : ds[j]? = some d) (hu : P.underlying t = some (.slice e)) (hb : P.bytesOf e = b) (hn : n = 0 ∨ ∃ el sp, d = .slice el sp ∧ el.length = n) : n * b ≤ 140737488351232 := by
  rcases hn with rfl | ⟨el, sp, rfl, rfl⟩
  · omega
  · have h1 := sized_slice h ht hd hu
    rw [hb] at h1
    have h2 : el.length * b ≤ (el.length + sp.length) * b := Nat.mul_le_mul_right _ (by omega)
    unfold reachBytes at h1
    omega

section
variable {H : Type} {enc : TypeId × Value → H} {w : World} {base : Nat} {spare : Nat → Bool} {held : Bool} {v : Value} {d : DataW H} {ps : List MemPlace}
theorem cellsU32 : Tryd.prog.cellsOf 30 = 1 := by kernel_rfl
theorem cellsOop : Tryd.prog.cellsOf 31 = 1 := by kernel_rfl
theorem open_u8s (hv : ∃ a n c, v = .slice a n c) (h : DataW.Trod enc Tryd.prog w base spare held 43 v d ps) :
    ∃ (A : Option Addr) (n c : Nat) (zs : List Nat), v = .slice A n c ∧ n ≤ 9223372036854775807 ∧ Reads w w.heap.size 1 A n (u8c zs) ∧ (∀ y ∈ zs, y < 256) ∧ (n = 0 ∨ ∃ el sp, d = .slice el sp ∧ el.length = n) := by
  obtain ⟨A, n, c, zs, h1, h2, h3, h4, h5⟩ := open_nats Tryd.underlying43 Tryd.underlying5 cellsU8 rfl hv h
  have hm8 : IntKind.u8.max = 255 := rfl
  exact ⟨A, n, c, zs, h1, h2, h3, fun y hy => by have := h4 y hy; omega, h5⟩
theorem open_u32s (hv : ∃ a n c, v = .slice a n c) (h : DataW.Trod enc Tryd.prog w base spare held 46 v d ps) :
    ∃ (A : Option Addr) (n c : Nat) (zs : List Nat), v = .slice A n c ∧ n ≤ 9223372036854775807 ∧ Reads w w.heap.size 1 A n (u32s zs) ∧ (∀ y ∈ zs, y < 4294967296) ∧ (n = 0 ∨ ∃ el sp, d = .slice el sp ∧ el.length = n) := by
  obtain ⟨A, n, c, zs, h1, h2, h3, h4, h5⟩ := open_nats Tryd.underlying46 Tryd.underlying30 cellsU32 rfl hv h
  have hm8 : IntKind.u32.max = 4294967295 := rfl
  exact ⟨A, n, c, zs, h1, h2, h3, fun y hy => by have := h4 y hy; omega, h5⟩
theorem open_oops (hv : ∃ a n c, v = .slice a n c) (h : DataW.Trod enc Tryd.prog w base spare held 26 v d ps) :
    ∃ (A : Option Addr) (n c : Nat) (zs : List Nat), v = .slice A n c ∧ n ≤ 9223372036854775807 ∧ Reads w w.heap.size 1 A n (u32s zs) ∧ (∀ y ∈ zs, y < 4294967296) ∧ (n = 0 ∨ ∃ el sp, d = .slice el sp ∧ el.length = n) := by
  obtain ⟨A, n, c, zs, h1, h2, h3, h4, h5⟩ := open_nats Tryd.underlying26 Tryd.underlying31 cellsOop rfl hv h
  have hm8 : IntKind.u32.max = 4294967295 := rfl
  exact ⟨A, n, c, zs, h1, h2, h3, fun y hy => by have := h4 y hy; omega, h5⟩
end
theorem bytesU8 : Tryd.prog.bytesOf 5 = 1 := by kernel_rfl
theorem bytesU32 : Tryd.prog.bytesOf 30 = 4 := by kernel_rfl
theorem bytesOop : Tryd.prog.bytesOf 31 = 4 := by kernel_rfl
end Go.Proofs.YtkpjkbkglnabiaaDoor
