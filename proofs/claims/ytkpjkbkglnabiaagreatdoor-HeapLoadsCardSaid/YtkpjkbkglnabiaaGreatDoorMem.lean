/- Words for memory: a block known whole, rows of the call's own at a known place, the heap of the program and that of the document. -/
import Derived.Test.YtkpjkbkglnabiaaGreatDoorBase
import Derived.Test.YtkpjkbkglnabiaaGreatDoorProg
namespace Go.Proofs.YtkpjkbkglnabiaaGreatDoor
open Go.RowKit

def Blk (w : World) (g : Nat) (t : TypeId) (cs : Array Value) : Prop := w.heap[g]? = some (.cells cs t (0, 0))

section
variable {w w' : World} {g : Nat} {t : TypeId} {cs : Array Value}
theorem Blk.lt (h : Blk w g t cs) : g < w.heap.size := by
  rcases Nat.lt_or_ge g w.heap.size with hlt | hge
  · exact hlt
  · unfold Blk at h; rw [Array.getElem?_eq_none hge] at h; cases h
theorem Blk.cell (h : Blk w g t cs) (i : Nat) : w.cell? ⟨g, i, none⟩ = cs[i]? := cell_of_row w g i cs t (0, 0) h
theorem Blk.frozen (h : Blk w g t cs) (i : Nat) : w.frozen? ⟨g, i, none⟩ = false := by
  unfold Blk at h
  simp [World.frozen?, h]
theorem Blk.new (w : World) (t : TypeId) (cs : Array Value) : Blk (w.alloc (.cells cs t)) w.heap.size t cs := heap_alloc_new w _
theorem Blk.drew (h : Blk w g t cs) : Blk w.drew g t cs := h
theorem Blk.drewN (h : Blk w g t cs) (n : Nat) : Blk (w.drewN n) g t cs := h
theorem Blk.alloc (h : Blk w g t cs) (o : Obj) : Blk (w.alloc o) g t cs := (Below.heap_alloc w o g h.lt).trans h
theorem Blk.set_ (h : Blk w g t cs) (i : Nat) (u : Value) : Blk (w.setCell ⟨g, i, none⟩ u) g t (cs.setIfInBounds i u) := by
  unfold Blk at h ⊢
  simp [World.setCell, Array.getElem?_modify, h]
theorem Blk.far (h : Blk w g t cs) {p : Addr} (hp : g ≠ p.block) (u : Value) : Blk (w.setCell p u) g t cs := (Below.heap_setCell w p u g hp).trans h
theorem Blk.same (h : Blk w g t cs) (hs : w'.heap[g]? = w.heap[g]?) : Blk w' g t cs := hs.trans h
theorem Blk.below {B : Nat} (h : Blk w g t cs) (hb : Below B w w') (hg : g < B) : Blk w' g t cs := (hb.block g hg).trans h
theorem Blk.ne_ {g' : Nat} {t' : TypeId} {cs' : Array Value} (h : Blk w g t cs) (h' : Blk w g' t' cs') (hne : t ≠ t') : g ≠ g' := by
  rintro rfl
  unfold Blk at h h'
  rw [h] at h'
  injection h' with h'
  injection h' with _ ht
  exact hne ht
end

section
variable {w w' : World} {g : Nat} {t : TypeId}
theorem Blk.fz {cs : Array Value} (h : Blk w g t cs) : ∀ i, w.frozen? ⟨g, i, none⟩ = false := fun i => h.frozen i
theorem Blk.setAll5 {a b c d e : Value} (h : Blk w g t #[a, b, c, d, e]) (x0 x1 x2 x3 x4 : Value) :
    Blk (((((w.setCell ⟨g, 0, none⟩ x0).setCell ⟨g, 1, none⟩ x1).setCell ⟨g, 2, none⟩ x2).setCell ⟨g, 3, none⟩ x3).setCell ⟨g, 4, none⟩ x4) g t #[x0, x1, x2, x3, x4] :=
  ((((h.set_ 0 x0).set_ 1 x1).set_ 2 x2).set_ 3 x3).set_ 4 x4
theorem Blk.setAll3 {a b c : Value} (h : Blk w g t #[a, b, c]) (x0 x1 x2 : Value) :
    Blk (((w.setCell ⟨g, 0, none⟩ x0).setCell ⟨g, 1, none⟩ x1).setCell ⟨g, 2, none⟩ x2) g t #[x0, x1, x2] :=
  ((h.set_ 0 x0).set_ 1 x1).set_ 2 x2
theorem Blk.cells3 {a b c : Value} (h : Blk w g t #[a, b, c]) : w.cell? ⟨g, 0, none⟩ = some a ∧ w.cell? ⟨g, 1, none⟩ = some b ∧ w.cell? ⟨g, 2, none⟩ = some c := ⟨h.cell 0, h.cell 1, h.cell 2⟩
theorem Blk.cells5 {a b c d e : Value} (h : Blk w g t #[a, b, c, d, e]) :
    w.cell? ⟨g, 0, none⟩ = some a ∧ w.cell? ⟨g, 1, none⟩ = some b ∧ w.cell? ⟨g, 2, none⟩ = some c ∧ w.cell? ⟨g, 3, none⟩ = some d ∧ w.cell? ⟨g, 4, none⟩ = some e := ⟨h.cell 0, h.cell 1, h.cell 2, h.cell 3, h.cell 4⟩
end

/-- Block g is a row of element type e, unfrozen, of c cells of which the first are xs. -/
def Row (w : World) (g : Nat) (e : TypeId) (c : Nat) (xs : List Value) : Prop :=
  ∃ cur, Blk w g e cur ∧ xs.length ≤ c ∧ c ≤ maxLen ∧ cur.size = c ∧ cur.toList.take xs.length = xs

section
variable {w w' : World} {g c : Nat} {e : TypeId} {xs : List Value}
theorem Row.lt (h : Row w g e c xs) : g < w.heap.size := by obtain ⟨_, h, _⟩ := h; exact h.lt
theorem Row.same (h : Row w g e c xs) (hs : w'.heap[g]? = w.heap[g]?) : Row w' g e c xs := by
  obtain ⟨cur, h, r⟩ := h
  exact ⟨cur, h.same hs, r⟩
theorem Row.owns (h : Row w g e c xs) : w.ownsRow 0 e 1 (.slice (some ⟨g, 0, none⟩) xs.length c) xs.length xs := by
  obtain ⟨cur, hb, hl, hm, hc, hx⟩ := h
  exact ⟨by simp, .inr ⟨g, c, cur, rfl, Nat.zero_le _, hb, hl, hm, by simpa using hc, by simpa using hx⟩⟩
theorem Row.of_owns {base n : Nat} (h : w.ownsRow base e 1 (.slice (some ⟨g, 0, none⟩) n c) n xs) : Row w g e c xs ∧ xs.length = n ∧ base ≤ g := by
  obtain ⟨h1, h2⟩ := h
  simp only [Nat.mul_one] at h1
  subst h1
  rcases h2 with ⟨h2, _⟩ | ⟨g', cap, cur, hv, hg, hh, h3, h4, h5, h6⟩
  · cases h2
  · injection hv with hv1 hv2 hv3
    injection hv1 with hv1
    injection hv1 with hv1
    subst hv1 hv3
    exact ⟨⟨cur, hh, h3, h4, by simpa using h5, by simpa using h6⟩, rfl, hg⟩
theorem Row.cell (h : Row w g e c xs) {i : Nat} {u : Value} (hi : xs[i]? = some u) : w.cell? ⟨g, i, none⟩ = some u := by
  obtain ⟨cur, hb, hl, hm, hc, hx⟩ := h
  rw [hb.cell]
  rw [← hx, List.getElem?_take] at hi
  split at hi
  · simpa using hi
  · cases hi
theorem Row.frozen (h : Row w g e c xs) (i : Nat) : w.frozen? ⟨g, i, none⟩ = false := by obtain ⟨cur, hb, _⟩ := h; exact hb.frozen i
theorem Row.reads (h : Row w g e c xs) {B : Nat} (hB : g < B) : Reads w B 1 (some ⟨g, 0, none⟩) xs.length xs :=
  ⟨by simp, fun _ => ⟨_, rfl, hB, fun j u hu => by rw [WideShapes.add_plain, Nat.zero_add]; exact h.cell hu⟩⟩
theorem Row.set (h : Row w g e c xs) (i : Nat) (u : Value) : Row (w.setCell ⟨g, i, none⟩ u) g e c (xs.set i u) := by
  obtain ⟨cur, hb, hl, hm, hc, hx⟩ := h
  refine ⟨_, hb.set_ i u, by simpa using hl, hm, by simpa using hc, ?_⟩
  rw [Array.toList_setIfInBounds, List.length_set, List.take_set, hx]
theorem Row.far (h : Row w g e c xs) {p : Addr} (hp : g ≠ p.block) (u : Value) : Row (w.setCell p u) g e c xs := h.same (Below.heap_setCell w p u g hp)
theorem Row.alloc (h : Row w g e c xs) (o : Obj) : Row (w.alloc o) g e c xs := h.same (Below.heap_alloc w o g h.lt)
theorem Row.below (h : Row w g e c xs) (hb : Below w.heap.size w w') : Row w' g e c xs := h.same (hb.block g h.lt)
theorem Row.ne_ {g' : Nat} {t' : TypeId} {c' : Nat} {ys : List Value} (h : Row w g e c xs) (h' : Row w g' t' c' ys) (hne : e ≠ t') : g ≠ g' := by
  obtain ⟨_, h, _⟩ := h
  obtain ⟨_, h', _⟩ := h'
  exact h.ne_ h' hne
theorem Row.ne_blk {g' : Nat} {t' : TypeId} {cs : Array Value} (h : Row w g e c xs) (h' : Blk w g' t' cs) (hne : e ≠ t') : g ≠ g' := by
  obtain ⟨_, h, _⟩ := h
  exact h.ne_ h' hne
end

theorem below_drewN {B : Nat} {a w : World} (h : Below B a w) (n : Nat) : Below B a (w.drewN n) := ⟨h.os, h.tape, h.output, h.size, h.block⟩
theorem below_top {w w1 w2 : World} (h : Below w.heap.size w w1) (h2 : Below w1.heap.size w1 w2) : Below w.heap.size w w2 := h.trans (h2.mono h.size)

end Go.Proofs.YtkpjkbkglnabiaaGreatDoor
