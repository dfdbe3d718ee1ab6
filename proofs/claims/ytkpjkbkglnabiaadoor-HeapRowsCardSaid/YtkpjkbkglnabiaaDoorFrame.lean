/- A heap and rows of the call's own, each in a block of its own: what stays when one row turns. -/
import Derived.Test.YtkpjkbkglnabiaaDoorBegun
set_option linter.unusedVariables false
namespace Go.Proofs.YtkpjkbkglnabiaaDoor
open Go.RowKit

/-- A row of the call's own: block, element type, capacity, what it reads. -/
structure Rw where
  g : Nat
  e : TypeId
  c : Nat
  xs : List Value
/-- The heap and the rows l, all new since W, no two in one place. -/
structure Fr (W w : World) (p : HP) (g : Nat) (h : HM) (l : List Rw) : Prop where
  live : Live W w p g h
  rows : ∀ r ∈ l, Row w r.g r.e r.c r.xs ∧ ¬ p.has r.g ∧ W.heap.size ≤ r.g
  nodup : (l.map (·.g)).Nodup
section
variable {W w w' : World} {p p' : HP} {g : Nat} {h h' : HM} {l : List Rw}
theorem Fr.start (L : Live W w p g h) : Fr W w p g h [] := ⟨L, (fun r hr => by cases hr), List.nodup_nil⟩
theorem Fr.below (F : Fr W w p g h l) (hb : Below w.heap.size w w') : Fr W w' p g h l :=
  ⟨F.live.after hb, (fun r hr => ⟨(F.rows r hr).1.below hb, (F.rows r hr).2⟩), F.nodup⟩
theorem Fr.add (F : Fr W w p g h l) {r : Rw} (hr : Row w r.g r.e r.c r.xs) (hp : ¬ p.has r.g) (hw : W.heap.size ≤ r.g) (hd : ∀ x ∈ l, x.g ≠ r.g) : Fr W w p g h (r :: l) :=
  ⟨F.live, (fun x hx => by
    rcases List.mem_cons.1 hx with rfl | hx
    · exact ⟨hr, hp, hw⟩
    · exact F.rows x hx), by
    rw [List.map_cons, List.nodup_cons]
    exact ⟨fun hm => by obtain ⟨x, hx, e⟩ := List.mem_map.1 hm; exact hd x hx e, F.nodup⟩⟩
/-- A new row: it was not there ahead of w0. -/
theorem Fr.new {w0 : World} {e : TypeId} {xs : List Value} {gr c : Nat} (F : Fr W w0 p g h l) (hr : Row w gr e c xs) (hg : w0.heap.size ≤ gr) (hb : Below w0.heap.size w0 w) : Fr W w p g h (⟨gr, e, c, xs⟩ :: l) :=
  (F.below hb).add hr (fun hh => by have := F.live.at_.lt hh; simp only at this; omega) (Nat.le_trans F.live.below.size hg) (fun x hx => by have := (F.rows x hx).1.lt; simp only; omega)
theorem Fr.step (F : Fr W w p g h l) (L : Live W w' p' g h') (s : Step p p' w w') : Fr W w' p' g h' l :=
  ⟨L, (fun r hr => by
    obtain ⟨h1, h2, h3⟩ := F.rows r hr
    obtain ⟨k1, k2⟩ := s.row h1 h2
    exact ⟨k1, k2, h3⟩), F.nodup⟩
/-- A block k that is none of these turns. -/
theorem Fr.turn {k : Nat} (F : Fr W w p g h l) (hg : w.grownBy w' (some k)) (hp : ¬ p.has k) (hw : W.heap.size ≤ k) (hk : ∀ r ∈ l, r.g ≠ k) : Fr W w' p g h l :=
  ⟨F.live.grown hg (fun q hq => by cases hq; exact ⟨hp, hw⟩), (fun r hr => by
    obtain ⟨h1, h2⟩ := F.rows r hr
    exact ⟨h1.same (hg.block _ h1.lt (fun e => by injection e with e; exact hk r hr e)), h2⟩), F.nodup⟩
theorem Fr.tail {r : Rw} (F : Fr W w p g h (r :: l)) : Fr W w p g h l := ⟨F.live, (fun x hx => F.rows x (List.mem_cons_of_mem _ hx)), by have := F.nodup; rw [List.map_cons, List.nodup_cons] at this; exact this.2⟩
theorem Fr.head {r : Rw} (F : Fr W w p g h (r :: l)) : Row w r.g r.e r.c r.xs ∧ ¬ p.has r.g ∧ W.heap.size ≤ r.g ∧ ∀ x ∈ l, x.g ≠ r.g := by
  obtain ⟨h1, h2, h3⟩ := F.rows r (List.mem_cons_self ..)
  refine ⟨h1, h2, h3, fun x hx e => ?_⟩
  have := F.nodup
  rw [List.map_cons, List.nodup_cons] at this
  exact this.1 (List.mem_map.2 ⟨x, hx, e⟩)
/-- The head row turns: it is overwritten in place, or it has grown into a new block. -/
theorem Fr.re {r r' : Rw} (F : Fr W w p g h (r :: l)) (hg : w.grownBy w' (some r.g)) (hr : Row w' r'.g r'.e r'.c r'.xs) (hat : r'.g = r.g ∨ w.heap.size ≤ r'.g) : Fr W w' p g h (r' :: l) := by
  obtain ⟨h1, h2, h3, h4⟩ := F.head
  refine (F.tail.turn hg h2 h3 h4).add hr ?_ ?_ ?_
  · rcases hat with e | e
    · rw [e]; exact h2
    · intro hh; have := F.live.at_.lt hh; omega
  · rcases hat with e | e
    · rw [e]; exact h3
    · exact Nat.le_trans F.live.below.size e
  · intro x hx
    rcases hat with e | e
    · rw [e]; exact h4 x hx
    · have := (F.tail.rows x hx).1.lt; omega
theorem Fr.perm {l' : List Rw} (F : Fr W w p g h l) (hp : l.Perm l') : Fr W w p g h l' :=
  ⟨F.live, (fun r hr => F.rows r (hp.mem_iff.2 hr)), (hp.map _).nodup_iff.1 F.nodup⟩
theorem Fr.swap {a b : Rw} (F : Fr W w p g h (a :: b :: l)) : Fr W w p g h (b :: a :: l) := F.perm (List.Perm.swap b a l)
theorem Fr.drew (F : Fr W w p g h l) : Fr W w.drew p g h l := F.below (below_drew (Below.refl _ _))
theorem grownBy_set (w : World) (k i : Nat) (u : Value) : w.grownBy (w.setCell ⟨k, i, none⟩ u) (some k) :=
  ⟨rfl, rfl, rfl, by simp [World.setCell], fun j _ hj => Below.heap_setCell w ⟨k, i, none⟩ u j (fun e => hj (by rw [e]))⟩
theorem Fr.put {r : Rw} (F : Fr W w p g h (r :: l)) (i : Nat) (u : Value) : Fr W (w.setCell ⟨r.g, i, none⟩ u) p g h (⟨r.g, r.e, r.c, r.xs.set i u⟩ :: l) :=
  F.re (r' := ⟨r.g, r.e, r.c, r.xs.set i u⟩) (grownBy_set w r.g i u) (F.head.1.set i u) (.inl rfl)
/-- A cell of a row of its own is written. -/
theorem Fr.set {k : Nat} (F : Fr W w p g h l) (i : Nat) (u : Value) (hp : ¬ p.has k) (hw : W.heap.size ≤ k) (hk : ∀ r ∈ l, r.g ≠ k) : Fr W (w.setCell ⟨k, i, none⟩ u) p g h l :=
  F.turn (grownBy_set w k i u) hp hw hk
end

/-- A row that was made out of a row: never nil. -/
theorem Row.of_block {w : World} {base e n : Nat} {v : Value} {xs : List Value} (h : w.ownsRow base e 1 v n xs) (hb : v.ownBlock ≠ none) : ∃ g c, v = .slice (some ⟨g, 0, none⟩) n c ∧ Row w g e c xs ∧ xs.length = n ∧ base ≤ g := by
  have h0 := h
  rcases h.2 with ⟨rfl, _⟩ | ⟨g, cap, cur, rfl, _⟩
  · exact absurd rfl hb
  · obtain ⟨h1, h2, h3⟩ := Row.of_owns h0
    exact ⟨g, cap, rfl, h1, h2, h3⟩
end Go.Proofs.YtkpjkbkglnabiaaDoor
