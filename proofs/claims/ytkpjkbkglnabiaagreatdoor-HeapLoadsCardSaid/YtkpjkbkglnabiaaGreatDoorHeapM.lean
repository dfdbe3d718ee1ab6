/- The heap as plain data (words, where objects begin, roots), and what its memory looks like in the program and in the document's text. -/
import Derived.Test.YtkpjkbkglnabiaaGreatDoorMem
namespace Go.Proofs.YtkpjkbkglnabiaaGreatDoor
open Go.RowKit

structure HM where
  size : Nat
  words : List Nat
  starts : List Bool
  roots : List Nat
  last : Nat

def u32s (l : List Nat) : List Value := l.map fun x : Nat => .int .u32 (x : Int)
def u8c (l : List Nat) : List Value := l.map fun x : Nat => .int .u8 (x : Int)
def bools (l : List Bool) : List Value := l.map Value.bool
def begins (l : List Bool) : List Value := l.map fun b => .int .u8 (if b then 1 else 0)
theorem u32s_len (l : List Nat) : (u32s l).length = l.length := by simp [u32s]
theorem bools_len (l : List Bool) : (bools l).length = l.length := by simp [bools]
theorem begins_len (l : List Bool) : (begins l).length = l.length := by simp [begins]
theorem u32s_get {l : List Nat} {i : Nat} (h : i < l.length) : (u32s l)[i]? = some (.int .u32 ((l.getD i 0 : Nat) : Int)) := by
  simp [u32s, List.getD, h]
theorem bools_get {l : List Bool} {i : Nat} (h : i < l.length) : (bools l)[i]? = some (.bool (l.getD i false)) := by
  simp [bools, List.getD, h]
theorem begins_get {l : List Bool} {i : Nat} (h : i < l.length) : (begins l)[i]? = some (.int .u8 (if l.getD i false then 1 else 0)) := by
  simp [begins, List.getD, h]

/-- Where a heap lies: its struct; the rows of words, marks and roots, with their capacities. -/
structure HP where
  g : Nat
  gw : Nat
  cw : Nat
  gs : Nat
  cs : Nat
  gr : Nat
  cr : Nat

def sl (g n c : Nat) : Value := .slice (some ⟨g, 0, none⟩) n c

/-- The program's heap. -/
def HAt (w : World) (p : HP) (h : HM) : Prop :=
  Blk w p.g 91 #[.slice (some ⟨p.gw, 0, none⟩) h.words.length p.cw, .slice (some ⟨p.gs, 0, none⟩) h.starts.length p.cs, .slice (some ⟨p.gr, 0, none⟩) h.roots.length p.cr, .int .i64 h.size, .int .u32 h.last] ∧
  Row w p.gw 29 p.cw (u32s h.words) ∧ Row w p.gs 4 p.cs (bools h.starts) ∧ Row w p.gr 30 p.cr (u32s h.roots)

/-- The document's heap. -/
def RAt (w : World) (p : HP) (h : HM) : Prop :=
  Blk w p.g 93 #[.int .i64 h.size, .slice (some ⟨p.gw, 0, none⟩) h.words.length p.cw, .slice (some ⟨p.gr, 0, none⟩) h.roots.length p.cr, .int .u32 h.last, .slice (some ⟨p.gs, 0, none⟩) h.starts.length p.cs] ∧
  Row w p.gw 29 p.cw (u32s h.words) ∧ Row w p.gs 5 p.cs (begins h.starts) ∧ Row w p.gr 30 p.cr (u32s h.roots)

def HP.has (p : HP) (k : Nat) : Prop := k = p.g ∨ k = p.gw ∨ k = p.gs ∨ k = p.gr

section
variable {w w' : World} {p : HP} {h : HM}
theorem HAt.lt (H : HAt w p h) {k : Nat} (hk : p.has k) : k < w.heap.size := by
  obtain ⟨hb, hw, hs, hr⟩ := H
  rcases hk with rfl | rfl | rfl | rfl
  · exact hb.lt
  · exact hw.lt
  · exact hs.lt
  · exact hr.lt
theorem RAt.lt (H : RAt w p h) {k : Nat} (hk : p.has k) : k < w.heap.size := by
  obtain ⟨hb, hw, hs, hr⟩ := H
  rcases hk with rfl | rfl | rfl | rfl
  · exact hb.lt
  · exact hw.lt
  · exact hs.lt
  · exact hr.lt
theorem HAt.same (H : HAt w p h) (hs : ∀ k, p.has k → w'.heap[k]? = w.heap[k]?) : HAt w' p h := by
  obtain ⟨hb, hw, hs', hr⟩ := H
  exact ⟨hb.same (hs _ (.inl rfl)), hw.same (hs _ (.inr (.inl rfl))), hs'.same (hs _ (.inr (.inr (.inl rfl)))), hr.same (hs _ (.inr (.inr (.inr rfl))))⟩
theorem RAt.same (H : RAt w p h) (hs : ∀ k, p.has k → w'.heap[k]? = w.heap[k]?) : RAt w' p h := by
  obtain ⟨hb, hw, hs', hr⟩ := H
  exact ⟨hb.same (hs _ (.inl rfl)), hw.same (hs _ (.inr (.inl rfl))), hs'.same (hs _ (.inr (.inr (.inl rfl)))), hr.same (hs _ (.inr (.inr (.inr rfl))))⟩
theorem HAt.below (H : HAt w p h) (hb : Below w.heap.size w w') : HAt w' p h := H.same fun k hk => hb.block k (H.lt hk)
theorem RAt.below (H : RAt w p h) (hb : Below w.heap.size w w') : RAt w' p h := H.same fun k hk => hb.block k (H.lt hk)
end

/-- What a deed on a heap at p does to memory: other old blocks are as they were; the heap's rows stay or are new. -/
structure Step (p p' : HP) (w w' : World) : Prop where
  os : w'.os = w.os
  tape : w'.tape = w.tape
  output : w'.output = w.output
  size : w.heap.size ≤ w'.heap.size
  block : ∀ k, k < w.heap.size → ¬ p.has k → w'.heap[k]? = w.heap[k]?
  g : p'.g = p.g
  rows : ∀ k, p'.has k → p.has k ∨ w.heap.size ≤ k

theorem Step.of_below {p : HP} {w w' : World} (hb : Below w.heap.size w w') : Step p p w w' :=
  ⟨hb.os, hb.tape, hb.output, hb.size, fun k hk _ => hb.block k hk, rfl, fun _ hk => .inl hk⟩
theorem Step.refl (p : HP) (w : World) : Step p p w w := .of_below (Below.refl _ _)
theorem Step.trans {p p' p'' : HP} {w w' w'' : World} (a : Step p p' w w') (b : Step p' p'' w' w'') : Step p p'' w w'' := by
  refine ⟨b.os.trans a.os, b.tape.trans a.tape, b.output.trans a.output, Nat.le_trans a.size b.size, fun k hk hn => ?_, b.g.trans a.g, fun k hk => ?_⟩
  · rw [b.block k (by have := a.size; omega) (fun hp => ?_), a.block k hk hn]
    rcases a.rows k hp with h | h
    · exact hn h
    · omega
  · rcases b.rows k hk with h | h
    · exact a.rows k h
    · exact .inr (by have := a.size; omega)
/-- A step on a heap that is all new (since W) leaves W's blocks alone. -/
theorem Step.below {p p' : HP} {W w w' : World} (h : Below W.heap.size W w) (a : Step p p' w w') (hp : ∀ k, p.has k → W.heap.size ≤ k) : Below W.heap.size W w' :=
  ⟨a.os.trans h.os, a.tape.trans h.tape, a.output.trans h.output, Nat.le_trans h.size a.size, fun k hk => (a.block k (by have := h.size; omega) (fun hh => by have := hp k hh; omega)).trans (h.block k hk)⟩


/-- Bounds of a heap's parts. -/
structure HM.Fit (h : HM) : Prop where
  lo : 64 ≤ h.size
  hi : h.size ≤ 1048576
  one : 1 ≤ h.words.length
  room : h.words.length ≤ h.size
  marks : h.starts.length = h.words.length
  roots : h.roots.length = 64
  w32 : ∀ x ∈ h.words, x < 4294967296
  r32 : ∀ x ∈ h.roots, x < 4294967296
  l32 : h.last < 4294967296

def ptr (g : Nat) : Value := .pointer (some ⟨g, 0, none⟩)

section
variable {w : World} {p : HP} {h : HM}
theorem HAt.c0 (H : HAt w p h) : w.cell? ⟨p.g, 0, none⟩ = some (.slice (some ⟨p.gw, 0, none⟩) h.words.length p.cw) := H.1.cell 0
theorem HAt.c1 (H : HAt w p h) : w.cell? ⟨p.g, 1, none⟩ = some (.slice (some ⟨p.gs, 0, none⟩) h.starts.length p.cs) := H.1.cell 1
theorem HAt.c2 (H : HAt w p h) : w.cell? ⟨p.g, 2, none⟩ = some (.slice (some ⟨p.gr, 0, none⟩) h.roots.length p.cr) := H.1.cell 2
theorem HAt.c3 (H : HAt w p h) : w.cell? ⟨p.g, 3, none⟩ = some (.int .i64 h.size) := H.1.cell 3
theorem HAt.c4 (H : HAt w p h) : w.cell? ⟨p.g, 4, none⟩ = some (.int .u32 h.last) := H.1.cell 4
theorem HAt.word (H : HAt w p h) {i : Nat} (hi : i < h.words.length) : w.cell? ⟨p.gw, i, none⟩ = some (.int .u32 ((h.words.getD i 0 : Nat) : Int)) := H.2.1.cell (u32s_get hi)
theorem HAt.mark (H : HAt w p h) {i : Nat} (hi : i < h.starts.length) : w.cell? ⟨p.gs, i, none⟩ = some (.bool (h.starts.getD i false)) := H.2.2.1.cell (bools_get hi)
theorem HAt.root (H : HAt w p h) {i : Nat} (hi : i < h.roots.length) : w.cell? ⟨p.gr, i, none⟩ = some (.int .u32 ((h.roots.getD i 0 : Nat) : Int)) := H.2.2.2.cell (u32s_get hi)
theorem RAt.c0 (H : RAt w p h) : w.cell? ⟨p.g, 0, none⟩ = some (.int .i64 h.size) := H.1.cell 0
theorem RAt.c1 (H : RAt w p h) : w.cell? ⟨p.g, 1, none⟩ = some (.slice (some ⟨p.gw, 0, none⟩) h.words.length p.cw) := H.1.cell 1
theorem RAt.c2 (H : RAt w p h) : w.cell? ⟨p.g, 2, none⟩ = some (.slice (some ⟨p.gr, 0, none⟩) h.roots.length p.cr) := H.1.cell 2
theorem RAt.c3 (H : RAt w p h) : w.cell? ⟨p.g, 3, none⟩ = some (.int .u32 h.last) := H.1.cell 3
theorem RAt.c4 (H : RAt w p h) : w.cell? ⟨p.g, 4, none⟩ = some (.slice (some ⟨p.gs, 0, none⟩) h.starts.length p.cs) := H.1.cell 4
theorem RAt.word (H : RAt w p h) {i : Nat} (hi : i < h.words.length) : w.cell? ⟨p.gw, i, none⟩ = some (.int .u32 ((h.words.getD i 0 : Nat) : Int)) := H.2.1.cell (u32s_get hi)
theorem RAt.mark (H : RAt w p h) {i : Nat} (hi : i < h.starts.length) : w.cell? ⟨p.gs, i, none⟩ = some (.int .u8 (if h.starts.getD i false then 1 else 0)) := H.2.2.1.cell (begins_get hi)
theorem RAt.root (H : RAt w p h) {i : Nat} (hi : i < h.roots.length) : w.cell? ⟨p.gr, i, none⟩ = some (.int .u32 ((h.roots.getD i 0 : Nat) : Int)) := H.2.2.2.cell (u32s_get hi)
end

theorem HM.Fit.word {h : HM} (f : HM.Fit h) (i : Nat) : h.words.getD i 0 < 4294967296 := by
  rw [List.getD_eq_getElem?_getD]
  cases hi : h.words[i]? with
  | none => simp
  | some x => exact f.w32 x (List.mem_of_getElem? hi)
theorem HM.Fit.root {h : HM} (f : HM.Fit h) (i : Nat) : h.roots.getD i 0 < 4294967296 := by
  rw [List.getD_eq_getElem?_getD]
  cases hi : h.roots[i]? with
  | none => simp
  | some x => exact f.r32 x (List.mem_of_getElem? hi)


section
variable {w w' : World} {p p' : HP} {h : HM}
theorem HAt.setWord (H : HAt w p h) (k v : Nat) : HAt (w.setCell ⟨p.gw, k, none⟩ (.int .u32 v)) p { h with words := h.words.set k v } := by
  obtain ⟨hb, hw, hs, hr⟩ := H
  have n1 : p.g ≠ p.gw := fun e => Row.ne_blk hw hb (by decide) e.symm
  have n2 : p.gs ≠ p.gw := hs.ne_ hw (by decide)
  have n3 : p.gr ≠ p.gw := hr.ne_ hw (by decide)
  refine ⟨?_, ?_, hs.far n2 _, hr.far n3 _⟩
  · have := hb.far (p := ⟨p.gw, k, none⟩) n1 (.int .u32 v)
    simpa using this
  · have := hw.set k (.int .u32 v)
    simpa [u32s] using this
theorem HAt.setRoot (H : HAt w p h) (k v : Nat) : HAt (w.setCell ⟨p.gr, k, none⟩ (.int .u32 v)) p { h with roots := h.roots.set k v } := by
  obtain ⟨hb, hw, hs, hr⟩ := H
  have n1 : p.g ≠ p.gr := fun e => Row.ne_blk hr hb (by decide) e.symm
  have n2 : p.gs ≠ p.gr := hs.ne_ hr (by decide)
  have n3 : p.gw ≠ p.gr := hw.ne_ hr (by decide)
  refine ⟨?_, hw.far n3 _, hs.far n2 _, ?_⟩
  · have := hb.far (p := ⟨p.gr, k, none⟩) n1 (.int .u32 v)
    simpa using this
  · have := hr.set k (.int .u32 v)
    simpa [u32s] using this
theorem RAt.setWord (H : RAt w p h) (k v : Nat) : RAt (w.setCell ⟨p.gw, k, none⟩ (.int .u32 v)) p { h with words := h.words.set k v } := by
  obtain ⟨hb, hw, hs, hr⟩ := H
  have n1 : p.g ≠ p.gw := fun e => Row.ne_blk hw hb (by decide) e.symm
  have n2 : p.gs ≠ p.gw := hs.ne_ hw (by decide)
  have n3 : p.gr ≠ p.gw := hr.ne_ hw (by decide)
  refine ⟨?_, ?_, hs.far n2 _, hr.far n3 _⟩
  · have := hb.far (p := ⟨p.gw, k, none⟩) n1 (.int .u32 v)
    simpa using this
  · have := hw.set k (.int .u32 v)
    simpa [u32s] using this
theorem RAt.setRoot (H : RAt w p h) (k v : Nat) : RAt (w.setCell ⟨p.gr, k, none⟩ (.int .u32 v)) p { h with roots := h.roots.set k v } := by
  obtain ⟨hb, hw, hs, hr⟩ := H
  have n1 : p.g ≠ p.gr := fun e => Row.ne_blk hr hb (by decide) e.symm
  have n2 : p.gs ≠ p.gr := hs.ne_ hr (by decide)
  have n3 : p.gw ≠ p.gr := hw.ne_ hr (by decide)
  refine ⟨?_, hw.far n3 _, hs.far n2 _, ?_⟩
  · have := hb.far (p := ⟨p.gr, k, none⟩) n1 (.int .u32 v)
    simpa using this
  · have := hr.set k (.int .u32 v)
    simpa [u32s] using this
theorem Step.setCell (s : Step p p' w w') {a : Addr} (ha : p.has a.block ∨ w.heap.size ≤ a.block) (u : Value) : Step p p' w (w'.setCell a u) :=
  ⟨s.os, s.tape, s.output, by simpa [World.setCell] using s.size, fun k hk hn => (Below.heap_setCell w' a u k (fun e => by
    subst e; rcases ha with ha | ha
    · exact hn ha
    · omega)).trans (s.block k hk hn), s.g, s.rows⟩
theorem Step.alloc (s : Step p p' w w') (o : Obj) : Step p p' w (w'.alloc o) :=
  ⟨s.os, s.tape, s.output, Nat.le_trans s.size (by simp), fun k hk hn => (Below.heap_alloc w' o k (by have := s.size; omega)).trans (s.block k hk hn), s.g, s.rows⟩
theorem Step.drew (s : Step p p' w w') : Step p p' w w'.drew := ⟨s.os, s.tape, s.output, s.size, s.block, s.g, s.rows⟩
theorem Step.drewN (s : Step p p' w w') (n : Nat) : Step p p' w (w'.drewN n) := ⟨s.os, s.tape, s.output, s.size, s.block, s.g, s.rows⟩
theorem Step.below' (s : Step p p' w w') {w2 : World} (hb : Below w'.heap.size w' w2) : Step p p' w w2 := s.trans (.of_below hb)
end

section
variable {w w1 : World} {p : HP} {h : HM}
/-- The words' row was appended to, and the field holds the new slice. -/
theorem HAt.grewWords (H : HAt w p h) {g1 c1 : Nat} {ys : List Nat} (hr : Row w1 g1 29 c1 (u32s (h.words ++ ys))) (hg : w.grownBy w1 (some p.gw)) (hat : g1 = p.gw ∨ w.heap.size ≤ g1) :
    HAt (w1.setCell ⟨p.g, 0, none⟩ (.slice (some ⟨g1, 0, none⟩) (h.words ++ ys).length c1)) { p with gw := g1, cw := c1 } { h with words := h.words ++ ys } ∧
    Step p { p with gw := g1, cw := c1 } w (w1.setCell ⟨p.g, 0, none⟩ (.slice (some ⟨g1, 0, none⟩) (h.words ++ ys).length c1)) := by
  have Hl := @HAt.lt _ _ _ H
  obtain ⟨hb, hw, hs, hrt⟩ := H
  have n1 : p.g ≠ p.gw := fun e => Row.ne_blk hw hb (by decide) e.symm
  have n2 : p.gs ≠ p.gw := hs.ne_ hw (by decide)
  have n3 : p.gr ≠ p.gw := hrt.ne_ hw (by decide)
  have hb1 := hb.same (hg.block p.g hb.lt (by simpa using n1))
  have hs1 := hs.same (hg.block p.gs hs.lt (by simpa using n2))
  have hr1 := hrt.same (hg.block p.gr hrt.lt (by simpa using n3))
  refine ⟨⟨hb1.set_ 0 _, hr.far (fun e => Row.ne_blk hr hb1 (by decide) e) _, hs1.far (fun e => Row.ne_blk hs1 hb1 (by decide) e) _, hr1.far (fun e => Row.ne_blk hr1 hb1 (by decide) e) _⟩, ?_⟩
  have s1 : Step p { p with gw := g1, cw := c1 } w w1 := ⟨hg.os, hg.tape, hg.output, hg.size, fun k hk hn => hg.block k hk (by
    intro e; injection e with e; exact hn (.inr (.inl e))), rfl, by
    rintro k (hk | hk | hk | hk)
    · exact .inl (.inl hk)
    · rcases hat with e | e
      · exact .inl (.inr (.inl (hk.trans e)))
      · exact .inr (hk ▸ e)
    · exact .inl (.inr (.inr (.inl hk)))
    · exact .inl (.inr (.inr (.inr hk)))⟩
  exact s1.setCell (.inl (.inl rfl)) _
theorem HAt.grewStarts (H : HAt w p h) {g1 c1 : Nat} {ys : List Bool} (hr : Row w1 g1 4 c1 (bools (h.starts ++ ys))) (hg : w.grownBy w1 (some p.gs)) (hat : g1 = p.gs ∨ w.heap.size ≤ g1) :
    HAt (w1.setCell ⟨p.g, 1, none⟩ (.slice (some ⟨g1, 0, none⟩) (h.starts ++ ys).length c1)) { p with gs := g1, cs := c1 } { h with starts := h.starts ++ ys } ∧
    Step p { p with gs := g1, cs := c1 } w (w1.setCell ⟨p.g, 1, none⟩ (.slice (some ⟨g1, 0, none⟩) (h.starts ++ ys).length c1)) := by
  obtain ⟨hb, hw, hs, hrt⟩ := H
  have n1 : p.g ≠ p.gs := fun e => Row.ne_blk hs hb (by decide) e.symm
  have n2 : p.gw ≠ p.gs := hw.ne_ hs (by decide)
  have n3 : p.gr ≠ p.gs := hrt.ne_ hs (by decide)
  have hb1 := hb.same (hg.block p.g hb.lt (by simpa using n1))
  have hw1 := hw.same (hg.block p.gw hw.lt (by simpa using n2))
  have hr1 := hrt.same (hg.block p.gr hrt.lt (by simpa using n3))
  refine ⟨⟨hb1.set_ 1 _, hw1.far (fun e => Row.ne_blk hw1 hb1 (by decide) e) _, hr.far (fun e => Row.ne_blk hr hb1 (by decide) e) _, hr1.far (fun e => Row.ne_blk hr1 hb1 (by decide) e) _⟩, ?_⟩
  have s1 : Step p { p with gs := g1, cs := c1 } w w1 := ⟨hg.os, hg.tape, hg.output, hg.size, fun k hk hn => hg.block k hk (by
    intro e; injection e with e; exact hn (.inr (.inr (.inl e)))), rfl, by
    rintro k (hk | hk | hk | hk)
    · exact .inl (.inl hk)
    · exact .inl (.inr (.inl hk))
    · rcases hat with e | e
      · exact .inl (.inr (.inr (.inl (hk.trans e))))
      · exact .inr (hk ▸ e)
    · exact .inl (.inr (.inr (.inr hk)))⟩
  exact s1.setCell (.inl (.inl rfl)) _
theorem HAt.setMark (H : HAt w p h) (k : Nat) (v : Bool) : HAt (w.setCell ⟨p.gs, k, none⟩ (.bool v)) p { h with starts := h.starts.set k v } := by
  obtain ⟨hb, hw, hs, hr⟩ := H
  have n1 : p.g ≠ p.gs := fun e => Row.ne_blk hs hb (by decide) e.symm
  have n2 : p.gw ≠ p.gs := hw.ne_ hs (by decide)
  have n3 : p.gr ≠ p.gs := hr.ne_ hs (by decide)
  refine ⟨?_, hw.far n2 _, ?_, hr.far n3 _⟩
  · have := hb.far (p := ⟨p.gs, k, none⟩) n1 (.bool v)
    simpa using this
  · have := hs.set k (.bool v)
    simpa [bools] using this
theorem HAt.setLast (H : HAt w p h) (v : Nat) : HAt (w.setCell ⟨p.g, 4, none⟩ (.int .u32 v)) p { h with last := v } := by
  obtain ⟨hb, hw, hs, hr⟩ := H
  exact ⟨hb.set_ 4 _, hw.far (fun e => Row.ne_blk hw hb (by decide) e) _, hs.far (fun e => Row.ne_blk hs hb (by decide) e) _, hr.far (fun e => Row.ne_blk hr hb (by decide) e) _⟩
theorem RAt.setLast (H : RAt w p h) (v : Nat) : RAt (w.setCell ⟨p.g, 3, none⟩ (.int .u32 v)) p { h with last := v } := by
  obtain ⟨hb, hw, hs, hr⟩ := H
  exact ⟨hb.set_ 3 _, hw.far (fun e => Row.ne_blk hw hb (by decide) e) _, hs.far (fun e => Row.ne_blk hs hb (by decide) e) _, hr.far (fun e => Row.ne_blk hr hb (by decide) e) _⟩
theorem HAt.drew (H : HAt w p h) : HAt w.drew p h := H
theorem HAt.drewN (H : HAt w p h) (n : Nat) : HAt (w.drewN n) p h := H
theorem RAt.drew (H : RAt w p h) : RAt w.drew p h := H
theorem RAt.drewN (H : RAt w p h) (n : Nat) : RAt (w.drewN n) p h := H
end
end Go.Proofs.YtkpjkbkglnabiaaGreatDoor
