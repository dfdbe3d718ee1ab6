/- Two heaps side by side: the program's, and the document's. -/
import Derived.Test.YtlkahgagmfhdaaaGreatDoorJLive
import Derived.Test.YtlkahgagmfhdaaaGreatDoorJHdF
import Derived.Test.YtlkahgagmfhdaaaGreatDoorJAll
import Derived.Test.YtlkahgagmfhdaaaGreatDoorJAwake
set_option linter.unusedVariables false
namespace Go.Proofs.YtlkahgagmfhdaaaGreatDoor
open Go.RowKit

structure Two (W w : World) (p : HP) (g : Nat) (q : HP) (k : Nat) (a b : HM) : Prop where
  live : Live W w p g a
  doc : RAt w q b
  hk : q.g = k
  qnew : ∀ j, q.has j → W.heap.size ≤ j
  apart : ∀ j, q.has j → ¬ p.has j
/-- What a deed with both does to memory. -/
structure Step2 (p q p' q' : HP) (w w' : World) : Prop where
  os : w'.os = w.os
  tape : w'.tape = w.tape
  output : w'.output = w.output
  size : w.heap.size ≤ w'.heap.size
  block : ∀ j, j < w.heap.size → ¬ p.has j → ¬ q.has j → w'.heap[j]? = w.heap[j]?
  prows : ∀ j, p'.has j → p.has j ∨ w.heap.size ≤ j
  qrows : ∀ j, q'.has j → q.has j ∨ w.heap.size ≤ j
section
variable {W w w' w'' : World} {p q p' q' p'' q'' : HP} {g k : Nat} {a b a' b' : HM}
theorem Step2.refl (p q : HP) (w : World) : Step2 p q p q w w := ⟨rfl, rfl, rfl, Nat.le_refl _, fun _ _ _ _ => rfl, fun _ h => .inl h, fun _ h => .inl h⟩
theorem Step2.of_left (s : Step p p' w w') : Step2 p q p' q w w' := ⟨s.os, s.tape, s.output, s.size, fun j hj hp _ => s.block j hj hp, s.rows, fun _ h => .inl h⟩
theorem Step2.of_right (s : Step q q' w w') : Step2 p q p q' w w' := ⟨s.os, s.tape, s.output, s.size, fun j hj _ hq => s.block j hj hq, fun _ h => .inl h, s.rows⟩
theorem Step2.of_below (hb : Below w.heap.size w w') : Step2 p q p q w w' := .of_left (.of_below hb)
theorem Step2.trans (s : Step2 p q p' q' w w') (t : Step2 p' q' p'' q'' w' w'') : Step2 p q p'' q'' w w'' :=
  ⟨t.os.trans s.os, t.tape.trans s.tape, t.output.trans s.output, Nat.le_trans s.size t.size, fun j hj hp hq =>
    (t.block j (Nat.lt_of_lt_of_le hj s.size) (fun h => (s.prows j h).elim hp (fun h => by omega)) (fun h => (s.qrows j h).elim hq (fun h => by omega))).trans (s.block j hj hp hq),
   fun j h => (t.prows j h).elim (s.prows j) (fun h => .inr (Nat.le_trans s.size h)), fun j h => (t.qrows j h).elim (s.qrows j) (fun h => .inr (Nat.le_trans s.size h))⟩
theorem Two.left (T : Two W w p g q k a b) (L : Live W w' p' g a') (s : Step p p' w w') : Two W w' p' g q k a' b :=
  ⟨L, T.doc.same fun j hj => s.block j (T.doc.lt hj) (T.apart j hj), T.hk, T.qnew, fun j hj hh => (s.rows j hh).elim (T.apart j hj) (fun h => by have := T.doc.lt hj; omega)⟩
theorem Two.right (T : Two W w p g q k a b) (R : RAt w' q' b') (s : Step q q' w w') : Two W w' p g q' k a b' :=
  ⟨⟨T.live.at_.same fun j hj => s.block j (T.live.at_.lt hj) (fun h => T.apart j h hj), T.live.hg, T.live.good, T.live.env, T.live.new, s.below T.live.below T.qnew⟩, R, s.g.trans T.hk,
    fun j hj => (s.rows j hj).elim (T.qnew j) (fun h => Nat.le_trans T.live.below.size h), fun j hj hp => (s.rows j hj).elim (fun h => T.apart j h hp) (fun h => by have := T.live.at_.lt hp; omega)⟩
theorem Two.after (T : Two W w p g q k a b) (hb : Below w.heap.size w w') : Two W w' p g q k a b :=
  ⟨T.live.after hb, T.doc.below hb, T.hk, T.qnew, T.apart⟩
/-- Another pair stays as it is. -/
theorem Two.beside {p2 q2 : HP} {g2 k2 : Nat} {a2 b2 : HM} (T : Two W w p2 g2 q2 k2 a2 b2) (s : Step2 p q p' q' w w') (hb : Below W.heap.size W w') (hn : ∀ j, p2.has j ∨ q2.has j → ¬ p.has j ∧ ¬ q.has j) :
    Two W w' p2 g2 q2 k2 a2 b2 ∧ ∀ j, p2.has j ∨ q2.has j → ¬ p'.has j ∧ ¬ q'.has j :=
  ⟨⟨⟨T.live.at_.same fun j hj => s.block j (T.live.at_.lt hj) (hn j (.inl hj)).1 (hn j (.inl hj)).2, T.live.hg, T.live.good, T.live.env, T.live.new, hb⟩,
     T.doc.same fun j hj => s.block j (T.doc.lt hj) (hn j (.inr hj)).1 (hn j (.inr hj)).2, T.hk, T.qnew, T.apart⟩,
   fun j hj => by
    have hlt : j < w.heap.size := hj.elim (fun h => T.live.at_.lt h) (fun h => T.doc.lt h)
    exact ⟨fun h => (s.prows j h).elim (hn j hj).1 (fun h => by omega), fun h => (s.qrows j h).elim (hn j hj).2 (fun h => by omega)⟩⟩
theorem Two.reads {B n size : Nat} {A : Option Addr} {xs : List Value} (T : Two W w p g q k a b) (s : Step2 p q p' q' w w') (hr : Reads w B size A n xs) (hB : B ≤ W.heap.size) : Reads w' B size A n xs :=
  hr.keep fun x hx => World.cell?_of_block (s.block x.block (by have := T.live.below.size; omega) (fun h => by have := T.live.new _ h; omega) (fun h => by have := T.qnew _ h; omega))

/-- A deed with one or both. -/
def Done2 (W : World) (p : HP) (g : Nat) (q : HP) (k : Nat) (a b : HM) (v : Value) (w : World) (e : Ending) (w' : World) : Prop :=
  ∃ p' q', e = .returned v ∧ Two W w' p' g q' k a b ∧ Step2 p q p' q' w w'
theorem Two.of_done {v : Value} {d : Ending} (T : Two W w p g q k a b) (H : Done W p g a' v w d w') : Done2 W p g q k a' b v w d w' := by
  obtain ⟨p', rfl, L, s⟩ := H
  exact ⟨p', q, rfl, T.left L s, .of_left s⟩
theorem Two.of_rmade {v : Value} {d : Ending} (T : Two W w p g q k a b) (H : RMade q b' v w d w') : Done2 W p g q k a b' v w d w' := by
  obtain ⟨q', rfl, R, s⟩ := H
  exact ⟨p, q', rfl, T.right R s, .of_right s⟩
theorem Two.of_rdeeds {E : Nat} {d : Ending} (T : Two W w p g q k a b) (H : RDeeds q b' E w d w') : Done2 W p g q k a b' (.int .i64 E) w d w' := by
  obtain ⟨rfl, R, s⟩ := H
  exact ⟨p, q, rfl, T.right R s, .of_right s⟩
/-- The document's deeds. -/
theorem Two.ralloc (T : Two W w p g q k a b) (f : b.Fit) (c : Nat) (hc : c < 4294967296) (t n : Int) :
    Calls Tryz.prog 76 #[.pointer (some ⟨k, 0, none⟩), .int .u32 c, .int .i64 t, .int .i64 n] w (Done2 W p g q k a (b.AllocH c t n) (.tuple #[.int .u32 (b.AllocO c t n : Nat), .int .i64 (b.AllocE c t n : Nat)]) w) := by
  have hh := rAlloc_any T.doc f c hc t n
  rw [T.hk, HM.AllocV_eq] at hh
  exact hh.mono fun _ _ H => T.of_rmade H
theorem Two.rsetRoot (T : Two W w p g q k a b) (f : b.Fit) (i : Int) (v : Nat) (hv : v < 4294967296) :
    Calls Tryz.prog 79 #[.pointer (some ⟨k, 0, none⟩), .int .i64 i, .int .u32 v] w (Done2 W p g q k a (b.setRootH i v) (.int .i64 (b.setRootE i v : Nat)) w) := by
  have hh := rsetRoot_any T.doc f i v hv
  rw [T.hk] at hh
  exact hh.mono fun _ _ H => T.of_rdeeds H
end
/-- Errors are small numbers. -/
theorem HM.AllocE_lt (h : HM) (c : Nat) (t n : Int) : h.AllocE c t n < 1000 := by
  have := h.allocE_le (mkHd c t n)
  unfold HM.AllocE
  split <;> omega
end Go.Proofs.YtlkahgagmfhdaaaGreatDoor
