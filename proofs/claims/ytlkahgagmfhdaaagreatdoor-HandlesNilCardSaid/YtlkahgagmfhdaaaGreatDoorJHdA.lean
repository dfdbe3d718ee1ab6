/- A table of handles in memory. -/
/- A table's small functions. -/
/- broken: whether a table's array is what it was. -/
/- Which slot a number has, and the first that is free: slices.IndexFunc, slices.Index. -/
/- find, Get, Renew, Release, Issue. -/
/- Issue. -/
/- Clear. -/
import Derived.Test.YtlkahgagmfhdaaaGreatDoorJRefI
import Derived.Laws.Cells
import Derived.StillTailTactics
import Derived.Deep.RegionHeld3
import Derived.BigQuiet
set_option linter.unusedVariables false
set_option linter.unusedSimpArgs false
set_option linter.unusedSectionVars false
namespace Go.Proofs.YtlkahgagmfhdaaaGreatDoor
open Go.RowKit

def slC (l : List (Nat × Nat)) : List Value := l.flatMap fun s => [.int .u64 (s.1 : Int), .int .i64 (s.2 : Int)]
theorem slC_cons (s : Nat × Nat) (l : List (Nat × Nat)) : slC (s :: l) = .int .u64 (s.1 : Int) :: .int .i64 (s.2 : Int) :: slC l := rfl
theorem slC_len : ∀ l : List (Nat × Nat), (slC l).length = 2 * l.length
  | [] => rfl
  | s :: l => by rw [slC_cons, List.length_cons, List.length_cons, List.length_cons, slC_len l]; omega
theorem slC_get : ∀ (l : List (Nat × Nat)) (k : Nat), k < l.length → (slC l)[2 * k]? = some (.int .u64 ((l.getD k (0, 0)).1 : Int)) ∧ (slC l)[2 * k + 1]? = some (.int .i64 ((l.getD k (0, 0)).2 : Int))
  | [], k, h => absurd h (Nat.not_lt_zero _)
  | s :: l, 0, _ => ⟨rfl, rfl⟩
  | s :: l, k + 1, h => by
    have := slC_get l k (by simpa using h)
    rw [slC_cons, show 2 * (k + 1) = 2 * k + 1 + 1 by omega]
    simpa using this
theorem slC_set : ∀ (l : List (Nat × Nat)) (k : Nat) (v : Nat × Nat), slC (l.set k v) = ((slC l).set (2 * k) (.int .u64 (v.1 : Int))).set (2 * k + 1) (.int .i64 (v.2 : Int))
  | [], k, v => by simp [slC]
  | s :: l, 0, v => rfl
  | s :: l, k + 1, v => by
    rw [List.set_cons_succ, slC_cons, slC_cons, slC_set l k v, show 2 * (k + 1) = 2 * k + 1 + 1 by omega]
    rfl
def TM.cells (t : TM) (g : Nat) : List Value := .pointer (some ⟨g, 0, none⟩) :: (slC t.slots ++ [.int .i64 (t.cap : Int), .int .u64 (t.next : Int), .int .i64 (t.now : Int)])
theorem cells_slot {t : TM} (hl : t.slots.length = 256) (g : Nat) {k : Nat} (hk : k < 256) :
    (t.cells g)[1 + 2 * k]? = some (.int .u64 ((t.at k).1 : Int)) ∧ (t.cells g)[1 + 2 * k + 1]? = some (.int .i64 ((t.at k).2 : Int)) := by
  have h := slC_get t.slots k (by omega)
  have h1 := slC_len t.slots
  unfold TM.cells
  rw [show 1 + 2 * k = 2 * k + 1 by omega, List.getElem?_cons_succ, List.getElem?_cons_succ, List.getElem?_append_left (by omega), List.getElem?_append_left (by omega)]
  exact h
theorem cells_tail {t : TM} (hl : t.slots.length = 256) (g : Nat) : (t.cells g)[513]? = some (.int .i64 (t.cap : Int)) ∧ (t.cells g)[514]? = some (.int .u64 (t.next : Int)) ∧ (t.cells g)[515]? = some (.int .i64 (t.now : Int)) := by
  have h1 : (slC t.slots).length = 512 := by rw [slC_len, hl]
  unfold TM.cells
  rw [show 513 = 512 + 1 from rfl, show 514 = 513 + 1 from rfl, show 515 = 514 + 1 from rfl, List.getElem?_cons_succ, List.getElem?_cons_succ, List.getElem?_cons_succ,
    List.getElem?_append_right (by omega), List.getElem?_append_right (by omega), List.getElem?_append_right (by omega), h1]
  exact ⟨rfl, rfl, rfl⟩
theorem set_arr (l : List Value) (i : Nat) (v : Value) : l.toArray.setIfInBounds i v = (l.set i v).toArray := by simp
/-- Writing a slot, the next number, the clock. -/
theorem cells_put (t : TM) (g k : Nat) (v : Nat × Nat) : ((t.cells g).set (1 + 2 * k) (.int .u64 (v.1 : Int))).set (1 + 2 * k + 1) (.int .i64 (v.2 : Int)) = ({ t with slots := t.slots.set k v } : TM).cells g ∨ t.slots.length ≤ k := by
  rcases Nat.lt_or_ge k t.slots.length with hk | hk
  · left
    have h1 := slC_len t.slots
    unfold TM.cells
    simp only
    rw [show 1 + 2 * k = 2 * k + 1 by omega, List.set_cons_succ, List.set_cons_succ, List.set_append_left _ _ (by omega), List.set_append_left _ _ (by rw [List.length_set]; omega), slC_set]
  · exact .inr hk
theorem cells_next {t : TM} (hl : t.slots.length = 256) (g n : Nat) : (t.cells g).set 514 (.int .u64 (n : Int)) = ({ t with next := n } : TM).cells g := by
  have h1 : (slC t.slots).length = 512 := by rw [slC_len, hl]
  unfold TM.cells
  simp only
  rw [show 514 = 513 + 1 from rfl, List.set_cons_succ, List.set_append_right _ _ (by omega), h1]
  rfl
theorem cells_now {t : TM} (hl : t.slots.length = 256) (g n : Nat) : (t.cells g).set 515 (.int .i64 (n : Int)) = ({ t with now := n } : TM).cells g := by
  have h1 : (slC t.slots).length = 512 := by rw [slC_len, hl]
  unfold TM.cells
  simp only
  rw [show 515 = 514 + 1 from rfl, List.set_cons_succ, List.set_append_right _ _ (by omega), h1]
  rfl

/-- A table at block gt over the heap at block g, all new since W. -/
structure HT (W w : World) (p : HP) (g gt : Nat) (h : HM) (t : TM) : Prop where
  live : Live W w p g h
  tab : Blk w gt 96 (t.cells g).toArray
  ok : t.Ok
  new : W.heap.size ≤ gt
/-- What a deed with a table leaves as it was. -/
structure HKeep (p : HP) (gt : Nat) (w w' : World) : Prop where
  os : w'.os = w.os
  tape : w'.tape = w.tape
  output : w'.output = w.output
  size : w.heap.size ≤ w'.heap.size
  block : ∀ k, k < w.heap.size → ¬ p.has k → k ≠ gt → w'.heap[k]? = w.heap[k]?
section
variable {W w w' w'' : World} {p : HP} {g gt : Nat} {h h' : HM} {t t' : TM}
theorem HT.apart (T : HT W w p g gt h t) : ¬ p.has gt := by
  obtain ⟨hb, hw, hs, hr⟩ := T.live.at_
  rintro (e | e | e | e)
  · exact T.tab.ne_ hb (by decide) e
  · exact Row.ne_blk hw T.tab (by decide) e.symm
  · exact Row.ne_blk hs T.tab (by decide) e.symm
  · exact Row.ne_blk hr T.tab (by decide) e.symm
theorem HT.after (T : HT W w p g gt h t) (hb : Below w.heap.size w w') : HT W w' p g gt h t := ⟨T.live.after hb, T.tab.below hb T.tab.lt, T.ok, T.new⟩
theorem HT.same (T : HT W w p g gt h t) (hs : ∀ k, p.has k ∨ k = gt → w'.heap[k]? = w.heap[k]?) (hb : Below W.heap.size W w') : HT W w' p g gt h t :=
  ⟨⟨T.live.at_.same fun k hk => hs k (.inl hk), T.live.hg, T.live.good, T.live.env, T.live.new, hb⟩, T.tab.same (hs gt (.inr rfl)), T.ok, T.new⟩
theorem heap_set5 (w : World) (g : Nat) (a b c d e : Value) (k : Nat) (hk : k ≠ g) : (((((w.setCell ⟨g, 0, none⟩ a).setCell ⟨g, 1, none⟩ b).setCell ⟨g, 2, none⟩ c).setCell ⟨g, 3, none⟩ d).setCell ⟨g, 4, none⟩ e).heap[k]? = w.heap[k]? := by
  rw [Below.heap_setCell _ ⟨g, 4, none⟩ _ _ hk, Below.heap_setCell _ ⟨g, 3, none⟩ _ _ hk, Below.heap_setCell _ ⟨g, 2, none⟩ _ _ hk, Below.heap_setCell _ ⟨g, 1, none⟩ _ _ hk, Below.heap_setCell _ ⟨g, 0, none⟩ _ _ hk]
theorem below_five {B : Nat} {W w : World} {a b c d e : Value} {g : Nat} (h : Below B W w) (hg : B ≤ g) : Below B W (((((w.setCell ⟨g, 0, none⟩ a).setCell ⟨g, 1, none⟩ b).setCell ⟨g, 2, none⟩ c).setCell ⟨g, 3, none⟩ d).setCell ⟨g, 4, none⟩ e) :=
  ((((h.setCell (p := ⟨g, 0, none⟩) hg _).setCell (p := ⟨g, 1, none⟩) hg _).setCell (p := ⟨g, 2, none⟩) hg _).setCell (p := ⟨g, 3, none⟩) hg _).setCell (p := ⟨g, 4, none⟩) hg _
theorem HT.drew (T : HT W w p g gt h t) : HT W w.drew p g gt h t := T.after (below_drew (Below.refl _ _))
theorem HKeep.refl (p : HP) (gt : Nat) (w : World) : HKeep p gt w w := ⟨rfl, rfl, rfl, Nat.le_refl _, fun _ _ _ _ => rfl⟩
theorem HKeep.of_below (hb : Below w.heap.size w w') : HKeep p gt w w' := ⟨hb.os, hb.tape, hb.output, hb.size, fun k hk _ _ => hb.block k hk⟩
theorem HKeep.of_step (s : Step p p w w') : HKeep p gt w w' := ⟨s.os, s.tape, s.output, s.size, fun k hk hn _ => s.block k hk hn⟩
theorem HKeep.trans (a : HKeep p gt w w') (b : HKeep p gt w' w'') : HKeep p gt w w'' :=
  ⟨b.os.trans a.os, b.tape.trans a.tape, b.output.trans a.output, Nat.le_trans a.size b.size, fun k hk hn hg => (b.block k (Nat.lt_of_lt_of_le hk a.size) hn hg).trans (a.block k hk hn hg)⟩
theorem HKeep.after (a : HKeep p gt w w') (hb : Below w'.heap.size w' w'') : HKeep p gt w w'' := a.trans (.of_below hb)
theorem HKeep.setCell (a : HKeep p gt w w') (i : Nat) (v : Value) : HKeep p gt w (w'.setCell ⟨gt, i, none⟩ v) :=
  ⟨a.os, a.tape, a.output, by simpa [World.setCell] using a.size, fun k hk hn hg => (Below.heap_setCell w' ⟨gt, i, none⟩ v k hg).trans (a.block k hk hn hg)⟩
theorem HKeep.drew (a : HKeep p gt w w') : HKeep p gt w w'.drew := ⟨a.os, a.tape, a.output, a.size, a.block⟩
theorem HKeep.below (a : HKeep p gt w w') (L : Below W.heap.size W w) (hp : ∀ k, p.has k → W.heap.size ≤ k) (hg : W.heap.size ≤ gt) : Below W.heap.size W w' :=
  ⟨a.os.trans L.os, a.tape.trans L.tape, a.output.trans L.output, Nat.le_trans L.size a.size, fun k hk => (a.block k (Nat.lt_of_lt_of_le hk L.size) (fun hh => by have := hp k hh; omega) (by omega)).trans (L.block k hk)⟩
/-- The heap's deed beside the table. -/
theorem HT.heap (T : HT W w p g gt h t) (L : Live W w' p g h') (s : Step p p w w') : HT W w' p g gt h' t := ⟨L, T.tab.same (s.block gt T.tab.lt T.apart), T.ok, T.new⟩
/-- A write into the table. -/
theorem HT.write (T : HT W w p g gt h t) (i : Nat) (v : Value) : Live W (w.setCell ⟨gt, i, none⟩ v) p g h ∧ Blk (w.setCell ⟨gt, i, none⟩ v) gt 96 ((t.cells g).set i v).toArray := by
  refine ⟨⟨T.live.at_.same fun k hk => Below.heap_setCell w ⟨gt, i, none⟩ v k (fun e => T.apart ((show k = gt from e) ▸ hk)), T.live.hg, T.live.good, T.live.env, T.live.new, T.live.below.setCell (p := ⟨gt, i, none⟩) T.new _⟩, ?_⟩
  have := T.tab.set_ i v
  rw [set_arr] at this
  exact this
theorem HT.slot (T : HT W w p g gt h t) {k : Nat} (hk : k < 256) (v : Nat × Nat) (O : ({ t with slots := t.slots.set k v } : TM).Ok) :
    HT W ((w.setCell ⟨gt, 1 + k * 2, none⟩ (.int .u64 (v.1 : Int))).setCell ⟨gt, 1 + k * 2 + 1, none⟩ (.int .i64 (v.2 : Int))) p g gt h { t with slots := t.slots.set k v } := by
  rw [Nat.mul_comm k 2]
  have h1 := T.write (1 + 2 * k) (.int .u64 (v.1 : Int))
  have hn := T.apart
  refine ⟨⟨h1.1.at_.same fun j hj => Below.heap_setCell _ ⟨gt, 1 + 2 * k + 1, none⟩ _ j (fun e => hn ((show j = gt from e) ▸ hj)), h1.1.hg, h1.1.good, h1.1.env, h1.1.new, h1.1.below.setCell (p := ⟨gt, 1 + 2 * k + 1, none⟩) T.new _⟩, ?_, O, T.new⟩
  have h2 := h1.2.set_ (1 + 2 * k + 1) (.int .i64 (v.2 : Int))
  rw [set_arr, (cells_put t g k v).resolve_right (by rw [T.ok.len]; omega)] at h2
  exact h2
theorem HT.setNext (T : HT W w p g gt h t) (n : Nat) (O : ({ t with next := n } : TM).Ok) : HT W (w.setCell ⟨gt, 514, none⟩ (.int .u64 (n : Int))) p g gt h { t with next := n } := by
  have h1 := T.write 514 (.int .u64 (n : Int))
  rw [cells_next T.ok.len] at h1
  exact ⟨h1.1, h1.2, O, T.new⟩
theorem HT.setNow (T : HT W w p g gt h t) (n : Nat) (O : ({ t with now := n } : TM).Ok) : HT W (w.setCell ⟨gt, 515, none⟩ (.int .i64 (n : Int))) p g gt h { t with now := n } := by
  have h1 := T.write 515 (.int .i64 (n : Int))
  rw [cells_now T.ok.len] at h1
  exact ⟨h1.1, h1.2, O, T.new⟩
theorem HT.c0 (T : HT W w p g gt h t) : w.cell? ⟨gt, 0, none⟩ = some (.pointer (some ⟨g, 0, none⟩)) := by rw [T.tab.cell]; rfl
theorem HT.get (T : HT W w p g gt h t) {i : Nat} {v : Value} (hi : (t.cells g)[i]? = some v) : w.cell? ⟨gt, i, none⟩ = some v := by rw [T.tab.cell, List.getElem?_toArray]; exact hi
theorem HT.cCap (T : HT W w p g gt h t) : w.cell? ⟨gt, 513, none⟩ = some (.int .i64 (t.cap : Int)) := T.get (cells_tail T.ok.len g).1
theorem HT.cNext (T : HT W w p g gt h t) : w.cell? ⟨gt, 514, none⟩ = some (.int .u64 (t.next : Int)) := T.get (cells_tail T.ok.len g).2.1
theorem HT.cNow (T : HT W w p g gt h t) : w.cell? ⟨gt, 515, none⟩ = some (.int .i64 (t.now : Int)) := T.get (cells_tail T.ok.len g).2.2
theorem HT.cId (T : HT W w p g gt h t) {k : Nat} (hk : k < 256) : w.cell? ⟨gt, 1 + k * 2, none⟩ = some (.int .u64 ((t.at k).1 : Int)) := by rw [Nat.mul_comm]; exact T.get (cells_slot T.ok.len g hk).1
theorem HT.cExp (T : HT W w p g gt h t) {k : Nat} (hk : k < 256) : w.cell? ⟨gt, 1 + k * 2 + 1, none⟩ = some (.int .i64 ((t.at k).2 : Int)) := by rw [Nat.mul_comm]; exact T.get (cells_slot T.ok.len g hk).2
end
section
variable {W w : World} {p : HP} {g gt : Nat} {h : HM} {t : TM}
/-- The slots loaded whole, and a slot out of them. -/
theorem HT.load (T : HT W w p g gt h t) : (loadVar 94 ⟨gt, 1, none⟩).run Tryz.prog w = .ok (.agg (slC t.slots).toArray) w := by
  have hl : (slC t.slots).length = 512 := by rw [slC_len, T.ok.len]
  have h1 : (loadCells ⟨gt, 1, none⟩ (slC t.slots).length).run Tryz.prog w = .ok (slC t.slots).toArray w := run_loadCells_list (P := Tryz.prog) w ⟨gt, 1, none⟩ (slC t.slots) (fun j v hv => by
    rw [Go.WideShapes.add_plain]
    refine T.get ?_
    have hj : j < (slC t.slots).length := (List.getElem?_eq_some_iff.1 hv).1
    unfold TM.cells
    rw [show 1 + j = j + 1 by omega, List.getElem?_cons_succ, List.getElem?_append_left hj]
    exact hv)
  rw [hl] at h1
  have ha : (isAgg 94).run Tryz.prog w = .ok true w := by kernel_rfl
  have hz : (sizeOf 94).run Tryz.prog w = .ok 512 w := by kernel_rfl
  simp [loadVar, Sem.run_bind, ha, hz, h1]
theorem HT.loadAt (T : HT W w p g gt h t) : (Instr.loadAt 94 (.pointer (some ⟨gt, 1, none⟩))).run Tryz.prog w = .ok (.agg (slC t.slots).toArray) w := by
  have := T.load
  simp only [Instr.loadAt, Instr.sureAddr, Sem.run_bind, Sem.run_pure, Result.andThen_ok]
  exact this
theorem index_slot {l : List (Nat × Nat)} (hl : l.length = 256) {k : Nat} (hk : k < 256) (w : World) :
    (Instr.index 94 (.agg (slC l).toArray) (.int .i64 (k : Int))).run Tryz.prog w = .ok (.agg #[.int .u64 ((l.getD k (0, 0)).1 : Int), .int .i64 ((l.getD k (0, 0)).2 : Int)]) w := by
  have hu : Tryz.prog.underlying 94 = some (.array 256 93) := Tryz.underlying94
  have ha : ∀ w, (isAgg 93).run Tryz.prog w = .ok true w := fun w => by kernel_rfl
  have hz : ∀ w, (sizeOf 93).run Tryz.prog w = .ok 2 w := fun w => by kernel_rfl
  have h1 : (0 : Int) ≤ (k : Int) ∧ (k : Int) < (256 : Nat) := by omega
  have hg := slC_get l k (by omega)
  have hll : (slC l).length = 512 := by rw [slC_len, hl]
  have he : (slC l).toArray.extract (k * 2) (k * 2 + 2) = #[.int .u64 ((l.getD k (0, 0)).1 : Int), .int .i64 ((l.getD k (0, 0)).2 : Int)] := by
    apply Array.ext'
    rw [Array.toList_extract]
    simp only [List.extract_eq_take_drop]
    rw [show k * 2 + 2 - k * 2 = 2 by omega, Nat.mul_comm k 2]
    apply List.ext_getElem?
    intro j
    rw [List.getElem?_take]
    by_cases h0 : j = 0
    · subst h0
      rw [if_pos (by omega), List.getElem?_drop, Nat.add_zero, hg.1]
      rfl
    · by_cases h1 : j = 1
      · subst h1
        rw [if_pos (by omega), List.getElem?_drop, hg.2]
        rfl
      · rw [if_neg (by omega)]
        obtain ⟨j', rfl⟩ := Nat.exists_eq_add_of_le (show 2 ≤ j by omega)
        rw [show 2 + j' = j' + 1 + 1 by omega]
        rfl
  simp only [Instr.index, asIntOf, Sem.run_bind, run_underlying hu, part, ha, hz, Result.andThen_ok, Sem.run_pure, if_pos h1, Int.toNat_natCast]
  simp only [if_true, Sem.run_bind, hz, Result.andThen_ok, Sem.run_pure, he]
end
/-- A load that the walk does not take by itself: its run is given. -/
theorem oper_load {P : Program} {d : Nat} {t ty : TypeId} {x : Operand} {pos : String} {after : Array Edge} {a : Act} {w : World} {v : Value} {K : Act → World → Prop} {Q : Exit → Act → World → Prop}
    (hx : (Instr.loadAt t (a.eval x)).run P w = .ok v w) (hk : K (a.put (some d) v) w) : Oper.wp P { dst := some d, op := .load t x, type := ty, pos := pos, after := after, guard := none } a w K Q := by
  unfold Oper.wp
  have h : (execOp a.eval { dst := some d, op := .load t x, type := ty, pos := pos, after := after, guard := none }).run P w = .ok (.value v) w := by
    simp only [execOp, Sem.run_bind, hx, Result.andThen_ok, Sem.run_pure]
  rw [h]
  exact hk
/-- A deed with a table. -/
def HDone (W : World) (p : HP) (g gt : Nat) (h' : HM) (t' : TM) (v : Value) (w : World) (e : Ending) (w' : World) : Prop :=
  e = .returned v ∧ HT W w' p g gt h' t' ∧ HKeep p gt w w'
end Go.Proofs.YtlkahgagmfhdaaaGreatDoor

namespace Go.Proofs.YtlkahgagmfhdaaaGreatDoor
open Go.RowKit
attribute [local go_sem] Oper.semAt_some

theorem hroot_any {W w : World} {p : HP} {g : Nat} {h : HM} (L : Live W w p g h) (i : Int) : Calls Tryz.prog 164 #[.pointer (some ⟨g, 0, none⟩), .int .i64 i] w (Said (.int .u32 (h.rootN i : Nat)) w) := by
  have HR := Lib.hid (L.root i)
  clear L
  go_enter Tryz.func164, Tryz.ntmps164
  go_wp2_with fail
  refine HR.out.mono ?_
  rintro e w' ⟨rfl, rfl⟩
  go_wp2_with fail
  go_ret
  exact ⟨rfl, rfl⟩
theorem hlease_any (n : Int) (w : World) : Calls Tryz.prog 86 #[.int .i64 n] w (Said (.bool (leaseB n)) w) := by
  by_cases h1 : 1 ≤ n
  · by_cases h2 : n ≤ 1000000
    · have HF := Lib.hid (show leaseB n = true by unfold leaseB; simp [h1, h2])
      go_enter Tryz.func86, Tryz.ntmps86
      go_wp2_with fail
      go_ret
      exact ⟨by rw [HF.out]; simp [h1, h2], rfl⟩
    · have HF := Lib.hid (show leaseB n = false by unfold leaseB; simp [h2])
      go_enter Tryz.func86, Tryz.ntmps86
      go_wp2_with fail
      go_ret
      exact ⟨by rw [HF.out]; simp [h1, h2], rfl⟩
  · have HF := Lib.hid (show leaseB n = false by unfold leaseB; simp [h1])
    go_enter Tryz.func86, Tryz.ntmps86
    go_wp2_with fail
    go_ret
    exact ⟨by rw [HF.out]; simp [h1], rfl⟩
theorem arr_lt {h : HM} (f : h.Fit) : h.arr < 4294967296 := f.root 40
theorem nil_lt {h : HM} (f : h.Fit) : h.roots.getD 0 0 < 4294967296 := f.root 0
theorem Live.put1 {W w : World} {p : HP} {g : Nat} {h : HM} (L : Live W w p g h) (o : Nat) (ho : o < 4294967296) (i : Int) (v : Nat) (hv : v < 4294967296) :
    Calls Tryz.prog 105 #[.pointer (some ⟨g, 0, none⟩), .int .u32 o, .int .i64 i, .int .u32 v] w (fun e w' => e = .returned (.int .i64 (h.putE o i v : Nat)) ∧ Live W w' p g (h.putH o i v) ∧ Step p p w w') := by
  have hh := put_any L.at_ L.fit L.heads L.envw.spares o ho i v hv
  rw [L.hg] at hh
  exact hh.mono fun _ _ H => by
    obtain ⟨rfl, H', s⟩ := H
    obtain ⟨l, G⟩ := L.good
    obtain ⟨l', G', _⟩ := G.putH o i v hv
    exact ⟨rfl, L.step H' s ⟨l', G'⟩, s⟩
section
variable {W w : World} {p : HP} {g gt : Nat} {h : HM} {t : TM} (T : HT W w p g gt h t)
include T
theorem hobj_any (k : Nat) (hk : k ≤ 9223372036854775807) : Calls Tryz.prog 96 #[.pointer (some ⟨gt, 0, none⟩), .int .i64 (k : Int)] w (Told (.int .u32 (h.objK k : Nat)) w) := by
  have c0 := T.drew.c0
  have HRT := Lib.hid (hroot_any T.drew.live 40)
  have HGT := Lib.hid (T.drew.live.get h.arr (arr_lt T.live.fit) (k : Int))
  have HTD := Lib.hid T.drew
  clear T
  go_enter Tryz.func96, Tryz.ntmps96
  go_upto_region 1 with fail
  go_region_held3 (fun w' => w'.cell? ⟨gt, 0, none⟩ = some (.pointer (some ⟨g, 0, none⟩)))
    (first | exact c0 | exact c1 | go_keep)
    (first
      | (go_at_call 164; refine HRT.out.mono ?_; rintro e w1 ⟨rfl, rfl⟩)
      | (go_at_call 175; refine HGT.out.mono ?_; rintro e w2 ⟨rfl, hb2⟩; have HB2 := Lib.hid (below_top (below_drew (Below.refl _ w)) hb2); have c1 := (HTD.out.after hb2).c0; clear hb2))
  all_goals go_wp2_with fail
  all_goals go_ret
  all_goals exact ⟨rfl, HB2.out⟩
theorem htput_any (k : Nat) (hk : k ≤ 9223372036854775807) (o : Nat) (ho : o < 4294967296) : Calls Tryz.prog 88 #[.pointer (some ⟨gt, 0, none⟩), .int .i64 (k : Int), .int .u32 (o : Nat)] w (HDone W p g gt (h.putH h.arr k o) t (.tuple #[]) w) := by
  have c0 := T.drew.c0
  have HRT := Lib.hid (hroot_any T.drew.live 40)
  have HPT := Lib.hid (T.drew.live.put1 h.arr (arr_lt T.live.fit) (k : Int) o ho)
  have HTD := Lib.hid T.drew
  clear T
  go_enter Tryz.func88, Tryz.ntmps88
  go_upto_region 0 with fail
  go_region_held3 (fun w' => w'.cell? ⟨gt, 0, none⟩ = some (.pointer (some ⟨g, 0, none⟩)))
    (first | exact c0 | exact c1 | go_keep)
    (first
      | (go_at_call 164; refine HRT.out.mono ?_; rintro e w1 ⟨rfl, rfl⟩)
      | (go_at_call 105; refine HPT.out.mono ?_; rintro e w2 ⟨rfl, L2, s2⟩; have HT2 := Lib.hid (HTD.out.heap L2 s2); have HK2 := Lib.hid ((HKeep.refl p gt w).drew.trans (HKeep.of_step s2)); have c1 := HT2.out.c0; clear L2 s2))
  all_goals go_wp2_with fail
  all_goals go_end0
  all_goals exact ⟨rfl, HT2.out, HK2.out⟩
set_option maxHeartbeats 1000000 in
theorem tclear_any (k : Nat) (hk : k < 256) : Calls Tryz.prog 89 #[.pointer (some ⟨gt, 0, none⟩), .int .i64 (k : Int)] w (HDone W p g gt (h.clrK k) (t.clear k) (.tuple #[]) w) := by
  have O2 := T.ok.clear hk
  have T2 := T.slot hk (0, 0) O2
  have K2 : HKeep p gt w _ := ((HKeep.refl p gt w).setCell (1 + k * 2) (.int .u64 (0 : Nat))).setCell (1 + k * 2 + 1) (.int .i64 (0 : Nat))
  have e1 := T.cId hk
  have e2 := T.cExp hk
  have f0 := T.tab.fz
  have hlt : (k : Int) < 256 := by omega
  have c1 := T2.c0
  have HRT := Lib.hid (hroot_any T2.live 0)
  have HPT := Lib.hid (htput_any T2 k (by omega) (h.roots.getD 0 0) (nil_lt T.live.fit))
  have HK2 := Lib.hid K2
  clear T T2 O2 K2
  simp only [Int.natCast_zero] at c1 HRT HPT HK2
  go_enter Tryz.func89, Tryz.ntmps89
  go_wp2_with fail
  refine HRT.out.mono ?_
  rintro e w1 ⟨rfl, rfl⟩
  go_wp2_with fail
  refine HPT.out.mono ?_
  rintro e w2 ⟨rfl, T3, K3⟩
  have HT3 := Lib.hid T3
  have HK3 := Lib.hid (HK2.out.trans K3)
  clear T3 K3
  go_wp2_with fail
  go_end0
  exact ⟨rfl, HT3.out, HK3.out⟩
end
section
variable {W w : World} {p : HP} {g gt : Nat} {h : HM} {t : TM} (T : HT W w p g gt h t)
include T
theorem tmade_any : Calls Tryz.prog 99 #[.pointer (some ⟨gt, 0, none⟩)] w (Said (.bool true) w) := by
  have c := T.cCap
  have h1 := T.ok.lo
  have hz : decide ((t.cap : Int) > 0) = true := by simp; omega
  have hz2 : decide (0 < (t.cap : Int)) = true := by simp; omega
  clear T
  go_enter Tryz.func99, Tryz.ntmps99
  go_wp2_with fail
  go_ret
  exact ⟨by simp; omega, rfl⟩
theorem tnext_any : Calls Tryz.prog 36 #[.pointer (some ⟨gt, 0, none⟩)] w (Said (.int .u64 (t.next : Nat)) w) := by
  have c := T.cNext
  have HM := Lib.hid (tmade_any T)
  clear T
  go_enter Tryz.func36, Tryz.ntmps36
  go_wp2_with fail
  refine HM.out.mono ?_
  rintro e w1 ⟨rfl, rfl⟩
  go_wp2_with fail
  go_ret
  exact ⟨rfl, rfl⟩
end
end Go.Proofs.YtlkahgagmfhdaaaGreatDoor

namespace Go.Proofs.YtlkahgagmfhdaaaGreatDoor
open Go.RowKit
attribute [local go_sem] Oper.semAt_some

theorem HT.hdr {W w : World} {p : HP} {g gt : Nat} {h : HM} {t : TM} (T : HT W w p g gt h t) : Calls Tryz.prog 32 #[.pointer (some ⟨g, 0, none⟩), .int .u32 (h.arr : Nat)] w (Told (.tuple #[.agg #[.int .i64 (h.hdO h.arr).size, .int .i64 (h.hdO h.arr).fmt, .int .i64 (h.hdO h.arr).spare, .int .u32 (h.hdO h.arr).cls, .int .u32 (h.hdO h.arr).ser], .int .i64 (h.isE h.arr : Nat)]) w) := T.live.header h.arr (arr_lt T.live.fit)
theorem HT.hroot {W w : World} {p : HP} {g gt : Nat} {h : HM} {t : TM} (T : HT W w p g gt h t) : Calls Tryz.prog 164 #[.pointer (some ⟨g, 0, none⟩), .int .i64 40] w (Said (.int .u32 (h.arr : Nat)) w) := hroot_any T.live 40
theorem HT.hdr1 {W w0 w : World} {p : HP} {g gt : Nat} {h : HM} {t : TM} (T : HT W w p g gt h t) (hb : Below w0.heap.size w0 w) :
    Calls Tryz.prog 32 #[.pointer (some ⟨g, 0, none⟩), .int .u32 (h.arr : Nat)] w fun e w2 => e = .returned (.tuple #[.agg #[.int .i64 (h.hdO h.arr).size, .int .i64 (h.hdO h.arr).fmt, .int .i64 (h.hdO h.arr).spare, .int .u32 (h.hdO h.arr).cls, .int .u32 (h.hdO h.arr).ser], .int .i64 (h.isE h.arr : Nat)]) ∧ Hid (HT W w2 p g gt h t) ∧ Hid (Below w0.heap.size w0 w2) ∧ w2.cell? ⟨gt, 0, none⟩ = some (.pointer (some ⟨g, 0, none⟩)) :=
  T.hdr.mono fun e w2 hh => ⟨hh.1, Lib.hid (T.after hh.2), Lib.hid (below_top hb hh.2), (T.after hh.2).c0⟩
theorem HT.hdr2 {W w0 w : World} {p : HP} {g gt : Nat} {h : HM} {t : TM} (T : HT W w p g gt h t) (hb : Below w0.heap.size w0 w) {B : Nat} {a0 a1 a2 a3 a4 : Value} (X : Blk w B 75 #[a0, a1, a2, a3, a4]) :
    Calls Tryz.prog 32 #[.pointer (some ⟨g, 0, none⟩), .int .u32 (h.arr : Nat)] w fun e w2 => e = .returned (.tuple #[.agg #[.int .i64 (h.hdO h.arr).size, .int .i64 (h.hdO h.arr).fmt, .int .i64 (h.hdO h.arr).spare, .int .u32 (h.hdO h.arr).cls, .int .u32 (h.hdO h.arr).ser], .int .i64 (h.isE h.arr : Nat)]) ∧ Hid (HT W w2 p g gt h t) ∧ Hid (Below w0.heap.size w0 w2) ∧ w2.cell? ⟨gt, 0, none⟩ = some (.pointer (some ⟨g, 0, none⟩)) ∧ Hid (Blk w2 B 75 #[a0, a1, a2, a3, a4]) ∧ w2.cell? ⟨B, 0, none⟩ = some a0 ∧ w2.cell? ⟨B, 1, none⟩ = some a1 ∧ w2.cell? ⟨B, 2, none⟩ = some a2 ∧ w2.cell? ⟨B, 3, none⟩ = some a3 ∧ w2.cell? ⟨B, 4, none⟩ = some a4 ∧ ∀ i, w2.frozen? ⟨B, i, none⟩ = false :=
  T.hdr.mono fun e w2 hh => by
    have X2 := X.below hh.2 X.lt
    obtain ⟨g0, g1, g2, g3, g4⟩ := X2.cells5
    exact ⟨hh.1, Lib.hid (T.after hh.2), Lib.hid (below_top hb hh.2), (T.after hh.2).c0, Lib.hid X2, g0, g1, g2, g3, g4, X2.fz⟩
theorem obj_lt {h : HM} (f : h.Fit) (k : Nat) : h.objK k < 4294967296 := by
  unfold HM.objK HM.readN
  split
  · exact f.w _
  · omega
theorem HT.obj1 {W w0 w : World} {p : HP} {g gt : Nat} {h : HM} {t : TM} (T : HT W w p g gt h t) (hb : Below w0.heap.size w0 w) {B : Nat} {a0 a1 : Value} (x0 : w.cell? ⟨B, 0, none⟩ = some a0) (x1 : w.cell? ⟨B, 1, none⟩ = some a1) (k : Nat) (hk : k ≤ 9223372036854775807) :
    Calls Tryz.prog 96 #[.pointer (some ⟨gt, 0, none⟩), .int .i64 (k : Int)] w fun e w2 => e = .returned (.int .u32 (h.objK k : Nat)) ∧ Hid (HT W w2 p g gt h t) ∧ Hid (Below w0.heap.size w0 w2) ∧ w2.cell? ⟨gt, 0, none⟩ = some (.pointer (some ⟨g, 0, none⟩)) ∧ w2.cell? ⟨B, 0, none⟩ = some a0 ∧ w2.cell? ⟨B, 1, none⟩ = some a1 ∧ Hid (Calls Tryz.prog 85 #[.pointer (some ⟨g, 0, none⟩), .int .u32 (h.objK k : Nat)] w2 fun e w3 => e = .returned (.bool (h.isB (h.objK k))) ∧ w2 = w3) :=
  (hobj_any T k hk).mono fun e w2 hh => ⟨hh.1, Lib.hid (T.after hh.2), Lib.hid (below_top hb hh.2), (T.after hh.2).c0, (hh.2.cell (World.block_lt_of_cell? _ _ x0)).trans x0, (hh.2.cell (World.block_lt_of_cell? _ _ x1)).trans x1, Lib.hid ((T.after hh.2).live.is (h.objK k) (obj_lt T.live.fit k))⟩
theorem badA_eq (h : HM) (cap : Nat) : h.badA cap = (decide (h.isE h.arr ≠ 0) || decide ((h.hdO h.arr).fmt ≠ 1) || decide ((h.hdO h.arr).size < cap)) := by
  unfold HM.badA HM.isE HM.hdO
  cases h.isB h.arr
  · simp
  · simp
    by_cases h1 : (h.hd (h.arr / 2)).fmt = 1
    · by_cases h2 : cap ≤ (h.hd (h.arr / 2)).size
      · simp [h1, h2, Nat.not_lt.2 h2]
      · simp [h1, h2, Nat.lt_of_not_le h2]
    · simp [h1]
section
variable {W w : World} {p : HP} {g gt : Nat} {h : HM} {t : TM} (T : HT W w p g gt h t)
include T
set_option maxRecDepth 100000 in
set_option maxHeartbeats 4000000 in
theorem tbroken_any : Calls Tryz.prog 84 #[.pointer (some ⟨gt, 0, none⟩)] w (Told (.bool (brkB h t)) w) := by
  have hlo := T.ok.lo
  have hhi := T.ok.hi
  have hz : ((t.cap : Int) == 0) = false := by simp; omega
  have c5 := T.cCap
  have c0 := T.drew.c0
  have hba := (Below.refl w.heap.size w).alloc (Nat.le_refl _) (.cells #[.int .i64 0, .int .i64 0, .int .i64 0, .int .u32 0, .int .u32 0] 75)
  have TA := (T.after hba).drew
  have a0 := TA.c0
  have HRT := Lib.hid (T.drew.hroot)
  have HHD := Lib.hid (T.drew.hdr1 (below_drew (Below.refl _ w)))
  have HRA := Lib.hid (TA.hroot)
  have HHA := Lib.hid (TA.hdr2 hba.drew (Blk.new w 75 #[.int .i64 0, .int .i64 0, .int .i64 0, .int .u32 0, .int .u32 0]).drew)
  have HTD := Lib.hid T.drew
  have HTA := Lib.hid TA
  have HAB := Lib.hid hba
  have HBN := Lib.hid (Blk.new w 75 #[.int .i64 0, .int .i64 0, .int .i64 0, .int .u32 0, .int .u32 0]).drew
  have HB := Lib.hid (show brkB h t = (h.badA t.cap || (List.range 256).any (lostK h t)) from rfl)
  have HBA := Lib.hid (badA_eq h t.cap)
  have hE : h.isE h.arr = 0 ∨ h.isE h.arr = 3 := by unfold HM.isE; split <;> simp
  have hne : w.heap.size ≠ gt := fun e => by have := T.tab.lt; omega
  have hne2 : gt ≠ w.heap.size := fun e => hne e.symm
  have HNP := Lib.hid (show ∀ k, p.has k ∨ k = gt → k ≠ w.heap.size from fun k hk e => by
    rcases hk with hk | hk
    · have := T.live.at_.lt hk; omega
    · have := T.tab.lt; omega)
  have HWL := Lib.hid T.live.below.size
  clear T TA hba
  generalize (h.hdO h.arr).size = z at *
  generalize (h.hdO h.arr).fmt = f at *
  generalize (h.hdO h.arr).spare = s at *
  generalize (h.hdO h.arr).cls = c at *
  generalize (h.hdO h.arr).ser = r at *
  generalize h.isE h.arr = E at *
  go_enter Tryz.func84, Tryz.ntmps84
  go_upto_region 3 with fail
  go_cut [3, 4] from 16 to 28 (fun s3 s4 wx => ∃ b3, s3 = .pointer (some ⟨b3, 0, none⟩) ∧ s4 = .int .i64 (E : Nat) ∧ HT W wx p g gt h t ∧ Below w.heap.size w wx ∧ Blk wx b3 75 #[.int .i64 z, .int .i64 f, .int .i64 s, .int .u32 c, .int .u32 r])
  case first =>
    go_region_held3 (fun w' => w'.cell? ⟨gt, 0, none⟩ = some (.pointer (some ⟨g, 0, none⟩)))
      (first | with_reducible exact c0 | with_reducible exact a0 | with_reducible exact c1 | go_keep)
      (first
        | (go_at_call 164; (with_reducible refine HRT.out.mono ?_); rintro e w1 ⟨rfl, rfl⟩)
        | (go_at_call 164; (with_reducible refine HRA.out.mono ?_); rintro e w1 ⟨rfl, rfl⟩)
        | (go_at_call 32; (with_reducible refine HHD.out.mono ?_); rintro e w2 ⟨rfl, HT2, HB2, c1⟩)
        | (go_at_call 32; (with_reducible refine HHA.out.mono ?_); rintro e w2 ⟨rfl, HT2, HB2, c1, HBX, g0, g1, g2, g3, g4, hgz⟩))
    all_goals go_wp2_with fail
    all_goals go_meet
    all_goals refine ⟨_, rfl, rfl, ?_⟩
    all_goals first
      | (with_reducible refine And.intro (HT2.out.after ((Below.refl _ _).alloc (Nat.le_refl _) _)) (And.intro (HB2.out.alloc HB2.out.size _) (Blk.new _ _ _)))
      | (with_reducible refine And.intro (HT2.out.same (fun k hk => heap_set5 _ _ _ _ _ _ _ k (HNP.out k hk)) (below_five HT2.out.live.below HWL.out)) (And.intro (below_five HB2.out (Nat.le_refl _)) (HBX.out.setAll5 _ _ _ _ _)))
  case rest =>
    obtain ⟨b3, rfl, rfl, T3, hb3, B3⟩ := hcut
    obtain ⟨b0, b1, b2, b3', b4⟩ := B3.cells5
    have c5 := T3.cCap
    have HT3 := Lib.hid T3
    have HB3 := Lib.hid hb3
    clear HRT HHD HRA HHA HTD HTA HAB HBN T3 hb3 B3 c0 a0 hne hne2
    go_upto_region 4 with fail
    rcases hE with rfl | rfl
    · by_cases hf : f = 1
      · by_cases hzc : z < t.cap
        · have HV := Lib.hid (show brkB h t = true by rw [HB.out, HBA.out, decide_eq_true hzc]; simp only [Bool.or_true, Bool.true_or])
          have hd1 : decide ((z : Int) < (t.cap : Int)) = true := by simp; omega
          subst hf
          clear HB HBA
          go_quiet (fail)
          go_wp2_with fail
          go_ret
          exact ⟨by rw [HV.out]; rfl, below_drewN HB3.out _⟩
        · have HV := Lib.hid (show brkB h t = (List.range 256).any (lostK h t) by rw [HB.out, HBA.out, decide_eq_false hzc, decide_eq_false (not_not_intro hf), decide_eq_false (not_not_intro rfl)]; simp only [Bool.false_or])
          have hd1 : decide ((z : Int) < (t.cap : Int)) = false := by simp; omega
          subst hf
          clear HB HBA
          go_quiet (fail)
          have T4 := HT3.out.after (below_drewN (Below.refl _ wc) nq)
          have hld := T4.loadAt
          have HIX := Lib.hid (fun (k : Nat) (hk : k < 256) (w : World) => index_slot T4.ok.len hk w)
          have HT4 := Lib.hid T4
          have HB4 := Lib.hid (below_drewN HB3.out nq)
          clear T4 HT3 HB3 b0 b1 b2 b3' b4 c5
          generalize Value.agg (slC t.slots).toArray = vs at hld HIX
          generalize wc.drewN nq = w4 at *
          go_wp2_with fail
          refine oper_load (v := vs) hld ?_
          go_wp2_with fail
          go_loopw [49] (fun i wr => ∃ k : Nat, k ≤ 256 ∧ i = .int .i64 (k : Int) ∧ Hid (HT W wr p g gt h t) ∧ Hid (Below w.heap.size w wr) ∧ Hid (∀ j, j < k → lostK h t j = false)) (fun i _ => 256 - (intOf i).toNat)
          case atStart => exact ⟨0, by omega, rfl, HT4, HB4, Lib.hid (fun j hj => absurd hj (Nat.not_lt_zero _))⟩
          case round =>
            clear HT4 HB4
            obtain ⟨k, hk, rfl, HTr, HBr, HLr⟩ := hrel
            by_cases hlt : k < 256
            · have hi := HIX.out k hlt wr
              have HLK := Lib.hid (show lostK h t k = (usedB (t.slots.getD k (0, 0)) && !h.isB (h.objK k)) from rfl)
              have HUS := Lib.hid (show t.slots.getD k (0, 0) ≠ (0, 0) → ¬ (t.slots.getD k (0, 0)).1 = 0 from fun hu e => by have := (HTr.out.ok.used k hu).1; have e : (t.at k).1 = 0 := e; omega)
              generalize t.slots.getD k (0, 0) = s at hi HLK HUS
              clear HIX
              rcases s with ⟨a, b⟩
              have hlt2 : (k : Int) < 256 := by omega
              by_cases hu : ((a, b) : Nat × Nat) = (0, 0)
              · obtain ⟨rfl, rfl⟩ : a = 0 ∧ b = 0 := by simpa using hu
                have HL := Lib.hid (show lostK h t k = false by rw [HLK.out]; rfl)
                have hbx := (Below.refl wr.heap.size wr).alloc (Nat.le_refl _) (.cells #[.int .u64 0, .int .i64 0] 93)
                have x0 : (wr.alloc (.cells #[.int .u64 0, .int .i64 0] 93)).cell? ⟨wr.heap.size, 0, none⟩ = some (.int .u64 0) := (Blk.new wr 93 #[.int .u64 0, .int .i64 0]).cell 0
                have x1 : (wr.alloc (.cells #[.int .u64 0, .int .i64 0] 93)).cell? ⟨wr.heap.size, 1, none⟩ = some (.int .i64 0) := (Blk.new wr 93 #[.int .u64 0, .int .i64 0]).cell 1
                have HT5 := Lib.hid (HTr.out.after hbx)
                have HB5 := Lib.hid (below_top HBr.out hbx)
                simp only [Int.natCast_zero] at hi
                clear hbx
                go_upto_region 9 with fail
                generalize wr.alloc (.cells #[.int .u64 0, .int .i64 0] 93) = w5 at *
                go_quiet (fail)
                go_wp2_with fail
                go_roundw
                case rel => exact ⟨k + 1, by omega, by go_num, Lib.hid (HT5.out.after (below_drewN (Below.refl _ w5) _)), Lib.hid (below_drewN HB5.out _), Lib.hid (fun j hj => by
                  rcases Nat.lt_or_ge j k with h | h
                  · exact HLr.out j h
                  · rw [show j = k by omega]; exact HL.out)⟩
                case measure => simp [intOf]; omega
              · have hl1 : lostK h t k = !h.isB (h.objK k) := by rw [HLK.out, (usedB_iff (a, b)).2 hu]; rfl
                have HL := Lib.hid hl1
                have ha0 : ¬ a = 0 := HUS.out hu
                have ha1 : ((a : Int) == 0) = false := by simpa using ha0
                have hbx := (Below.refl wr.heap.size wr).alloc (Nat.le_refl _) (.cells #[.int .u64 (a : Int), .int .i64 (b : Int)] 93)
                have x0 : (wr.alloc (.cells #[.int .u64 (a : Int), .int .i64 (b : Int)] 93)).cell? ⟨wr.heap.size, 0, none⟩ = some (.int .u64 (a : Int)) := (Blk.new wr 93 #[.int .u64 (a : Int), .int .i64 (b : Int)]).cell 0
                have x1 : (wr.alloc (.cells #[.int .u64 (a : Int), .int .i64 (b : Int)] 93)).cell? ⟨wr.heap.size, 1, none⟩ = some (.int .i64 (b : Int)) := (Blk.new wr 93 #[.int .u64 (a : Int), .int .i64 (b : Int)]).cell 1
                have T5 := HTr.out.after hbx
                have HB5 := Lib.hid (below_top HBr.out hbx)
                clear hbx hl1 HLK
                go_upto_region 9 with fail
                generalize wr.alloc (.cells #[.int .u64 (a : Int), .int .i64 (b : Int)] 93) = w5 at *
                have HT5 := Lib.hid T5.drew
                have d0 := T5.drew.c0
                have HOB := Lib.hid (T5.drew.obj1 (w0 := w) (below_drew HB5.out) (B := wr.heap.size) x0 x1 k (by omega))
                clear T5
                go_region_held3 (fun w' => w'.cell? ⟨gt, 0, none⟩ = some (.pointer (some ⟨g, 0, none⟩)) ∧ w'.cell? ⟨wr.heap.size, 0, none⟩ = some (.int .u64 (a : Int)) ∧ w'.cell? ⟨wr.heap.size, 1, none⟩ = some (.int .i64 (b : Int)))
                  (first | exact ⟨d0, x0, x1⟩ | exact ⟨c1, y0, y1⟩ | go_keep)
                  (first
                    | (go_at_call 96; (with_reducible refine HOB.out.mono ?_); rintro e w2 ⟨rfl, HT2, HB2, c1, y0, y1, HI2⟩)
                    | (go_at_call 85; (with_reducible refine HI2.out.mono ?_); rintro e w3 ⟨rfl, rfl⟩))
                generalize h.isB (h.objK k) = bb at *
                cases bb
                · have HBR := Lib.hid (show brkB h t = true by
                    rw [HV.out, List.any_eq_true]
                    exact ⟨k, List.mem_range.2 hlt, HL.out⟩)
                  go_wp2_with fail
                  go_ret
                  exact ⟨by rw [HBR.out]; rfl, HB2.out⟩
                · go_wp2_with fail
                  go_roundw
                  case rel => exact ⟨k + 1, by omega, by go_num, HT2, HB2, Lib.hid (fun j hj => by
                    rcases Nat.lt_or_ge j k with h | h
                    · exact HLr.out j h
                    · rw [show j = k by omega]; exact HL.out)⟩
                  case measure => simp [intOf]; omega
            · obtain rfl : k = 256 := by omega
              have HBR := Lib.hid (show brkB h t = false by
                rw [HV.out, List.any_eq_false]
                exact fun x hx => by rw [HLr.out x (List.mem_range.1 hx)]; simp)
              go_wp2_with fail
              go_ret
              exact ⟨by rw [HBR.out]; rfl, HBr.out⟩
      · have HV := Lib.hid (show brkB h t = true by rw [HB.out, HBA.out, decide_eq_true hf]; simp only [Bool.or_true, Bool.true_or])
        have hd1 : ((f : Int) != 1) = true := by simp; omega
        clear HB HBA
        go_quiet (fail)
        go_wp2_with fail
        go_ret
        exact ⟨by rw [HV.out]; rfl, below_drewN HB3.out _⟩
    · have HV := Lib.hid (show brkB h t = true by rw [HB.out, HBA.out, decide_eq_true (show (3 : Nat) ≠ 0 by decide)]; simp only [Bool.true_or])
      clear HB HBA
      go_quiet (fail)
      go_wp2_with fail
      go_ret
      exact ⟨by rw [HV.out]; rfl, below_drewN HB3.out _⟩
end
end Go.Proofs.YtlkahgagmfhdaaaGreatDoor

namespace Go.Proofs.YtlkahgagmfhdaaaGreatDoor
open Go.RowKit
attribute [local go_sem] Oper.semAt_some

def TM.findI (t : TM) (id : Nat) : Int := if t.find id < 256 then (t.find id : Int) else -1
def TM.freeI (t : TM) : Int := if t.free < t.cap then (t.free : Int) else -1
section
variable {t : TM}
theorem find_at (hl : t.slots.length = 256) {id k : Nat} (hk : k < 256) (h1 : (t.at k).1 = id) (h2 : ∀ j, j < k → (t.at j).1 ≠ id) : t.find id = k := by
  refine (List.findIdx_eq (show k < t.slots.length by omega)).2 ⟨?_, fun j hj => ?_⟩
  · rw [TM.at_get (by omega)] at h1
    exact beq_iff_eq.2 h1
  · have := h2 j hj
    rw [TM.at_get (by omega)] at this
    exact beq_eq_false_iff_ne.2 this
theorem find_none (hl : t.slots.length = 256) {id : Nat} (h2 : ∀ j, j < 256 → (t.at j).1 ≠ id) : ¬ t.find id < 256 := by
  intro hf
  have hl' : t.find id < t.slots.length := by omega
  have h1 := List.findIdx_getElem (xs := t.slots) (p := fun s : Nat × Nat => s.1 == id) (w := hl')
  have h3 := h2 (t.find id) hf
  rw [TM.at_get hl'] at h3
  exact h3 (eq_of_beq h1)
theorem take_at (O : t.Ok) {k : Nat} (hk : k < t.cap) : (t.slots.take t.cap)[k]'(by rw [List.length_take, O.len]; have := O.hi; omega) = t.at k := by
  have := O.len
  have := O.hi
  rw [List.getElem_take, TM.at_get (by omega)]
theorem free_at (O : t.Ok) {k : Nat} (hk : k < t.cap) (h1 : t.at k = (0, 0)) (h2 : ∀ j, j < k → t.at j ≠ (0, 0)) : t.free = k := by
  have hl : k < (t.slots.take t.cap).length := by rw [List.length_take, O.len]; have := O.hi; omega
  refine (List.findIdx_eq hl).2 ⟨?_, fun j hj => ?_⟩
  · rw [take_at O hk]; exact decide_eq_true h1
  · rw [take_at O (by omega)]; exact decide_eq_false (h2 j hj)
theorem free_none (O : t.Ok) (h2 : ∀ j, j < t.cap → t.at j ≠ (0, 0)) : ¬ t.free < t.cap := by
  intro hf
  exact h2 t.free hf (TM.free_lt O hf)
end
section
variable {W w : World} {p : HP} {g gt : Nat} {h : HM} {t : TM} (T : HT W w p g gt h t)
include T
theorem place1_any {B id : Nat} (hB : w.cell? ⟨B, 0, none⟩ = some (.int .u64 (id : Int))) (a b : Nat) : Calls Tryz.prog 224 #[.agg #[.int .u64 (a : Int), .int .i64 (b : Int)], .pointer (some ⟨B, 0, none⟩)] w (Told (.bool (decide (a = id))) w) := by
  have hlt := World.block_lt_of_cell? _ _ hB
  clear T
  have hb := (Below.refl w.heap.size w).alloc (Nat.le_refl _) (.cells #[.int .u64 (a : Int), .int .i64 (b : Int)] 93)
  have hne : B ≠ w.heap.size := by simp only at hlt; omega
  have hB2 : (w.alloc (.cells #[.int .u64 (a : Int), .int .i64 (b : Int)] 93)).cell? ⟨B, 0, none⟩ = some (.int .u64 (id : Int)) := (hb.cell (p := ⟨B, 0, none⟩) hlt).trans hB
  have HB := Lib.hid hb
  clear hb
  by_cases he : a = id
  · subst he
    go_enter Tryz.func224, Tryz.ntmps224
    go_wp2_with fail
    go_ret
    exact ⟨by simp, HB.out⟩
  · have he2 : ((a : Int) == (id : Int)) = false := beq_eq_false_iff_ne.2 (by omega)
    go_enter Tryz.func224, Tryz.ntmps224
    go_wp2_with fail
    go_ret
    exact ⟨by simp [he], HB.out⟩
set_option maxRecDepth 100000 in
set_option maxHeartbeats 2000000 in
theorem tindexFunc_any {B id : Nat} (hB : w.cell? ⟨B, 0, none⟩ = some (.int .u64 (id : Int))) :
    Calls Tryz.prog 223 #[.slice (some ⟨gt, 1, none⟩) 256 256, .func (.func 224) #[] #[.pointer (some ⟨B, 0, none⟩)]] w (Told (.int .i64 (t.findI id)) w) := by
  have HT0 := Lib.hid T
  have HB0 := Lib.hid hB
  have hlt := Lib.hid (World.block_lt_of_cell? _ _ hB)
  clear T hB
  go_enter Tryz.func223, Tryz.ntmps223
  go_wp2_with fail
  go_loopw [8] (fun i wr => ∃ k : Nat, k ≤ 256 ∧ i = .int .i64 (k : Int) ∧ Hid (Below w.heap.size w wr) ∧ Hid (∀ j, j < k → (t.at j).1 ≠ id)) (fun i _ => 256 - (intOf i).toNat)
  case atStart => exact ⟨0, by omega, rfl, Lib.hid (Below.refl _ _), Lib.hid (fun j hj => absurd hj (Nat.not_lt_zero _))⟩
  case round =>
    obtain ⟨k, hk, rfl, HBr, HNr⟩ := hrel
    by_cases hlt2 : k < 256
    · have T1 := HT0.out.after HBr.out
      have x0 := T1.cId hlt2
      have x1 := T1.cExp hlt2
      have hlt3 : (k : Int) < 256 := by omega
      have HP := Lib.hid (place1_any T1 (B := B) (id := id) ((HBr.out.cell (p := ⟨B, 0, none⟩) hlt.out).trans HB0.out) (t.at k).1 (t.at k).2)
      have HEQ := Lib.hid (show ∀ hh : (t.at k).1 = id, t.findI id = (k : Int) from fun hh => by
        unfold TM.findI
        rw [find_at HT0.out.ok.len hlt2 hh HNr.out, if_pos hlt2])
      have HNE := Lib.hid (show (t.at k).1 ≠ id → ∀ j, j < k + 1 → (t.at j).1 ≠ id from fun hh j hj => by
        rcases Nat.lt_or_ge j k with h | h
        · exact HNr.out j h
        · rw [show j = k by omega]; exact hh)
      clear T1
      generalize (t.at k).1 = a at x0 HP HEQ HNE
      generalize (t.at k).2 = b at x1 HP
      go_wp2_with fail
      refine HP.out.mono ?_
      rintro e w2 ⟨rfl, hb2⟩
      have HB2 := Lib.hid (below_top HBr.out hb2)
      clear hb2 x0 x1 HP
      by_cases he : a = id
      · have hf := HEQ.out he
        rw [decide_eq_true he]
        have HF := Lib.hid hf
        clear hf
        go_wp2_with fail
        go_ret
        exact ⟨by rw [HF.out]; rfl, HB2.out⟩
      · rw [decide_eq_false he]
        go_wp2_with fail
        go_roundw
        case rel => exact ⟨k + 1, by omega, by go_num, HB2, Lib.hid (HNE.out he)⟩
        case measure => simp [intOf]; omega
    · obtain rfl : k = 256 := by omega
      have HF := Lib.hid (show t.findI id = -1 by unfold TM.findI; rw [if_neg (find_none HT0.out.ok.len HNr.out)])
      go_wp2_with fail
      go_ret
      exact ⟨by rw [HF.out]; rfl, HBr.out⟩
set_option maxRecDepth 100000 in
set_option maxHeartbeats 2000000 in
theorem tindex_any : Calls Tryz.prog 87 #[.slice (some ⟨gt, 1, none⟩) t.cap 256, .agg #[.int .u64 0, .int .i64 0]] w (Told (.int .i64 t.freeI) w) := by
  have HT0 := Lib.hid T
  have hlo := T.ok.lo
  have hhi := T.ok.hi
  have hb0 := (Below.refl w.heap.size w).alloc (Nat.le_refl _) (.cells #[.int .u64 0, .int .i64 0] 93)
  have HB0 := Lib.hid hb0
  have X := Lib.hid (Blk.new w 93 #[.int .u64 0, .int .i64 0])
  clear T hb0
  go_enter Tryz.func87, Tryz.ntmps87
  go_wp2_with fail
  generalize w.alloc (.cells #[.int .u64 0, .int .i64 0] 93) = w1 at *
  go_loopw [8] (fun i wr => ∃ k : Nat, k ≤ t.cap ∧ i = .int .i64 (k : Int) ∧ Hid (Below w1.heap.size w1 wr) ∧ Hid (∀ j, j < k → t.at j ≠ (0, 0))) (fun i _ => t.cap - (intOf i).toNat)
  case atStart => exact ⟨0, by omega, rfl, Lib.hid (Below.refl _ _), Lib.hid (fun j hj => absurd hj (Nat.not_lt_zero _))⟩
  case round =>
    obtain ⟨k, hk, rfl, HBr, HNr⟩ := hrel
    by_cases hlt : k < t.cap
    · have T1 := HT0.out.after (HB0.out.trans (HBr.out.mono HB0.out.size))
      have x0 := T1.cId (show k < 256 by omega)
      have x1 := T1.cExp (show k < 256 by omega)
      have y0 : wr.cell? ⟨w.heap.size, 0, none⟩ = some (.int .u64 0) := (X.out.below HBr.out X.out.lt).cell 0
      have y1 : wr.cell? ⟨w.heap.size, 1, none⟩ = some (.int .i64 0) := (X.out.below HBr.out X.out.lt).cell 1
      have hlt3 : (k : Int) < (t.cap : Int) := by omega
      by_cases hu : t.at k = (0, 0)
      · have HF := Lib.hid (show t.freeI = (k : Int) by unfold TM.freeI; rw [free_at HT0.out.ok hlt hu HNr.out, if_pos hlt])
        rw [hu] at x0 x1
        simp only [Int.natCast_zero] at x0 x1
        have HBW := Lib.hid (HB0.out.trans (HBr.out.mono HB0.out.size))
        clear T1 hu
        go_wp2_with fail
        go_quiet (fail)
        go_wp2_with fail
        go_ret
        exact ⟨by rw [HF.out]; rfl, below_drewN HBW.out _⟩
      · have ha0 : ¬ (t.at k).1 = 0 := by have := (HT0.out.ok.used k hu).1; omega
        have ha1 : (((t.at k).1 : Int) == 0) = false := by simpa using ha0
        have ha2 : ((0 : Int) == ((t.at k).1 : Int)) = false := by simp; omega
        have ha3 : ¬ 0 = (t.at k).1 := fun e => ha0 e.symm
        have HNE := Lib.hid (show ∀ j, j < k + 1 → t.at j ≠ (0, 0) from fun j hj => by
          rcases Nat.lt_or_ge j k with h | h
          · exact HNr.out j h
          · rw [show j = k by omega]; exact hu)
        clear T1 hu
        generalize (t.at k).1 = a at *
        generalize (t.at k).2 = b at *
        go_wp2_with fail
        go_quiet (fail)
        go_wp2_with fail
        go_roundw
        case rel => exact ⟨k + 1, by omega, by go_num, Lib.hid (below_drewN HBr.out _), HNE⟩
        case measure => simp [intOf]; omega
    · obtain rfl : k = t.cap := by omega
      have HF := Lib.hid (show t.freeI = -1 by unfold TM.freeI; rw [if_neg (free_none HT0.out.ok HNr.out)])
      have HBW := Lib.hid (HB0.out.trans (HBr.out.mono HB0.out.size))
      go_wp2_with fail
      go_ret
      exact ⟨by rw [HF.out]; rfl, HBW.out⟩
theorem tplace_any (id : Nat) (h0 : id < 18446744073709551616) : Calls Tryz.prog 174 #[.pointer (some ⟨gt, 0, none⟩), .int .u64 (id : Int)] w (Told (.int .i64 (if id = 0 then -1 else t.findI id)) w) := by
  have hb0 := (Below.refl w.heap.size w).alloc (Nat.le_refl _) (.cells #[.int .u64 (id : Int)] 47)
  have x0 : (w.alloc (.cells #[.int .u64 (id : Int)] 47)).cell? ⟨w.heap.size, 0, none⟩ = some (.int .u64 (id : Int)) := (Blk.new w 47 #[.int .u64 (id : Int)]).cell 0
  have HI := Lib.hid (tindexFunc_any (T.after hb0) x0)
  have HB0 := Lib.hid hb0
  clear T hb0
  by_cases hz : id = 0
  · subst hz
    rw [if_pos rfl]
    simp only [Int.natCast_zero] at x0 ⊢
    clear HI
    simp only [Int.natCast_zero] at HB0
    go_enter Tryz.func174, Tryz.ntmps174
    go_wp2_with fail
    go_ret
    exact ⟨rfl, HB0.out⟩
  · rw [if_neg hz]
    have hz2 : ((id : Int) == 0) = false := by simpa using hz
    go_enter Tryz.func174, Tryz.ntmps174
    go_wp2_with fail
    refine HI.out.mono ?_
    rintro e w2 ⟨rfl, hb2⟩
    have HB2 := Lib.hid (below_top HB0.out hb2)
    clear hb2
    go_wp2_with fail
    go_ret
    exact ⟨rfl, HB2.out⟩
end
end Go.Proofs.YtlkahgagmfhdaaaGreatDoor

namespace Go.Proofs.YtlkahgagmfhdaaaGreatDoor
open Go.RowKit
attribute [local go_sem] Oper.semAt_some

theorem fnd_ok {h : HM} {t : TM} (O : t.Ok) {id : Nat} (he : fndE h t id = 0) : fndK h t id = t.find id ∧ t.find id < 256 ∧ t.at (t.find id) ≠ (0, 0) ∧ (t.at (t.find id)).1 = id := by
  have h1 : fndK h t id = t.find id := by unfold fndK; rw [if_pos he]
  unfold fndE at he
  split at he
  · cases he
  · split at he
    · cases he
    · rename_i hz
      have hlt : t.find id < 256 := Classical.byContradiction fun e => hz (.inr e)
      have hf := TM.find_lt O (fun e => hz (.inl e)) hlt
      exact ⟨h1, hlt, hf.2, hf.1⟩
theorem TM.Ok.bump {t : TM} (O : t.Ok) (h0 : t.next ≠ 0) : ({ t with next := if t.next = 18446744073709551615 then 0 else t.next + 1 } : TM).Ok := by
  have hn := O.n64
  refine ⟨O.len, O.lo, O.hi, O.off, O.used, O.id64, O.exp, ?_, O.nw, O.uniq, fun h1 k => ?_⟩
  · show (if t.next = 18446744073709551615 then 0 else t.next + 1) < _
    split <;> omega
  · have h2 := O.rise h0 k
    have h1 : (if t.next = 18446744073709551615 then 0 else t.next + 1) ≠ 0 := h1
    show (t.at k).1 < (if t.next = 18446744073709551615 then 0 else t.next + 1)
    split at h1
    · exact absurd rfl h1
    · rename_i hh
      rw [if_neg hh]
      omega
section
variable {W w : World} {p : HP} {g gt : Nat} {h : HM} {t : TM} (T : HT W w p g gt h t)
include T
theorem tfind_any (id : Nat) (h0 : id < 18446744073709551616) : Calls Tryz.prog 95 #[.pointer (some ⟨gt, 0, none⟩), .int .u64 (id : Int)] w (Told (.tuple #[.int .i64 (fndK h t id : Nat), .int .i64 (fndE h t id : Nat)]) w) := by
  have HBR := tbroken_any T
  have HT0 := Lib.hid T
  clear T
  by_cases hb : brkB h t = true
  · have HF := Lib.hid (show fndE h t id = 164 ∧ fndK h t id = 0 by
      have h1 : fndE h t id = 164 := by unfold fndE; rw [if_pos hb]
      exact ⟨h1, by unfold fndK; rw [h1, if_neg (by decide)]⟩)
    rw [hb] at HBR
    have HBR := Lib.hid HBR
    go_enter Tryz.func95, Tryz.ntmps95
    go_wp2_with fail
    refine HBR.out.mono ?_
    rintro e w1 ⟨rfl, hb1⟩
    have HB1 := Lib.hid hb1
    clear hb1
    go_wp2_with fail
    go_ret2
    exact ⟨by rw [HF.out.1, HF.out.2]; rfl, HB1.out⟩
  · have hb' : brkB h t = false := by simpa using hb
    rw [hb'] at HBR
    have HBR := Lib.hid HBR
    have HPL := Lib.hid (fun w1 (hb1 : Below w.heap.size w w1) => tplace_any (HT0.out.after hb1) id h0)
    have HE := Lib.hid (show fndE h t id = if id = 0 ∨ ¬ t.find id < 256 then 160 else 0 by unfold fndE; rw [if_neg hb])
    clear hb hb'
    by_cases hz : id = 0 ∨ ¬ t.find id < 256
    · have HF := Lib.hid (show fndE h t id = 160 ∧ fndK h t id = 0 by
        have h1 : fndE h t id = 160 := by rw [HE.out, if_pos hz]
        exact ⟨h1, by unfold fndK; rw [h1, if_neg (by decide)]⟩)
      have HV := Lib.hid (show (if id = 0 then -1 else t.findI id) = -1 by
        by_cases h1 : id = 0
        · rw [if_pos h1]
        · rw [if_neg h1]; unfold TM.findI; rw [if_neg (hz.resolve_left h1)])
      rw [HV.out] at HPL
      clear hz HE
      go_enter Tryz.func95, Tryz.ntmps95
      go_wp2_with fail
      refine HBR.out.mono ?_
      rintro e w1 ⟨rfl, hb1⟩
      have HB1 := Lib.hid hb1
      clear hb1
      go_wp2_with fail
      refine (HPL.out _ HB1.out).mono ?_
      rintro e w2 ⟨rfl, hb2⟩
      have HB2 := Lib.hid (below_top HB1.out hb2)
      clear hb2
      go_wp2_with fail
      go_ret2
      exact ⟨by rw [HF.out.1, HF.out.2]; rfl, HB2.out⟩
    · have HF := Lib.hid (show fndE h t id = 0 ∧ fndK h t id = t.find id by
        have h1 : fndE h t id = 0 := by rw [HE.out, if_neg hz]
        exact ⟨h1, by unfold fndK; rw [h1, if_pos rfl]⟩)
      have HV := Lib.hid (show (if id = 0 then -1 else t.findI id) = (t.find id : Int) by
        rw [if_neg (fun e => hz (.inl e))]
        unfold TM.findI
        rw [if_pos (Classical.byContradiction fun e => hz (.inr e))])
      rw [HV.out] at HPL
      generalize t.find id = k at *
      clear hz HE HV
      go_enter Tryz.func95, Tryz.ntmps95
      go_wp2_with fail
      refine HBR.out.mono ?_
      rintro e w1 ⟨rfl, hb1⟩
      have HB1 := Lib.hid hb1
      clear hb1
      go_wp2_with fail
      refine (HPL.out _ HB1.out).mono ?_
      rintro e w2 ⟨rfl, hb2⟩
      have HB2 := Lib.hid (below_top HB1.out hb2)
      clear hb2
      go_wp2_with fail
      go_ret2
      exact ⟨by rw [HF.out.1, HF.out.2]; rfl, HB2.out⟩
theorem tget_any (id : Nat) (h0 : id < 18446744073709551616) : Calls Tryz.prog 30 #[.pointer (some ⟨gt, 0, none⟩), .int .u64 (id : Int)] w (Told (.tuple #[.int .u32 (gotV h t id : Nat), .int .i64 (fndE h t id : Nat)]) w) := by
  have HFD := Lib.hid (tfind_any T id h0)
  have HT0 := Lib.hid T
  clear T
  by_cases he : fndE h t id = 0
  · obtain ⟨h1, h2, h3, h4⟩ := fnd_ok HT0.out.ok he
    have HG := Lib.hid (show gotV h t id = h.objK (t.find id) by unfold gotV; rw [if_pos he])
    have HO := Lib.hid (fun w1 (hb1 : Below w.heap.size w w1) => hobj_any (HT0.out.after hb1) (t.find id) (by omega))
    rw [he, h1] at HFD
    clear h1 h3 h4
    rw [he]
    generalize t.find id = k at *
    simp only [Int.natCast_zero] at HFD ⊢
    go_enter Tryz.func30, Tryz.ntmps30
    go_wp2_with fail
    refine HFD.out.mono ?_
    rintro e w1 ⟨rfl, hb1⟩
    have HB1 := Lib.hid hb1
    clear hb1
    go_wp2_with fail
    refine (HO.out _ HB1.out).mono ?_
    rintro e w2 ⟨rfl, hb2⟩
    have HB2 := Lib.hid (below_top HB1.out hb2)
    clear hb2
    go_wp2_with fail
    go_ret2
    exact ⟨by rw [HG.out]; rfl, HB2.out⟩
  · have HG := Lib.hid (show gotV h t id = 0 by unfold gotV; rw [if_neg he])
    have hne : ((fndE h t id : Int) != 0) = true := by simp; omega
    generalize fndE h t id = E at *
    go_enter Tryz.func30, Tryz.ntmps30
    go_wp2_with fail
    refine HFD.out.mono ?_
    rintro e w1 ⟨rfl, hb1⟩
    have HB1 := Lib.hid hb1
    clear hb1
    go_wp2_with fail
    go_ret2
    exact ⟨by rw [HG.out]; rfl, HB1.out⟩
end
end Go.Proofs.YtlkahgagmfhdaaaGreatDoor

namespace Go.Proofs.YtlkahgagmfhdaaaGreatDoor
open Go.RowKit
attribute [local go_sem] Oper.semAt_some

theorem issE_bad {h : HM} {t : TM} {o : Nat} {n : Int} {E : Nat} (he : issE h t o n = E) (h0 : E ≠ 0) : issT h t o n = t ∧ issH h t o n = h ∧ issV h t o n = 0 := by
  subst he
  exact ⟨by unfold issT; rw [if_neg h0], by unfold issH; rw [if_neg h0], by unfold issV; rw [if_neg h0]⟩
section
variable {W w : World} {p : HP} {g gt : Nat} {h : HM} {t : TM} (T : HT W w p g gt h t)
include T
/-- slices.Index over the slots, with what lies there behind it. -/
theorem HT.idx1 {w0 : World} (hb : Below w0.heap.size w0 w) :
    Calls Tryz.prog 87 #[.slice (some ⟨gt, 1, none⟩) t.cap 256, .agg #[.int .u64 0, .int .i64 0]] w fun e w2 => e = .returned (.int .i64 t.freeI) ∧ Hid (HT W w2 p g gt h t) ∧ Hid (Below w0.heap.size w0 w2) ∧ w2.cell? ⟨gt, 513, none⟩ = some (.int .i64 (t.cap : Int)) :=
  (tindex_any T).mono fun e w2 hh => ⟨hh.1, Lib.hid (T.after hh.2), Lib.hid (below_top hb hh.2), (T.after hh.2).cCap⟩
set_option maxRecDepth 100000 in
set_option maxHeartbeats 4000000 in
theorem tissue_any (o : Nat) (ho : o < 4294967296) (n : Int) : Calls Tryz.prog 26 #[.pointer (some ⟨gt, 0, none⟩), .int .u32 (o : Nat), .int .i64 n] w (HDone W p g gt (issH h t o n) (issT h t o n) (.tuple #[.int .u64 (issV h t o n : Nat), .int .i64 (issE h t o n : Nat)]) w) := by
  have HBR := Lib.hid (tbroken_any T)
  have HT0 := Lib.hid T
  have HLE := Lib.hid (fun w1 => hlease_any n w1)
  have HIS := Lib.hid (fun w1 (hb1 : Below w.heap.size w w1) => (HT0.out.after hb1).live.is o ho)
  have HIE := Lib.hid (show issE h t o n = if brkB h t then 164 else if h.isB o = false then 3 else if leaseB n = false then 162 else if ¬ t.free < t.cap then 161 else if t.next = 0 then 163 else 0 from rfl)
  have hlo := T.ok.lo
  have hhi := T.ok.hi
  clear T
  cases hbr : brkB h t with
  | true =>
    have he : issE h t o n = 164 := by rw [HIE.out, hbr, if_pos rfl]
    obtain ⟨e1, e2, e3⟩ := issE_bad he (by decide)
    have HV := Lib.hid (And.intro e1 (And.intro e2 (And.intro e3 he)))
    rw [hbr] at HBR
    clear he e1 e2 e3
    go_enter Tryz.func26, Tryz.ntmps26
    go_wp2_with fail
    refine HBR.out.mono ?_
    rintro e w1 ⟨rfl, hb1⟩
    have HB1 := Lib.hid hb1
    clear hb1
    go_wp2_with fail
    go_ret2
    exact ⟨by rw [HV.out.2.2.1, HV.out.2.2.2]; rfl, by rw [HV.out.1, HV.out.2.1]; exact HT0.out.after HB1.out, HKeep.of_below HB1.out⟩
  | false =>
    have HIE2 := Lib.hid (HIE.out.trans (by rw [hbr, if_neg (by decide)]))
    rw [hbr] at HBR
    clear HIE
    cases hib : h.isB o with
    | false =>
      have he : issE h t o n = 3 := by rw [HIE2.out, hib, if_pos rfl]
      obtain ⟨e1, e2, e3⟩ := issE_bad he (by decide)
      have HV := Lib.hid (And.intro e1 (And.intro e2 (And.intro e3 he)))
      rw [hib] at HIS
      clear he e1 e2 e3 HIE2
      go_enter Tryz.func26, Tryz.ntmps26
      go_wp2_with fail
      refine HBR.out.mono ?_
      rintro e w1 ⟨rfl, hb1⟩
      have HB1 := Lib.hid hb1
      have c0 := (HT0.out.after hb1).c0
      clear hb1
      go_wp2_with fail
      refine (HIS.out _ HB1.out).mono ?_
      rintro e w2 ⟨rfl, rfl⟩
      go_wp2_with fail
      go_ret2
      exact ⟨by rw [HV.out.2.2.1, HV.out.2.2.2]; rfl, by rw [HV.out.1, HV.out.2.1]; exact HT0.out.after HB1.out, HKeep.of_below HB1.out⟩
    | true =>
      have HIE3 := Lib.hid (HIE2.out.trans (by rw [hib, if_neg (by decide)]))
      rw [hib] at HIS
      clear HIE2
      cases hle : leaseB n with
      | false =>
        have he : issE h t o n = 162 := by rw [HIE3.out, hle, if_pos rfl]
        obtain ⟨e1, e2, e3⟩ := issE_bad he (by decide)
        have HV := Lib.hid (And.intro e1 (And.intro e2 (And.intro e3 he)))
        rw [hle] at HLE
        clear he e1 e2 e3 HIE3
        go_enter Tryz.func26, Tryz.ntmps26
        go_wp2_with fail
        refine HBR.out.mono ?_
        rintro e w1 ⟨rfl, hb1⟩
        have HB1 := Lib.hid hb1
        have c0 := (HT0.out.after hb1).c0
        clear hb1
        go_wp2_with fail
        refine (HIS.out _ HB1.out).mono ?_
        rintro e w2 ⟨rfl, rfl⟩
        go_wp2_with fail
        refine (HLE.out _).mono ?_
        rintro e w2 ⟨rfl, rfl⟩
        go_wp2_with fail
        go_ret2
        exact ⟨by rw [HV.out.2.2.1, HV.out.2.2.2]; rfl, by rw [HV.out.1, HV.out.2.1]; exact HT0.out.after HB1.out, HKeep.of_below HB1.out⟩
      | true =>
        have HIE4 := Lib.hid (HIE3.out.trans (by rw [hle, if_neg (by decide)]))
        rw [hle] at HLE
        have hn : 1 ≤ n ∧ n ≤ 1000000 := by unfold leaseB at hle; simpa using hle
        obtain ⟨m, rfl⟩ := Int.eq_ofNat_of_zero_le (show 0 ≤ n by omega)
        have hm1 : 1 ≤ m := by omega
        have hm2 : m ≤ 1000000 := by omega
        clear HIE3 hle hib hbr hn
        have hcap3 : (0 : Int) ≤ (t.cap : Int) := by omega
        have hcap4 : (t.cap : Int) ≤ 256 := by omega
        go_enter Tryz.func26, Tryz.ntmps26
        go_wp2_with fail
        refine HBR.out.mono ?_
        rintro e w1 ⟨rfl, hb1⟩
        have HB1 := Lib.hid hb1
        have c0 := (HT0.out.after hb1).c0
        have c5 := (HT0.out.after hb1).drew.cCap
        have HIX := Lib.hid ((HT0.out.after hb1).drew.idx1 (w0 := w) (below_drew hb1))
        clear hb1
        go_wp2_with fail
        refine (HIS.out _ HB1.out).mono ?_
        rintro e w2 ⟨rfl, rfl⟩
        go_wp2_with fail
        refine (HLE.out _).mono ?_
        rintro e w2 ⟨rfl, rfl⟩
        go_upto_region 7 with fail
        go_cut [8] from 22 to 31 (fun s8 wx => s8 = .int .i64 t.freeI ∧ Hid (HT W wx p g gt h t) ∧ Hid (Below w.heap.size w wx))
        case first =>
          go_region_held3 (fun w' => w'.cell? ⟨gt, 513, none⟩ = some (.int .i64 (t.cap : Int)))
            (first | with_reducible exact c5 | with_reducible exact c1 | go_keep)
            (first
              | (go_at_call 87; (with_reducible refine HIX.out.mono ?_); rintro e w2 ⟨rfl, HT2, HB2, c1⟩))
          all_goals go_wp2_with fail
          all_goals go_meet
          all_goals exact ⟨rfl, HT2, HB2⟩
        case rest =>
          obtain ⟨rfl, HT2, HB2⟩ := hcut
          clear HIX c5 c0 HB1 HIS HBR HLE
          have c4 := HT2.out.cNext
          by_cases hfr : t.free < t.cap
          · have hfi : t.freeI = (t.free : Int) := by unfold TM.freeI; rw [if_pos hfr]
            have HIE5 := Lib.hid (HIE4.out.trans (by rw [if_neg (not_not_intro hfr)]))
            rw [hfi]
            clear hfi
            by_cases hnx : t.next = 0
            · have he : issE h t o m = 163 := by rw [HIE5.out, if_pos hnx]
              obtain ⟨e1, e2, e3⟩ := issE_bad he (by decide)
              have HV := Lib.hid (And.intro e1 (And.intro e2 (And.intro e3 he)))
              rw [hnx] at c4
              simp only [Int.natCast_zero] at c4
              clear he e1 e2 e3 HIE5 HIE4 hnx
              go_wp2_with fail
              go_ret2
              exact ⟨by rw [HV.out.2.2.1, HV.out.2.2.2]; rfl, by rw [HV.out.1, HV.out.2.1]; exact HT2.out, HKeep.of_below HB2.out⟩
            · have he : issE h t o m = 0 := by rw [HIE5.out, if_neg hnx]
              have HV := Lib.hid (show issT h t o m = t.issue t.free m ∧ issH h t o m = h.putH h.arr t.free o ∧ issV h t o m = t.next ∧ issE h t o m = 0 from
                ⟨by unfold issT; rw [if_pos he]; rfl, by unfold issH; rw [if_pos he], by unfold issV; rw [if_pos he], he⟩)
              have h256 : t.free < 256 := by omega
              have O1 := HT2.out.ok.bump hnx
              have O2 := HT2.out.ok.issue (n := m) hfr (TM.free_lt HT2.out.ok hfr) hnx hm1 hm2
              have T3 := HT2.out.setNext _ O1
              have T4 := (T3.slot h256 (t.next, t.now + m) O2).drew
              have K3 : HKeep p gt w (wc.setCell ⟨gt, 514, none⟩ (.int .u64 ((if t.next = 18446744073709551615 then 0 else t.next + 1 : Nat) : Int))) := (HKeep.of_below HB2.out).setCell _ _
              have K4 := ((K3.setCell (1 + t.free * 2) (.int .u64 (t.next : Int))).setCell (1 + t.free * 2 + 1) (.int .i64 ((t.now + m : Nat) : Int))).drew
              have a1 : IntKind.u64.wrap ((t.next : Int) + 1) = ((if t.next = 18446744073709551615 then 0 else t.next + 1 : Nat) : Int) := by
                have := HT2.out.ok.n64
                have hb : IntKind.u64.bits = 64 := rfl
                unfold IntKind.wrap
                simp [hb, IntKind.signed]
                split <;> omega
              have a2 : IntKind.i64.wrap ((t.now : Int) + (m : Int)) = (t.now : Int) + (m : Int) := IntWalk.i64_in _ (by have := HT2.out.ok.nw; omega)
              have HPT := Lib.hid (htput_any T4 t.free (by omega) o ho)
              have HK4 := Lib.hid K4
              have x0 := HT2.out.cId h256
              have x1 := HT2.out.cExp h256
              have c6 := HT2.out.cNow
              have fz := HT2.out.tab.fz
              have hk3 : (t.free : Int) < 256 := by omega
              have hnx2 : ((t.next : Int) == 0) = false := by simp; omega
              have HV2 := Lib.hid HV.out.1
              clear O1 O2 T3 T4 K3 K4 he hfr HIE5 HIE4 hnx
              unfold TM.issue at HV2
              simp only at HPT HK4
              rw [Int.natCast_add] at HPT HK4
              generalize (if t.next = 18446744073709551615 then 0 else t.next + 1) = N at *
              generalize t.free = k at *
              go_wp2_with fail
              go_region
              all_goals go_wp2_with fail
              all_goals refine HPT.out.mono ?_
              all_goals rintro e w3 ⟨rfl, T5, K5⟩
              all_goals have HT5 := Lib.hid T5
              all_goals have HK5 := Lib.hid (HK4.out.trans K5)
              all_goals clear T5 K5
              all_goals go_wp2_with fail
              all_goals go_ret2
              all_goals exact ⟨by rw [HV.out.2.2.1, HV.out.2.2.2]; rfl, by rw [HV.out.2.1, HV2.out]; exact HT5.out, HK5.out⟩
          · have hfi : t.freeI = -1 := by unfold TM.freeI; rw [if_neg hfr]
            have he : issE h t o m = 161 := by rw [HIE4.out, if_pos hfr]
            obtain ⟨e1, e2, e3⟩ := issE_bad he (by decide)
            have HV := Lib.hid (And.intro e1 (And.intro e2 (And.intro e3 he)))
            rw [hfi]
            clear he e1 e2 e3 HIE4 hfi
            go_wp2_with fail
            go_ret2
            exact ⟨by rw [HV.out.2.2.1, HV.out.2.2.2]; rfl, by rw [HV.out.1, HV.out.2.1]; exact HT2.out, HKeep.of_below HB2.out⟩
end
end Go.Proofs.YtlkahgagmfhdaaaGreatDoor

namespace Go.Proofs.YtlkahgagmfhdaaaGreatDoor
open Go.RowKit
attribute [local go_sem] Oper.semAt_some

section
variable {W w : World} {p : HP} {g gt : Nat} {h : HM} {t : TM} (T : HT W w p g gt h t)
include T
end
end Go.Proofs.YtlkahgagmfhdaaaGreatDoor
