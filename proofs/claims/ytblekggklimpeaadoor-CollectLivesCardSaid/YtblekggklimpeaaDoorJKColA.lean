/- Collect: the mover's first state and its steps outside lay. -/
import Derived.Test.YtblekggklimpeaaDoorJKLay
set_option linter.unusedVariables false
set_option linter.unusedSimpArgs false
namespace Go.Proofs.YtblekggklimpeaaDoor
open Go.RowKit
attribute [local go_sem] Oper.semAt_some
/-- Memory but for two blocks. -/
structure Fr2 (a b : Nat) (w w' : World) : Prop where
  os : w'.os = w.os
  tape : w'.tape = w.tape
  output : w'.output = w.output
  size : w.heap.size ≤ w'.heap.size
  same : ∀ k, k < w.heap.size → k ≠ a → k ≠ b → w'.heap[k]? = w.heap[k]?
theorem Fr2.refl (a b : Nat) (w : World) : Fr2 a b w w := ⟨rfl, rfl, rfl, Nat.le_refl _, fun _ _ _ _ => rfl⟩
theorem Fr2.of_below {a b : Nat} {w w' : World} (h : Below w.heap.size w w') : Fr2 a b w w' := ⟨h.os, h.tape, h.output, h.size, fun k hk _ _ => h.block k hk⟩
theorem Fr2.trans {a b : Nat} {w w1 w2 : World} (h : Fr2 a b w w1) (k : Fr2 a b w1 w2) : Fr2 a b w w2 :=
  ⟨k.os.trans h.os, k.tape.trans h.tape, k.output.trans h.output, Nat.le_trans h.size k.size, fun q hq h1 h2 => (k.same q (Nat.lt_of_lt_of_le hq h.size) h1 h2).trans (h.same q hq h1 h2)⟩
theorem Fr2.grown {a b : Nat} {w w' : World} (h : w.grownBy w' (some b)) : Fr2 a b w w' :=
  ⟨h.os, h.tape, h.output, h.size, fun k hk _ h2 => h.block k hk (fun e => h2 (by injection e))⟩
theorem Fr2.setA {b : Nat} (w : World) (a : Addr) (u : Value) : Fr2 a.block b w (w.setCell a u) :=
  ⟨rfl, rfl, rfl, by simp [World.setCell], fun k _ h1 _ => Below.heap_setCell w a u k h1⟩
theorem Fr2.below {a b B : Nat} {w w' : World} (h : Fr2 a b w w') (ha : B ≤ a) (hb : B ≤ b) (hw : B ≤ w.heap.size) : Below B w w' :=
  ⟨h.os, h.tape, h.output, h.size, fun k hk => h.same k (by omega) (by omega) (by omega)⟩
section
variable {w w' : World} {B mg mb : Nat} {hp v : Value} {ws : List Nat} {pl : List (Nat × Nat)} {t0 t1 t2 t3 t4 : Nat}
theorem mov_start (w : World) (hp : Value) :
    MovAt (((w.alloc (.map #[] 0)).alloc (.cells #[.int .u32 0] 24)).alloc (.cells #[hp, .map (some w.heap.size), .slice (some ⟨w.heap.size + 1, 0, none⟩) 1 1, .int .i64 0, .int .i64 0, .int .i64 0, .int .i64 0, .int .i64 0] 103)) w.heap.size (w.heap.size + 2) w.heap.size hp (.slice (some ⟨w.heap.size + 1, 0, none⟩) 1 1) [0] [] 0 0 0 0 0 := by
  have b0 := Blk.new ((w.alloc (.map #[] 0)).alloc (.cells #[.int .u32 0] 24)) 103 #[hp, .map (some w.heap.size), .slice (some ⟨w.heap.size + 1, 0, none⟩) 1 1, .int .i64 0, .int .i64 0, .int .i64 0, .int .i64 0, .int .i64 0]
  rw [World.size_alloc, World.size_alloc] at b0
  have r0 := Blk.new (w.alloc (.map #[] 0)) 24 #[.int .u32 0]
  rw [World.size_alloc] at r0
  have r1 := r0.alloc (.cells #[hp, .map (some w.heap.size), .slice (some ⟨w.heap.size + 1, 0, none⟩) 1 1, .int .i64 0, .int .i64 0, .int .i64 0, .int .i64 0, .int .i64 0] 103)
  have m0 := MapE.made w 41 41 .u32
  have m1 := (m0.below ((Below.refl _ _).alloc (Nat.le_refl _) (.cells #[.int .u32 0] 24))).below ((Below.refl _ _).alloc (Nat.le_refl _) (.cells #[hp, .map (some w.heap.size), .slice (some ⟨w.heap.size + 1, 0, none⟩) 1 1, .int .i64 0, .int .i64 0, .int .i64 0, .int .i64 0, .int .i64 0] 103))
  refine ⟨b0, ?_, m1.ext (fun x => by rw [goesM_no (by simp)]; rfl) (fun x => by simp), by omega, Nat.le_refl _⟩
  unfold Blk at r1
  exact ⟨rfl, .inr ⟨w.heap.size + 1, 1, #[.int .u32 0], rfl, by omega, r1, by simp, by simp [maxLen], by simp, by simp [u32s]⟩⟩
/-- An oop's new place noted. -/
theorem mov_put (M : MovAt w B mg mb hp v ws pl t0 t1 t2 t3 t4) {q : Nat × Nat} (hq : q.1 ∉ pl.map (·.1)) (h1 : q.1 < 4294967296) (h2 : q.2 < 4294967296) (hn : pl.length ≤ 1048576) :
    ∃ w', (Instr.mapUpdate 101 (.map (some mb)) (.int .u32 (q.1 : Int)) (.int .u32 (q.2 : Int))).run Tryd.prog w = .ok () w' ∧ MovAt w' B mg mb hp v ws (pl ++ [q]) t0 t1 t2 t3 t4 ∧ w.grownBy w' (some mb) := by
  obtain ⟨w', hr, hm, hg⟩ := M.map.put tyOO (v := (q.2 : Int)) h1 (by simp only [Lit.wf, show IntKind.u32.min = 0 by decide, show IntKind.u32.max = 4294967295 by decide, Bool.and_eq_true, decide_eq_true_eq]; omega) (by omega)
  have hne : mb ≠ mg := M.map.ne_blk M.box
  refine ⟨w', hr, ⟨M.box.same (hg.block mg M.box.lt (fun e => hne (by first | exact Option.some.inj e | exact (Option.some.inj e).symm))), own_keep M.own (fun k hk => hg.block k (M.own.lt k hk).2 (fun e => own_ne_map M.own M.map (hk.trans (by first | exact e | exact e.symm)))), ?_, M.hg, M.hm⟩, hg⟩
  rw [List.length_append]
  refine hm.ext (fun x => ?_) (fun x => ?_)
  · by_cases hx : x = q.1
    · subst hx
      rw [if_pos rfl]
      unfold goesM
      rw [List.find?_append, List.find?_eq_none.2 (fun y hy e => hq (List.mem_map.2 ⟨y, hy, by simpa using e⟩))]
      simp
    · rw [if_neg hx]
      unfold goesM
      rw [List.find?_append]
      cases hf : pl.find? (fun p => p.1 == x) with
      | some y => simp
      | none => simp [List.find?_cons, show (q.1 == x) = false from by simp; exact fun e => hx e.symm]
  · by_cases hx : x = q.1
    · simp [hx]
    · rw [if_neg hx]
      simp [hx]
/-- The counts alone are others. -/
theorem mov_cells {u0 u1 u2 u3 u4 : Nat} (M : MovAt w B mg mb hp v ws pl t0 t1 t2 t3 t4) (hb : Blk w' mg 103 #[hp, .map (some mb), v, .int .i64 (u0 : Int), .int .i64 (u1 : Int), .int .i64 (u2 : Int), .int .i64 (u3 : Int), .int .i64 (u4 : Int)]) (hs : ∀ k, k ≠ mg → w'.heap[k]? = w.heap[k]?) :
    MovAt w' B mg mb hp v ws pl u0 u1 u2 u3 u4 :=
  ⟨hb, own_keep M.own (fun q hq => hs q (fun e => own_ne_blk M.own M.box (by decide) (e ▸ hq))), M.map.same (hs mb (M.map.ne_blk M.box)), M.hg, M.hm⟩
theorem mov_same (M : MovAt w B mg mb hp v ws pl t0 t1 t2 t3 t4) (h1 : w'.heap[mg]? = w.heap[mg]?) (h2 : w'.heap[mb]? = w.heap[mb]?) (h3 : ∀ k, v.ownBlock = some k → w'.heap[k]? = w.heap[k]?) : MovAt w' B mg mb hp v ws pl t0 t1 t2 t3 t4 :=
  ⟨M.box.same h1, own_keep M.own h3, M.map.same h2, M.hg, M.hm⟩
end
theorem map_elem (f : Nat → Nat) (rs : List Nat) (k : Nat) (hk : k < rs.length) : ((rs.take k).map f ++ rs.drop k).getD k 0 = rs.getD k 0 := by
  have hl : ((rs.take k).map f).length = k := by simp; omega
  rw [List.getD_eq_getElem?_getD, List.getD_eq_getElem?_getD, List.getElem?_append_right (by omega), hl, Nat.sub_self, List.getElem?_drop, Nat.add_zero]
theorem map_step (f : Nat → Nat) (rs : List Nat) (k : Nat) (hk : k < rs.length) : (u32s ((rs.take k).map f ++ rs.drop k)).set k (.int .u32 (f (rs.getD k 0) : Int)) = u32s ((rs.take (k + 1)).map f ++ rs.drop (k + 1)) := by
  have hl : (u32s ((rs.take k).map f)).length = k := by rw [u32s_len]; simp; omega
  have hg : rs.getD k 0 = rs[k] := by rw [List.getD_eq_getElem?_getD, List.getElem?_eq_getElem hk]; rfl
  have hd : rs.drop k = rs[k] :: rs.drop (k + 1) := List.drop_eq_getElem_cons hk
  rw [u32s_app, hd, List.set_append_right _ _ (by omega), hl, Nat.sub_self, hg, List.take_add_one, List.getElem?_eq_getElem hk, List.map_append, u32s_app, u32s_app, List.append_assoc]
  rfl
/-- How many fields are cleared so far. -/
def clrN (pl : List (Nat × Nat)) (z : List (Nat × Ob)) : Nat := (z.map (fun p => clearedB pl p.2)).sum
theorem clr_le (pl : List (Nat × Nat)) : ∀ z : List (Nat × Ob), clrN pl z ≤ (wsOf (z.map (·.2))).length
  | [] => Nat.le_refl _
  | a :: z => by
    have ih := clr_le pl z
    unfold clrN at *
    rw [List.map_cons, List.sum_cons, List.map_cons, wsOf_cons, List.length_append, Ob.ws_len]
    have h1 : clearedB pl a.2 ≤ a.2.fs.length := by
      unfold clearedB
      split
      · exact List.length_filter_le _ _
      · exact Nat.zero_le _
    omega
theorem clr_snoc (pl : List (Nat × Nat)) (z : List (Nat × Ob)) (p : Nat × Ob) : clrN pl (z ++ [p]) = clrN pl z + clearedB pl p.2 := by
  unfold clrN; rw [List.map_append, List.sum_append]; simp
/-- What a collection answers. -/
def colV (h : HM) (l : List Ob) : Value :=
  .agg #[.int .i64 ((liveO h l).length : Nat), .int .i64 ((l.length - (liveO h l).length : Nat) : Nat), .int .i64 ((h.words.length - (1 + (wsOf (colL h l)).length) : Nat) : Nat), .int .i64 (movedN h l : Nat), .int .i64 (clearedN h l : Nat)]
end Go.Proofs.YtblekggklimpeaaDoor
