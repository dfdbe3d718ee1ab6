/- The document's Load. -/
/- built: a case's heap, the program's and the document's. -/
/- A map of the call's own from oops to words, as a function on numbers; numbers of things in a list. -/
/- What is held from beginnings on, the nearest ahead; the live objects, as they lie. Plain data. -/
/- Those oops that name objects: only, by slices.DeleteFunc. -/
import Derived.Test.YtlkahgagmfhdaaaGreatDoorJAll
import Derived.Test.YtlkahgagmfhdaaaGreatDoorJSound
import Derived.Test.YtlkahgagmfhdaaaGreatDoorJRefI
import Derived.Test.YtlkahgagmfhdaaaGreatDoorJLive
import Derived.Test.YtlkahgagmfhdaaaGreatDoorJMapIs
import Derived.Test.YtlkahgagmfhdaaaGreatDoorJIApp
import Derived.Test.YtlkahgagmfhdaaaGreatDoorJLook
import Derived.Maps.OwnSet
import Derived.Lib.SliceRun
set_option linter.unusedVariables false
set_option linter.unusedSimpArgs false
set_option linter.unusedSectionVars false
namespace Go.Proofs.YtlkahgagmfhdaaaGreatDoor
open Go.RowKit
attribute [local go_sem] Oper.semAt_some

theorem RAt.setMark {w : World} {p : HP} {h : HM} (H : RAt w p h) (k : Nat) : RAt (w.setCell ⟨p.gs, k, none⟩ (.int .u8 1)) p { h with starts := h.starts.set k true } := by
  obtain ⟨hb, hw, hs, hr⟩ := H
  have n1 : p.g ≠ p.gs := fun e => Row.ne_blk hs hb (by decide) e.symm
  have n2 : p.gw ≠ p.gs := hw.ne_ hs (by decide)
  have n3 : p.gr ≠ p.gs := hr.ne_ hs (by decide)
  refine ⟨?_, hw.far n2 _, ?_, hr.far n3 _⟩
  · have := hb.far (p := ⟨p.gs, k, none⟩) n1 (.int .u8 1)
    simpa using this
  · have := hs.set k (.int .u8 1)
    simpa [begins] using this
end Go.Proofs.YtlkahgagmfhdaaaGreatDoor

namespace Go.Proofs.YtlkahgagmfhdaaaGreatDoor
open Go.RowKit

/-- A case. -/
structure Cs where
  size : Int
  A : Option Addr
  n : Nat
  c : Nat
  A' : Option Addr
  n' : Nat
  c' : Nat
  ws : List Nat
  rs : List Nat
  last : Nat
def Cs.agg (k : Cs) : Value := .agg #[.int .i64 k.size, .slice k.A k.n k.c, .slice k.A' k.n' k.c', .int .u32 (k.last : Nat)]
def Cs.h (k : Cs) : HM := HM.ofWords k.size.toNat k.ws k.rs k.last
def Cs.Ok (k : Cs) : Prop := 64 ≤ k.size ∧ k.size ≤ 1048576 ∧ loadE k.size.toNat k.ws k.rs k.last = 0
/-- A case as it lies in memory. -/
structure Cs.At (k : Cs) (w : World) (B : Nat) : Prop where
  hn : k.n ≤ 9223372036854775807
  hr : Reads w B 1 k.A k.n (u32s k.ws)
  h32 : ∀ x ∈ k.ws, x < 4294967296
  hn' : k.n' ≤ 9223372036854775807
  hr' : Reads w B 1 k.A' k.n' (u32s k.rs)
  h32' : ∀ x ∈ k.rs, x < 4294967296
  hl : k.last < 4294967296
theorem Cs.At.below {k : Cs} {w w' : World} (h : k.At w w.heap.size) (hb : Below w.heap.size w w') : k.At w' w'.heap.size :=
  ⟨h.hn, (h.hr.below hb).more hb.size, h.h32, h.hn', (h.hr'.below hb).more hb.size, h.h32', h.hl⟩
end Go.Proofs.YtlkahgagmfhdaaaGreatDoor

namespace Go.Proofs.YtlkahgagmfhdaaaGreatDoor
open Go.RowKit Go.Maps

/-- A thing's number in a list, from 1 on; 0: it is not in it. -/
def numL (L : List Nat) (x : Nat) : Nat := if x ∈ L then L.idxOf x + 1 else 0
theorem numL_snoc {L : List Nat} {x : Nat} (h : x ∉ L) : numL (L ++ [x]) = upd (numL L) x (L.length + 1) := by
  funext y
  unfold numL upd
  by_cases hy : y = x
  · subst hy
    rw [if_pos (by simp), if_pos rfl, List.idxOf_append, if_neg h]
    simp
  · rw [if_neg hy]
    by_cases hm : y ∈ L
    · rw [if_pos (by simp [hm]), List.idxOf_append, if_pos hm]
      show _ = if y ∈ L then _ else _
      rw [if_pos hm]
    · rw [if_neg (by simp [hm, hy])]
      show _ = if y ∈ L then _ else _
      rw [if_neg hm]
/-- What numbering one after the other comes to, a thing twice numbered anew. -/
def stp (s : List Nat × Nat × (Nat → Nat)) (x : Nat) : List Nat × Nat × (Nat → Nat) := (s.1 ++ [x], if x ∈ s.1 then s.2.1 else s.2.1 + 1, upd s.2.2 x (s.2.1 + 1))
def stL (L : List Nat) : List Nat × Nat × (Nat → Nat) := L.foldl stp ([], 0, fun _ => 0)
theorem stL_snoc (L : List Nat) (x : Nat) : stL (L ++ [x]) = stp (stL L) x := by unfold stL; rw [List.foldl_append]; rfl
theorem stL_fst (L : List Nat) : (stL L).1 = L := by
  have h : ∀ (L : List Nat) s, (L.foldl stp s).1 = s.1 ++ L := by
    intro L
    induction L with
    | nil => intro s; simp
    | cons a L ih => intro s; rw [List.foldl_cons, ih]; simp [stp]
  have := h L ([], 0, fun _ => 0)
  simpa [stL] using this
theorem stL_le (L : List Nat) : (stL L).2.1 ≤ L.length := by
  have h : ∀ (L : List Nat) s, (L.foldl stp s).2.1 ≤ s.2.1 + L.length := by
    intro L
    induction L with
    | nil => intro s; simp
    | cons a L ih =>
      intro s
      rw [List.foldl_cons]
      refine Nat.le_trans (ih _) ?_
      have : (stp s a).2.1 ≤ s.2.1 + 1 := by unfold stp; simp only; split <;> omega
      simp; omega
  have := h L ([], 0, fun _ => 0)
  simpa [stL] using this
theorem snoc_ind {P : List Nat → Prop} (h0 : P []) (h1 : ∀ L x, P L → P (L ++ [x])) : ∀ L, P L := by
  intro L
  rw [← List.reverse_reverse L]
  generalize L.reverse = R
  induction R with
  | nil => exact h0
  | cons a R ih => rw [List.reverse_cons]; exact h1 _ _ ih
theorem stL_nodup : ∀ L : List Nat, L.Nodup → (stL L).2.1 = L.length ∧ (stL L).2.2 = numL L :=
  snoc_ind (fun _ => ⟨rfl, by funext y; simp [stL, numL]⟩) (fun L x ih hnd => by
    rw [List.nodup_append] at hnd
    have hx : x ∉ L := fun hm => hnd.2.2 x hm x (by simp) rfl
    obtain ⟨h1, h2⟩ := ih hnd.1
    rw [stL_snoc, numL_snoc hx]
    refine ⟨?_, ?_⟩
    · show (if x ∈ (stL L).1 then _ else _) = _
      rw [stL_fst, if_neg hx, h1, List.length_append]; rfl
    · show upd _ _ _ = _
      rw [h1, h2])
structure MapTyU (T K : TypeId) : Prop where
  ht : Tryz.prog.underlying T = some (.map K 32)
  hk : Tryz.prog.underlying K = some (.int .u32)
def MapU (K : TypeId) (w : World) (b : Nat) (L : List Nat) : Prop :=
  ∃ D : DataW Unit, Tidy D ∧ w.ownsMap Tryz.prog K (plainElem Tryz.prog 32) b L.length D ∧ (∀ x : Nat, x < 4294967296 → D.atKey (.int .u32 (x : Int)) (.lit (.int .u32 0)) = .lit (.int .u32 ((stL L).2.2 x : Nat))) ∧
    (∀ x : Nat, x < 4294967296 → Maps.has D (.int .u32 (x : Int)) = decide (x ∈ L)) ∧ Maps.size D = (stL L).2.1
theorem zeroU (w : World) : (zeroValue 32).run Tryz.prog w = .ok (.int .u32 0) w := by kernel_rfl
section
variable {T K : TypeId} {w w' : World} {b : Nat} {L : List Nat}
theorem MapU.made (w : World) (K : TypeId) : MapU K (w.alloc (.map #[] 0)) w.heap.size [] :=
  ⟨.map [], tidy_empty, World.ownsMap_made _ _ _ _, fun x _ => rfl, fun x _ => rfl, rfl⟩
theorem MapU.lt (h : MapU K w b L) : b < w.heap.size := by obtain ⟨D, _, h, _⟩ := h; exact h.lt
theorem MapU.obj (h : MapU K w b L) : ∃ es c, w.heap[b]? = some (.map es c) := by obtain ⟨D, _, ⟨es, clock, hb, r⟩, _⟩ := h; exact ⟨es, clock, hb⟩
theorem MapU.same (h : MapU K w b L) (hs : w'.heap[b]? = w.heap[b]?) : MapU K w' b L := by
  obtain ⟨D, hD, ⟨es, clock, hb, r⟩, hf⟩ := h
  exact ⟨D, hD, ⟨es, clock, hs.trans hb, r⟩, hf⟩
theorem MapU.below (h : MapU K w b L) (hb : Below w.heap.size w w') : MapU K w' b L := h.same (hb.block b h.lt)
set_option maxRecDepth 100000 in
theorem MapU.look (h : MapU K w b L) (hnd : L.Nodup) (M : MapTyU T K) {x : Nat} (hx : x < 4294967296) : (Instr.lookup T (.map (some b)) (.int .u32 (x : Int)) false).run Tryz.prog w = .ok (.int .u32 (numL L x : Nat)) w := by
  obtain ⟨D, hD, ho, hf, _⟩ := h
  obtain ⟨c, hrun, hat, _⟩ := ho.lookup_int (int_keyed M.hk) M.ht Tryz.underlying32 (zeroU w) (keyOf_int_mk M.hk (wf_u32 hx))
  rw [hf x hx, (stL_nodup L hnd).2] at hat
  have e : c = (numL L x : Nat) := by
    simp only [DataW.lit.injEq, Lit.int.injEq, true_and] at hat
    exact hat.symm
  subst e
  exact hrun
theorem MapU.len (h : MapU K w b L) (M : MapTyU T K) (ty : TypeId) : (Builtin.len_ #[T] ty #[.map (some b)]).run Tryz.prog w = .ok (.int .i64 ((stL L).2.1 : Nat)) w := by
  obtain ⟨D, hD, ho, hf, hh, hs⟩ := h
  rw [← hs]
  exact ho.len M.ht ty
set_option maxRecDepth 100000 in
theorem MapU.put (h : MapU K w b L) (M : MapTyU T K) {x : Nat} (hx : x < 4294967296) (hn : L.length < 4294967295) :
    ∃ w', (Instr.mapUpdate T (.map (some b)) (.int .u32 (x : Int)) (.int .u32 (((stL L).2.1 : Nat) + 1 : Int))).run Tryz.prog w = .ok () w' ∧ MapU K w' b (L ++ [x]) ∧ w.grownBy w' (some b) := by
  obtain ⟨D, hD, ho, hf, hh, hs⟩ := h
  have hle := stL_le L
  obtain ⟨w', hrun, ho', hg⟩ := ho.update (int_keyed M.hk) M.ht (by unfold maxLen; omega) (keyOf_int_mk M.hk (wf_u32 hx)) (plainElem_int Tryz.underlying32 (wf_u32 (x := (stL L).2.1 + 1) (by omega)))
  refine ⟨w', hrun, ⟨_, hD.put (show WideAt.IsKeyLit (.int .u32 (x : Int)) from trivial) _, by rw [List.length_append]; exact ho', fun y hy => ?_, fun y hy => ?_, ?_⟩, hg⟩
  · rw [stL_snoc]
    show _ = DataW.lit (.int .u32 ((upd (stL L).2.2 x ((stL L).2.1 + 1) y : Nat) : Int))
    unfold upd
    by_cases hyx : y = x
    · subst hyx
      rw [if_pos rfl]
      exact atKey_put_same hD.isMap (show WideAt.IsKeyLit (.int .u32 (y : Int)) from trivial) _ _
    · rw [if_neg hyx, atKey_put_other (by intro e; injection e with _ e; omega)]
      exact hf y hy
  · by_cases hyx : y = x
    · subst hyx
      rw [has_put_same hD.isMap (show WideAt.IsKeyLit (.int .u32 (y : Int)) from trivial) _]
      simp
    · rw [has_put_other (by intro e; injection e with _ e; omega), hh y hy]
      simp [hyx]
  · rw [Maps.size_put hD, hh x hx, hs, stL_snoc]
    show _ = if x ∈ (stL L).1 then _ else _
    rw [stL_fst]
    by_cases hm : x ∈ L
    · rw [if_pos (by simpa using hm), if_pos hm]
    · rw [if_neg (by simpa using hm), if_neg hm]
end
end Go.Proofs.YtlkahgagmfhdaaaGreatDoor

namespace Go.Proofs.YtlkahgagmfhdaaaGreatDoor
open Go.RowKit

/-- What was met, and the number of what each was met from. -/
abbrev Wk := List (Nat × Int)
def metO (l : Wk) : List Nat := l.map (·.1)
def putW (l : Wk) (o : Nat) (by_ : Int) : Wk := if kindM o = 2 ∧ o ∉ metO l then l ++ [(o, by_)] else l
def putsW (l : Wk) (os : List Nat) (by_ : Int) : Wk := os.foldl (fun l o => putW l o by_) l
def walkF (nm : Nat → List Nat) : Nat → Nat → Wk → Wk
  | 0, _, l => l
  | f + 1, i, l => if i < l.length then walkF nm f (i + 1) (putsW l (nm (l.getD i (0, 0)).1) (i : Int)) else l
def walkM (nm : Nat → List Nat) (fr : List Nat) : Wk := walkF nm 2097152 0 (putsW [] fr (-1))
/-- From what one was met; 0: it was not. -/
def byOf (l : Wk) (x : Nat) : Int := ((l.find? (fun p => p.1 == x)).map (·.2)).getD 0
theorem metO_snoc (l : Wk) (o : Nat) (b : Int) : metO (l ++ [(o, b)]) = metO l ++ [o] := by simp [metO]
theorem putW_pre (l : Wk) (o : Nat) (b : Int) : l <+: putW l o b := by
  unfold putW; split
  · exact List.prefix_append _ _
  · exact List.prefix_refl _
theorem putsW_pre (l : Wk) (os : List Nat) (b : Int) : l <+: putsW l os b := by
  induction os generalizing l with
  | nil => exact List.prefix_refl _
  | cons o os ih => exact (putW_pre l o b).trans (ih _)
theorem putW_nodup {l : Wk} (h : (metO l).Nodup) (o : Nat) (b : Int) : (metO (putW l o b)).Nodup := by
  unfold putW; split
  · rename_i hc
    rw [metO_snoc, List.nodup_append]
    exact ⟨h, by simp, fun a ha c hc' => by rintro rfl; simp at hc'; subst hc'; exact hc.2 ha⟩
  · exact h
theorem putsW_nodup {l : Wk} (h : (metO l).Nodup) (os : List Nat) (b : Int) : (metO (putsW l os b)).Nodup := by
  induction os generalizing l with
  | nil => exact h
  | cons o os ih => exact ih (putW_nodup h o b)
section
variable (nm : Nat → List Nat)
/-- Going through what was met. -/
structure GoW (fr : List Nat) (i : Nat) (l : Wk) : Prop where
  nodup : (metO l).Nodup
  le : i ≤ l.length
  rest : walkM nm fr = walkF nm (2097152 - i) i l
theorem GoW.start (fr : List Nat) : GoW nm fr 0 (putsW [] fr (-1)) := ⟨putsW_nodup (by simp [metO]) _ _, Nat.zero_le _, rfl⟩
variable {nm} {fr : List Nat} {i : Nat} {l : Wk}
theorem GoW.next (G : GoW nm fr i l) (hi : i < l.length) (hl : l.length ≤ 1048576) : GoW nm fr (i + 1) (putsW l (nm (l.getD i (0, 0)).1) (i : Int)) := by
  refine ⟨putsW_nodup G.nodup _ _, by have := (putsW_pre l (nm (l.getD i (0, 0)).1) (i : Int)).length_le; omega, ?_⟩
  rw [G.rest, show 2097152 - i = (2097152 - (i + 1)) + 1 by omega]
  conv => lhs; unfold walkF
  rw [if_pos hi]
theorem GoW.done (G : GoW nm fr i l) (hi : ¬ i < l.length) (hl : l.length ≤ 1048576) : walkM nm fr = l := by
  have := G.le
  rw [G.rest, show 2097152 - i = (2097152 - (i + 1)) + 1 by omega]
  unfold walkF
  rw [if_neg hi]
end
section
variable {h : HM} {l : List Ob}
end
end Go.Proofs.YtlkahgagmfhdaaaGreatDoor

namespace Go.Proofs.YtlkahgagmfhdaaaGreatDoor
open Go.RowKit
attribute [local go_sem] Oper.semAt_some
/-- Only one block is another. -/
structure Frb (rg : Nat) (w w' : World) : Prop where
  os : w'.os = w.os
  tape : w'.tape = w.tape
  output : w'.output = w.output
  size : w.heap.size ≤ w'.heap.size
  same : ∀ k, k < w.heap.size → k ≠ rg → w'.heap[k]? = w.heap[k]?
theorem Frb.refl (rg : Nat) (w : World) : Frb rg w w := ⟨rfl, rfl, rfl, Nat.le_refl _, fun _ _ _ => rfl⟩
theorem Frb.trans {rg : Nat} {w w' w'' : World} (h : Frb rg w w') (k : Frb rg w' w'') : Frb rg w w'' :=
  ⟨k.os.trans h.os, k.tape.trans h.tape, k.output.trans h.output, Nat.le_trans h.size k.size, fun i hi hne => (k.same i (Nat.lt_of_lt_of_le hi h.size) hne).trans (h.same i hi hne)⟩
theorem Frb.set (rg i : Nat) (w : World) (v : Value) : Frb rg w (w.setCell ⟨rg, i, none⟩ v) :=
  ⟨rfl, rfl, rfl, by simp [World.setCell], fun k _ hne => Below.heap_setCell w ⟨rg, i, none⟩ v k hne⟩
theorem Frb.of_below {rg : Nat} {w w' : World} (h : Below w.heap.size w w') : Frb rg w w' := ⟨h.os, h.tape, h.output, h.size, fun k hk _ => h.block k hk⟩
theorem Frb.below {rg B : Nat} {w w' : World} (h : Frb rg w w') (hB : B ≤ rg) (hw : B ≤ w.heap.size) : Below B w w' := ⟨h.os, h.tape, h.output, h.size, fun k hk => h.same k (by omega) (by omega)⟩
theorem Row.short {w : World} {g c : Nat} {e : TypeId} {xs : List Value} (h : Row w g e c xs) (i : Nat) : Row w g e c (xs.take i) := by
  obtain ⟨cur, hb, hl, hm, hc, hx⟩ := h
  refine ⟨cur, hb, by rw [List.length_take]; omega, hm, hc, ?_⟩
  rw [← hx, List.take_take, List.length_take]
  congr 1
  have : cur.toList.length = c := by simpa using hc
  have := congrArg List.length hx
  simp only [List.length_take] at this ⊢
  omega
def k2 (o : Nat) : Bool := decide (kindM o = 2)
/-- On the way: the first j are looked at. -/
structure DelS (xs ys : List Nat) (i j : Nat) : Prop where
  len : ys.length = xs.length
  fst : ys.take i = (xs.take j).filter k2
  rest : ys.drop j = xs.drop j
  ij : i < j
  jl : j ≤ xs.length
theorem DelS.start {xs : List Nat} {j : Nat} (hj : j < xs.length) (h0 : k2 (xs.getD j 0) = false) (h : ∀ i, i < j → k2 (xs.getD i 0) = true) : DelS xs xs j (j + 1) := by
  refine ⟨rfl, ?_, rfl, by omega, by omega⟩
  rw [List.take_add_one, List.getElem?_eq_getElem hj, List.filter_append]
  have e1 : (xs.take j).filter k2 = xs.take j := by
    rw [List.filter_eq_self]
    intro x hx
    obtain ⟨i, hi, rfl⟩ := List.getElem_of_mem hx
    rw [List.length_take] at hi
    have := h i (by omega)
    rw [List.getD_eq_getElem?_getD, List.getElem?_eq_getElem (by omega)] at this
    simpa using this
  rw [List.getD_eq_getElem?_getD, List.getElem?_eq_getElem hj] at h0
  have h0 : k2 xs[j] = false := by simpa using h0
  rw [e1]
  simp [h0]
theorem DelS.get {xs ys : List Nat} {i j : Nat} (D : DelS xs ys i j) (hj : j < xs.length) : ys.getD j 0 = xs.getD j 0 := by
  have h : (ys.drop j).getD 0 0 = (xs.drop j).getD 0 0 := by rw [D.rest]
  simpa [List.getD_eq_getElem?_getD] using h
theorem DelS.skip {xs ys : List Nat} {i j : Nat} (D : DelS xs ys i j) (hj : j < xs.length) (h : k2 (xs.getD j 0) = false) : DelS xs ys i (j + 1) := by
  have hij := D.ij
  refine ⟨D.len, ?_, ?_, by omega, by omega⟩
  · rw [D.fst, List.take_add_one, List.getElem?_eq_getElem hj, List.filter_append]
    rw [List.getD_eq_getElem?_getD, List.getElem?_eq_getElem hj] at h
    have h : k2 xs[j] = false := by simpa using h
    simp [h]
  · rw [← List.drop_drop, D.rest, List.drop_drop]
theorem DelS.keep {xs ys : List Nat} {i j : Nat} (D : DelS xs ys i j) (hj : j < xs.length) (h : k2 (xs.getD j 0) = true) : DelS xs (ys.set i (xs.getD j 0)) (i + 1) (j + 1) := by
  have hij := D.ij
  have hl := D.len
  refine ⟨by rw [List.length_set]; exact hl, ?_, ?_, by omega, by omega⟩
  · rw [List.take_add_one, List.getElem?_set_self (by omega), List.take_set_of_le (Nat.le_refl _), D.fst]
    rw [List.take_add_one, List.getElem?_eq_getElem hj, List.filter_append]
    rw [List.getD_eq_getElem?_getD, List.getElem?_eq_getElem hj] at h ⊢
    have h : k2 xs[j] = true := by simpa using h
    simp [h]
  · rw [List.drop_set, if_pos (by omega), ← List.drop_drop, D.rest, List.drop_drop]
end Go.Proofs.YtlkahgagmfhdaaaGreatDoor
