/- slices.Sort of oops, whole: the row is sorted. -/
/- Live: the live objects, as they lie; size. -/
/- slices.Sort of uint64, whole: the row is sorted. -/
/- Tick. -/
/- Plan: where the live objects lie and would lie; the program's. -/
/- The mover: where. -/
import Derived.Test.YtlkahgagmfhdaaaGreatDoorJSo13
import Derived.Test.YtlkahgagmfhdaaaGreatDoorJRefQ
import Derived.Test.YtlkahgagmfhdaaaGreatDoorJKNamed
import Derived.Test.YtlkahgagmfhdaaaGreatDoorJHdA
set_option linter.unusedVariables false
set_option linter.unusedSimpArgs false
set_option linter.unusedSectionVars false
namespace Go.Proofs.YtlkahgagmfhdaaaGreatDoor
open Go.RowKit Go.Sort Go.Proofs
end Go.Proofs.YtlkahgagmfhdaaaGreatDoor

namespace Go.Proofs.YtlkahgagmfhdaaaGreatDoor
open Go.RowKit
attribute [local go_sem] Oper.semAt_some
section
variable {w : World} {p : HP} {h : HM} {l : List Ob}
end
end Go.Proofs.YtlkahgagmfhdaaaGreatDoor

namespace Go.Proofs.YtlkahgagmfhdaaaGreatDoor
open Go.RowKit Go.Sort Go.Proofs
theorem callees6 : Callees6 := ⟨s6_insertionSort, s6_breakPatterns, s6_choosePivot, s6_partialInsertionSort, s6_partitionEqualOrdered, s6_partitionOrdered⟩
theorem plain6 : Plain13 := ⟨swo_ltInt, insertionSort_holds, partialInsertionSort_holds, partition_holds _, partitionEqual_holds _, pdq_sorts _⟩
theorem pdqWalkO_all_6 : pdqWalk6 := fun blk off cap a b limit d w hH hb hab hbd hsz hl hB =>
  s6_pdqsort callees6 plain6 (b - a + 1) blk off cap a b limit d w (by omega) hH hb hab hbd hsz hl hB
def intsU_6 (xs : List Nat) : List Int := xs.map fun x : Nat => (x : Int)
theorem intsU_len_6 (xs : List Nat) : (intsU_6 xs).length = xs.length := by simp [intsU_6]
theorem u64s_ints (xs : List Nat) : u64s xs = (intsU_6 xs).map (Value.int .u64) := by unfold u64s intsU_6; rw [List.map_map]; rfl
theorem row_holds_6 {w : World} {g c : Nat} {xs : List Nat} (h : Row w g 47 c (u64s xs)) : Holds (Value.int .u64) w g 0 (intsU_6 xs).toArray := by
  intro j hj
  have hj' : j < xs.length := by simpa [intsU_6] using hj
  refine ⟨?_, h.frozen _⟩
  rw [Nat.zero_add, h.cell (u64s_get hj')]
  simp [intsU_6, hj']
/-- What sorting leaves. -/
def Sorted6 (g c : Nat) (xs : List Nat) (w : World) (e : Ending) (w' : World) : Prop :=
  e = .returned (.tuple #[]) ∧ ∃ ys : List Nat, ys.Perm xs ∧ ys.Pairwise (· ≤ ·) ∧ Row w' g 47 c (u64s ys) ∧ Frb g w w'
theorem sort_ints_6 (xs : List Nat) : ∃ ys : List Nat, intsU_6 ys = (intsU_6 xs).mergeSort (fun x y => decide (x ≤ y)) ∧ ys.Perm xs ∧ ys.Pairwise (· ≤ ·) := by
  have hp : ((intsU_6 xs).mergeSort (fun x y => decide (x ≤ y))).Perm (intsU_6 xs) := List.mergeSort_perm _ _
  have hnn : ∀ z ∈ (intsU_6 xs).mergeSort (fun x y => decide (x ≤ y)), 0 ≤ z := fun z hz => by
    have := hp.mem_iff.1 hz
    unfold intsU_6 at this
    obtain ⟨y, _, rfl⟩ := List.mem_map.1 this
    omega
  have hs : ((intsU_6 xs).mergeSort (fun x y => decide (x ≤ y))).Pairwise (fun x y => decide (x ≤ y) = true) := List.pairwise_mergeSort (fun a b c h1 h2 => by simp at *; omega) (fun a b => by simp; omega) _
  generalize (intsU_6 xs).mergeSort (fun x y => decide (x ≤ y)) = zs at *
  have e1 : intsU_6 (zs.map Int.toNat) = zs := by
    unfold intsU_6
    rw [List.map_map]
    conv => rhs; rw [← List.map_id zs]
    refine List.map_congr_left (fun z hz => ?_)
    have := hnn z hz
    show ((z.toNat : Nat) : Int) = z
    omega
  refine ⟨zs.map Int.toNat, e1, ?_, ?_⟩
  · have := hp.map Int.toNat
    have e2 : (intsU_6 xs).map Int.toNat = xs := by
      unfold intsU_6
      rw [List.map_map]
      conv => rhs; rw [← List.map_id xs]
      exact List.map_congr_left (fun z _ => by simp)
    rw [e2] at this
    exact this
  · rw [List.pairwise_map]
    refine hs.imp_of_mem (fun {a b} ha hb h => ?_)
    have h1 := hnn a ha
    have h2 := hnn b hb
    have : a ≤ b := by simpa using h
    omega
theorem heap_sortedU_6 {w : World} {g n : Nat} {os : Array Obj} {cur : Array Value} {e : TypeId} {fr : Nat × Nat} (d : Array Int) (hb : w.heap[g]? = some (.cells cur e fr)) :
    (grow (putRow (Value.int .u64) (Sort.ahead w n) g 0 d) os).heap[g]? = some (.cells (putCells (Value.int .u64) 0 d cur) e fr) := by
  have hg : g < w.heap.size := (Array.getElem?_eq_some_iff.1 hb).1
  rw [heap_grow_old _ _ (by simpa using hg)]
  simp [putRow, mapBlock, Sort.ahead, Array.getElem?_modify, hb, onCells]
theorem frb_sortedU_6 {w : World} {g n : Nat} {os : Array Obj} (d : Array Int) : Frb g w (grow (putRow (Value.int .u64) (Sort.ahead w n) g 0 d) os) := by
  refine ⟨rfl, rfl, rfl, by simp, fun k hk hne => ?_⟩
  rw [heap_grow_old _ _ (by simpa using hk)]
  have : g ≠ k := fun e => hne e.symm
  simp [putRow, mapBlock, Sort.ahead, Array.getElem?_modify, this]
theorem take_putCellsU_6 (cur : Array Value) (ts : List Int) (h : ts.length ≤ cur.size) : (putCells (Value.int .u64) 0 ts.toArray cur).toList.take ts.length = ts.map (Value.int .u64) := by
  apply List.ext_getElem?
  intro j
  by_cases hj : j < ts.length
  · rw [List.getElem?_take_of_lt hj, Array.getElem?_toList]
    simp [putCells, hj, show j < cur.size by omega]
  · rw [List.getElem?_take_eq_none (by omega), List.getElem?_eq_none (by simp; omega)]
theorem sort_any_6 {w : World} {g c : Nat} {xs : List Nat} (hR : Row w g 47 c (u64s xs)) (hn : xs.length < 4611686018427387904) :
    Calls Tryz.prog 90 #[.slice (some ⟨g, 0, none⟩) xs.length c] w (Sorted6 g c xs w) := by
  have h := s6_Sort pdqWalkO_all_6 g 0 c (intsU_6 xs).toArray w (row_holds_6 hR) hR.lt (by simpa [intsU_6] using hn)
  have e : (intsU_6 xs).toArray.size = xs.length := by simp [intsU_6]
  rw [e] at h
  refine h.mono ?_
  rintro e w' ⟨rfl, n, os, rfl⟩
  obtain ⟨ys, h1, h2, h3⟩ := sort_ints_6 xs
  have hs : Sort.sort ltInt (intsU_6 xs).toArray = (intsU_6 ys).toArray := by
    rw [h1, ← sortInt (intsU_6 xs)]
  rw [hs]
  refine ⟨rfl, ys, h2, h3, ?_, frb_sortedU_6 _⟩
  obtain ⟨cur, hb, hl, hm, hc, hx⟩ := hR
  have hly : ys.length = xs.length := h2.length_eq
  rw [u64s_len] at hl hx
  refine ⟨_, heap_sortedU_6 _ hb, by rw [u64s_len, hly]; exact hl, hm, by simp [putCells, hc], ?_⟩
  have ht := take_putCellsU_6 cur (intsU_6 ys) (by rw [intsU_len_6, hly]; have : cur.size = c := (by simpa using hc); omega)
  rw [intsU_len_6] at ht
  rw [u64s_len, u64s_ints]
  first | exact ht | (rw [Nat.mul_one]; exact ht)
end Go.Proofs.YtlkahgagmfhdaaaGreatDoor

namespace Go.Proofs.YtlkahgagmfhdaaaGreatDoor
open Go.RowKit
attribute [local go_sem] Oper.semAt_some

theorem row_own6 {w : World} {g c B : Nat} {xs : List Nat} (h : Row w g 47 c (u64s xs)) (hB : B ≤ g) : w.ownsRow B 47 1 (.slice (some ⟨g, 0, none⟩) xs.length c) xs.length (u64s xs) := by
  obtain ⟨cur, hb, hl, hm, hc, hx⟩ := h
  rw [u64s_len] at hl hx
  exact ⟨by simp [u64s_len], .inr ⟨g, c, cur, rfl, hB, hb, hl, hm, by simpa using hc, by rw [Nat.mul_one]; exact hx⟩⟩
/-- A slice of numbers of the call's own, sorted. -/
theorem sortV6_any {w : World} {B : Nat} {v : Value} {xs : List Nat} (h : w.ownsRow B 47 1 v xs.length (u64s xs)) (hB : B ≤ w.heap.size) (hn : xs.length < 4611686018427387904) :
    Calls Tryz.prog 90 #[v] w fun e w' => e = .returned (.tuple #[]) ∧ w'.ownsRow B 47 1 v xs.length (u64s (sortN xs)) ∧ Below B w w' := by
  by_cases h0 : 0 < xs.length
  · obtain ⟨g, c, rfl, hr, _, hg⟩ := Row.of_any h h0
    refine (sort_any_6 hr hn).mono ?_
    rintro e w' ⟨rfl, ys, h1, h2, h3, h4⟩
    have hys : ys = sortN xs := by
      unfold sortN
      refine List.Perm.eq_of_pairwise (le := fun x y : Nat => x ≤ y) (fun a b _ _ h1 h2 => by omega) h2 ?_ (h1.trans (List.mergeSort_perm _ _).symm)
      exact (List.pairwise_mergeSort (le := fun x y : Nat => decide (x ≤ y)) (fun a b c h1 h2 => by
        simp only [decide_eq_true_eq] at *
        omega) (fun a b => by
        simp only [Bool.or_eq_true, decide_eq_true_eq]
        omega) xs).imp fun hh => by simpa using hh
    have := row_own6 (B := B) h3 hg
    rw [h1.length_eq, hys] at this
    exact ⟨rfl, this, h4.below hg hB⟩
  · have hx : xs = [] := List.eq_nil_of_length_eq_zero (by omega)
    subst hx
    obtain ⟨A, c, rfl⟩ := own_val h
    refine (s6_Sort_int_nil A c w).mono ?_
    rintro e w' ⟨rfl, rfl⟩
    exact ⟨rfl, by rw [show sortN [] = [] by simp [sortN]]; exact h, Below.refl _ _⟩
theorem info_u64 : (Tryz.prog.info? 47).map (fun i => (i.zero, i.size, i.bytes)) = some (some (Value.int .u64 0), 1, 8) := by kernel_rfl
theorem u64s_snoc (l : List Nat) (x : Nat) : u64s (l ++ [x]) = u64s l ++ [.int .u64 (x : Int)] := by unfold u64s; rw [List.map_append]; rfl
theorem HKeep.grew {p : HP} {gt : Nat} {w w1 w2 : World} {b : Option Nat} (K : HKeep p gt w w1) (hg : w1.grownBy w2 b) (hb : ∀ q, b = some q → w.heap.size ≤ q) : HKeep p gt w w2 :=
  ⟨hg.os.trans K.os, hg.tape.trans K.tape, hg.output.trans K.output, Nat.le_trans K.size hg.size, fun k hk hn hgt => (hg.block k (Nat.lt_of_lt_of_le hk K.size) (fun e => by have := hb k e.symm; omega)).trans (K.block k hk hn hgt)⟩
theorem HT.grew {W w1 w2 : World} {p : HP} {g gt : Nat} {h : HM} {t : TM} {b : Option Nat} (T : HT W w1 p g gt h t) (hg : w1.grownBy w2 b) (hb : ∀ q, b = some q → W.heap.size ≤ q ∧ ¬ p.has q ∧ q ≠ gt) : HT W w2 p g gt h t :=
  T.same (fun k hk => hg.block k (by
    rcases hk with hk | hk
    · exact T.live.at_.lt hk
    · exact hk ▸ T.tab.lt) (fun e => by
    have := hb k e.symm
    rcases hk with hk | hk
    · exact this.2.1 hk
    · exact this.2.2 hk)) (below_grown (Nat.le_refl _) T.live.below hg (fun q hq => (hb q hq).1))
theorem HKeep.belowB {p : HP} {gt B : Nat} {w w1 w2 : World} (K : HKeep p gt w w1) (hb : Below B w1 w2) (hB : w.heap.size ≤ B) : HKeep p gt w w2 :=
  ⟨hb.os.trans K.os, hb.tape.trans K.tape, hb.output.trans K.output, Nat.le_trans K.size hb.size, fun k hk hn hgt => (hb.block k (Nat.lt_of_lt_of_le hk hB)).trans (K.block k hk hn hgt)⟩
theorem HT.belowB {W w1 w2 : World} {p : HP} {g gt B : Nat} {h : HM} {t : TM} (T : HT W w1 p g gt h t) (hb : Below B w1 w2) (hB : ∀ k, p.has k ∨ k = gt → k < B) (hW : W.heap.size ≤ B) : HT W w2 p g gt h t :=
  T.same (fun k hk => hb.block k (hB k hk)) (T.live.below.trans (hb.mono hW))
/-- What Tick answers. -/
def TickP (W : World) (p : HP) (g gt : Nat) (h : HM) (t : TM) (n : Int) (w : World) (e : Ending) (w' : World) : Prop :=
  ∃ v, e = .returned (.tuple #[v, .int .i64 (tikE h t n : Nat)]) ∧ w'.ownsRow w.heap.size 47 1 v (tikL h t n).length (u64s (tikL h t n)) ∧ HT W w' p g gt (tikH h t n) (tikT h t n) ∧ HKeep p gt w w'
theorem own_none {w : World} {B s : Nat} {e : TypeId} : w.ownsRow B e s (.slice none 0 0) 0 [] := ⟨by simp, .inl ⟨rfl, rfl⟩⟩
theorem TM.clears_same' (t : TM) (a : List Nat) : (t.clears a).now = t.now := (TM.clears_same a t).2.2
theorem tick_bad {h : HM} {t : TM} {n : Int} {E : Nat} (he : tikE h t n = E) (h0 : E ≠ 0) : tikT h t n = t ∧ tikH h t n = h ∧ tikL h t n = [] := by
  subst he
  exact ⟨by unfold tikT; rw [if_neg h0], by unfold tikH; rw [if_neg h0], by unfold tikL; rw [if_neg h0]⟩
theorem hreads_one (w : World) (a : Value) (t : TypeId) : Reads (w.alloc (.cells #[a] t)) (w.heap.size + 1) 1 (some ⟨w.heap.size, 0, none⟩) 1 [a] := by
  refine ⟨rfl, fun _ => ⟨_, rfl, by simp, fun j v hv => ?_⟩⟩
  rw [WideShapes.add_plain, Nat.zero_add]
  refine ((Blk.new w t #[a]).cell j).trans ?_
  rw [← hv]
  simp
section
variable {W w : World} {p : HP} {g gt : Nat} {h : HM} {t : TM} (T : HT W w p g gt h t)
include T
set_option maxRecDepth 100000 in
set_option maxHeartbeats 4000000 in
theorem ttick_any (n : Int) (hn1 : -9223372036854775808 ≤ n) (hn2 : n ≤ 9223372036854775807) : Calls Tryz.prog 27 #[.pointer (some ⟨gt, 0, none⟩), .int .i64 n] w (TickP W p g gt h t n w) := by
  have HBR := Lib.hid (tbroken_any T)
  have HT0 := Lib.hid T
  have hnw := T.ok.nw
  have HTE := Lib.hid (show tikE h t n = if brkB h t then 164 else if n < 0 ∨ (1099511627776 - t.now : Int) < n then 1 else 0 from rfl)
  have a1 : IntKind.i64.wrap (1099511627776 - (t.now : Int)) = 1099511627776 - (t.now : Int) := IntWalk.i64_in _ (by omega)
  clear T
  cases hbr : brkB h t with
  | true =>
    have he : tikE h t n = 164 := by rw [HTE.out, hbr, if_pos rfl]
    obtain ⟨e1, e2, e3⟩ := tick_bad he (by decide)
    have HV := Lib.hid (And.intro e1 (And.intro e2 (And.intro e3 he)))
    rw [hbr] at HBR
    clear he e1 e2 e3
    go_enter Tryz.func27, Tryz.ntmps27
    go_wp2_with fail
    refine HBR.out.mono ?_
    rintro e w1 ⟨rfl, hb1⟩
    have HB1 := Lib.hid hb1
    clear hb1
    go_wp2_with fail
    go_ret2
    exact ⟨_, by rw [HV.out.2.2.2]; rfl, by rw [HV.out.2.2.1]; exact own_none, by rw [HV.out.1, HV.out.2.1]; exact HT0.out.after HB1.out, HKeep.of_below HB1.out⟩
  | false =>
    have HTE2 := Lib.hid (HTE.out.trans (by rw [hbr, if_neg (by decide)]))
    rw [hbr] at HBR
    clear HTE
    by_cases hr : n < 0 ∨ (1099511627776 - t.now : Int) < n
    · have he : tikE h t n = 1 := by rw [HTE2.out, if_pos hr]
      obtain ⟨e1, e2, e3⟩ := tick_bad he (by decide)
      have HV := Lib.hid (And.intro e1 (And.intro e2 (And.intro e3 he)))
      clear he e1 e2 e3 HTE2
      by_cases h0 : n < 0
      · clear hr
        go_enter Tryz.func27, Tryz.ntmps27
        go_wp2_with fail
        refine HBR.out.mono ?_
        rintro e w1 ⟨rfl, hb1⟩
        have HB1 := Lib.hid hb1
        clear hb1
        go_wp2_with fail
        go_ret2
        exact ⟨_, by rw [HV.out.2.2.2]; rfl, by rw [HV.out.2.2.1]; exact own_none, by rw [HV.out.1, HV.out.2.1]; exact HT0.out.after HB1.out, HKeep.of_below HB1.out⟩
      · have h1 : 1099511627776 - (t.now : Int) < n := hr.resolve_left h0
        clear hr
        go_enter Tryz.func27, Tryz.ntmps27
        go_wp2_with fail
        refine HBR.out.mono ?_
        rintro e w1 ⟨rfl, hb1⟩
        have HB1 := Lib.hid hb1
        have c6 := (HT0.out.after hb1).cNow
        clear hb1
        go_wp2_with fail
        go_ret2
        exact ⟨_, by rw [HV.out.2.2.2]; rfl, by rw [HV.out.2.2.1]; exact own_none, by rw [HV.out.1, HV.out.2.1]; exact HT0.out.after HB1.out, HKeep.of_below HB1.out⟩
    · have he : tikE h t n = 0 := by rw [HTE2.out, if_neg hr]
      obtain ⟨m, rfl⟩ := Int.eq_ofNat_of_zero_le (show 0 ≤ n by omega)
      have hm : t.now + m ≤ 1099511627776 := by omega
      have HV := Lib.hid (show tikT h t m = (t.pass m).clears ((t.pass m).goneK 256) ∧ tikH h t m = h.clrs ((t.pass m).goneK 256) ∧ tikL h t m = sortN ((t.pass m).ids ((t.pass m).goneK 256)) ∧ tikE h t m = 0 from
        ⟨by unfold tikT; rw [if_pos he]; rfl, by unfold tikH; rw [if_pos he]; rfl, by unfold tikL; rw [if_pos he]; rfl, he⟩)
      have a2 : IntKind.i64.wrap ((t.now : Int) + (m : Int)) = (t.now : Int) + (m : Int) := IntWalk.i64_in _ (by omega)
      have h3 : ¬ 1099511627776 - (t.now : Int) < (m : Int) := by omega
      clear he hr HTE2
      go_enter Tryz.func27, Tryz.ntmps27
      go_wp2_with fail
      refine HBR.out.mono ?_
      rintro e w1 ⟨rfl, hb1⟩
      have T1 := HT0.out.after hb1
      have c6 := T1.cNow
      have fz := T1.tab.fz
      have T2 := T1.setNow (t.now + m) (T1.ok.pass hm)
      have HK2 := Lib.hid (show HKeep p gt w (w1.setCell ⟨gt, 515, none⟩ (.int .i64 ((t.now + m : Nat) : Int))) from (HKeep.of_below hb1).setCell _ _)
      rw [Int.natCast_add] at T2 HK2
      have T2 : HT W (w1.setCell ⟨gt, 515, none⟩ (.int .i64 ((t.now : Int) + (m : Int)))) p g gt h (t.pass m) := T2
      have hld := T2.loadAt
      have HIX := Lib.hid (fun (k : Nat) (hk : k < 256) (w : World) => index_slot T2.ok.len hk w)
      have HT2 := Lib.hid T2
      clear T1 T2 hb1 HBR HT0
      generalize Value.agg (slC (t.pass m).slots).toArray = vs at hld HIX
      generalize t.pass m = t2 at *
      go_wp2_with fail
      generalize w1.setCell ⟨gt, 515, none⟩ (.int .i64 ((t.now : Int) + (m : Int))) = w2 at *
      refine oper_load (v := vs) hld ?_
      go_wp2_with fail
      obtain ⟨i0, hi0, hz0, hz1, hz2⟩ := info_parts info_u64
      have HPL := Lib.hid (show ∀ q, w2.heap.size ≤ q → W.heap.size ≤ q ∧ ¬ p.has q ∧ q ≠ gt from fun q hq => ⟨Nat.le_trans HT2.out.live.below.size hq, fun hh => by have := HT2.out.live.at_.lt hh; omega, fun e => by have := HT2.out.tab.lt; omega⟩)
      have HWS := Lib.hid HK2.out.size
      have HWL := Lib.hid HT2.out.live.below.size
      go_loopw [6, 34] (fun gv iv wr => ∃ k : Nat, k ≤ 256 ∧ iv = .int .i64 (k : Int) ∧ Hid (wr.ownsRow w2.heap.size 47 1 gv (t2.goneK k).length (u64s (t2.ids (t2.goneK k)))) ∧ Hid (HT W wr p g gt (h.clrs (t2.goneK k)) (t2.clears (t2.goneK k))) ∧ Hid (HKeep p gt w wr) ∧ Hid (w2.heap.size ≤ wr.heap.size)) (fun _ iv _ => 256 - (intOf iv).toNat)
      case atStart => exact ⟨0, by omega, rfl, Lib.hid own_none, HT2, HK2, Lib.hid (Nat.le_refl _)⟩
      case round =>
        have HTO := Lib.hid HT2.out.ok
        clear hld HT2 HK2 c6 fz
        obtain ⟨k, hk, rfl, HOr, HTr, HKr, HZr⟩ := hrel
        by_cases hlt : k < 256
        · have hi := HIX.out k hlt wr
          have HUS := Lib.hid (show t2.slots.getD k (0, 0) ≠ (0, 0) → ¬ (t2.slots.getD k (0, 0)).1 = 0 from fun hu e => by have := (HTO.out.used k hu).1; have e : (t2.at k).1 = 0 := e; omega)
          have HSU := Lib.hid (show t2.goneK (k + 1) = if (usedB (t2.slots.getD k (0, 0)) && decide ((t2.slots.getD k (0, 0)).2 ≤ t2.now)) then t2.goneK k ++ [k] else t2.goneK k from t2.goneK_succ k)
          have HID := Lib.hid (show t2.ids [k] = [(t2.slots.getD k (0, 0)).1] from rfl)
          have c6 : wr.cell? ⟨gt, 515, none⟩ = some (.int .i64 (t2.now : Int)) := by rw [HTr.out.cNow, (t2.clears_same' _)]
          generalize t2.slots.getD k (0, 0) = s at hi HUS HSU HID
          clear HIX
          rcases s with ⟨a, b⟩
          have hlt2 : (k : Int) < 256 := by omega
          have HLN := Lib.hid (t2.goneK_len k)
          by_cases hu : ((a, b) : Nat × Nat) = (0, 0)
          · obtain ⟨rfl, rfl⟩ : a = 0 ∧ b = 0 := by simpa using hu
            have HS2 := Lib.hid (show t2.goneK (k + 1) = t2.goneK k by rw [HSU.out]; rfl)
            have hbx := (Below.refl wr.heap.size wr).alloc (Nat.le_refl _) (.cells #[.int .u64 0, .int .i64 0] 93)
            have HBX := Lib.hid hbx
            have x0 : (wr.alloc (.cells #[.int .u64 0, .int .i64 0] 93)).cell? ⟨wr.heap.size, 0, none⟩ = some (.int .u64 0) := (Blk.new wr 93 #[.int .u64 0, .int .i64 0]).cell 0
            have x1 : (wr.alloc (.cells #[.int .u64 0, .int .i64 0] 93)).cell? ⟨wr.heap.size, 1, none⟩ = some (.int .i64 0) := (Blk.new wr 93 #[.int .u64 0, .int .i64 0]).cell 1
            simp only [Int.natCast_zero] at hi
            clear hbx
            go_upto_region 10 with fail
            generalize wr.alloc (.cells #[.int .u64 0, .int .i64 0] 93) = w5 at *
            go_quiet (fail)
            go_wp2_with fail
            go_roundw
            case rel => exact ⟨k + 1, by omega, by go_num, by rw [HS2.out]; exact Lib.hid (own_below HOr.out (below_drewN HBX.out _)), by rw [HS2.out]; exact Lib.hid (HTr.out.after (below_drewN HBX.out _)), Lib.hid (HKr.out.after (below_drewN HBX.out _)), Lib.hid (Nat.le_trans HZr.out (below_drewN HBX.out nq).size)⟩
            case measure => simp [intOf]; omega
          · have ha0 : ¬ a = 0 := HUS.out hu
            have ha1 : ((a : Int) == 0) = false := by simpa using ha0
            have hbx := (Below.refl wr.heap.size wr).alloc (Nat.le_refl _) (.cells #[.int .u64 (a : Int), .int .i64 (b : Int)] 93)
            have HBX := Lib.hid hbx
            have x0 : (wr.alloc (.cells #[.int .u64 (a : Int), .int .i64 (b : Int)] 93)).cell? ⟨wr.heap.size, 0, none⟩ = some (.int .u64 (a : Int)) := (Blk.new wr 93 #[.int .u64 (a : Int), .int .i64 (b : Int)]).cell 0
            have x1 : (wr.alloc (.cells #[.int .u64 (a : Int), .int .i64 (b : Int)] 93)).cell? ⟨wr.heap.size, 1, none⟩ = some (.int .i64 (b : Int)) := (Blk.new wr 93 #[.int .u64 (a : Int), .int .i64 (b : Int)]).cell 1
            have c6' := (hbx.cell (p := ⟨gt, 515, none⟩) (World.block_lt_of_cell? _ _ c6)).trans c6
            clear hbx c6
            by_cases hex : b ≤ t2.now
            · have HS2 := Lib.hid (show t2.goneK (k + 1) = t2.goneK k ++ [k] by rw [HSU.out, (usedB_iff (a, b)).2 hu, decide_eq_true hex]; rfl)
              have HS3 := Lib.hid (show h.clrs (t2.goneK (k + 1)) = (h.clrs (t2.goneK k)).clrK k ∧ t2.clears (t2.goneK (k + 1)) = (t2.clears (t2.goneK k)).clear k ∧ (t2.goneK (k + 1)).length = (t2.goneK k).length + 1 ∧ u64s (t2.ids (t2.goneK (k + 1))) = u64s (t2.ids (t2.goneK k)) ++ [.int .u64 (a : Int)] by
                rw [HS2.out]; exact ⟨clrs_snoc _ _ _, TM.clears_snoc _ _ _, by simp, by rw [show t2.ids (t2.goneK k ++ [k]) = t2.ids (t2.goneK k) ++ t2.ids [k] from List.map_append, HID.out, u64s_snoc]⟩)
              have hd1 : decide ((b : Int) ≤ (t2.now : Int)) = true := by simpa using hex
              have hln : (t2.goneK k).length ≤ 256 := by have := HLN.out; omega
              clear HS2 HSU HID
              go_upto_region 10 with fail
              generalize wr.alloc (.cells #[.int .u64 (a : Int), .int .i64 (b : Int)] 93) = w5 at *
              go_quiet (fail)
              have HBX2 := Lib.hid (below_drewN HBX.out nq)
              have HOQ := Lib.hid (own_below HOr.out HBX2.out)
              have HTQ := Lib.hid (HTr.out.after HBX2.out)
              have HKQ := Lib.hid (HKr.out.after HBX2.out)
              have HZQ := Lib.hid (Nat.le_trans HZr.out HBX2.out.size)
              have y0 : (w5.drewN nq).cell? ⟨wr.heap.size, 0, none⟩ = some (.int .u64 (a : Int)) := x0
              clear x0 x1 c6'
              generalize w5.drewN nq = wq at *
              have hZ := HZQ.out
              go_wp2_with (at_builtin; refine wpList_append_any _ rfl (.tmp 50) (.tmp 53) _ rfl w2.heap.size 47 i0 _ 1 8 Tryz.underlying58 hi0 hz0 hz1 hz2 rfl (by omega) u6 (t2.goneK k).length _ rfl (own_keep HOQ.out (fun q hq => Below.heap_alloc wq (.cells #[.int .u64 (a : Int)] 47) q (HOQ.out.lt q hq).2)) (wq.heap.size + 1) (some ⟨wq.heap.size, 0, none⟩) 1 1 [.int .u64 (a : Int)] rfl (hreads_one wq _ _) (fun u hu => by simp at hu; subst hu; rfl) (by simp only [maxLen]; omega) (by omega) (by simp; omega) ?_; intro v3 w3 hown3 hgrow3 hat3; have HO3 := Lib.hid hown3; have HG3 := Lib.hid hgrow3; clear hown3 hgrow3 hat3)
              have hal := (Below.refl wq.heap.size wq).alloc (Nat.le_refl _) (.cells #[.int .u64 (a : Int)] 47)
              have T3 := (HTQ.out.after hal).grew HG3.out (fun q hq => HPL.out q (HOQ.out.lt q hq).1)
              have HK3 := Lib.hid ((HKQ.out.after hal).grew HG3.out (fun q hq => Nat.le_trans HWS.out (HOQ.out.lt q hq).1))
              have HZ3 := Lib.hid (Nat.le_trans HZQ.out (Nat.le_trans hal.size HG3.out.size))
              have HCL := Lib.hid (tclear_any T3 k hlt)
              clear hal T3 hZ
              refine HCL.out.mono ?_
              rintro e w4 ⟨rfl, T4, K4⟩
              have HO4 := Lib.hid (own_keep HO3.out (fun q hq => K4.block q (HO3.out.lt q hq).2 (HPL.out q (HO3.out.lt q hq).1).2.1 (HPL.out q (HO3.out.lt q hq).1).2.2))
              have HT4 := Lib.hid T4
              have HK4 := Lib.hid (HK3.out.trans K4)
              have HZ4 := Lib.hid (Nat.le_trans HZ3.out K4.size)
              clear T4 K4
              go_wp2_with fail
              go_roundw
              case rel => exact ⟨k + 1, by omega, by go_num, by rw [HS3.out.2.2.1, HS3.out.2.2.2]; exact HO4, by rw [HS3.out.1, HS3.out.2.1]; exact HT4, HK4, HZ4⟩
              case measure => simp [intOf]; omega
            · have HS2 := Lib.hid (show t2.goneK (k + 1) = t2.goneK k by rw [HSU.out, decide_eq_false hex, Bool.and_false]; rfl)
              have hd1 : decide ((b : Int) ≤ (t2.now : Int)) = false := by simpa using hex
              clear HSU HID
              go_upto_region 10 with fail
              generalize wr.alloc (.cells #[.int .u64 (a : Int), .int .i64 (b : Int)] 93) = w5 at *
              go_quiet (fail)
              go_wp2_with fail
              go_roundw
              case rel => exact ⟨k + 1, by omega, by go_num, by rw [HS2.out]; exact Lib.hid (own_below HOr.out (below_drewN HBX.out _)), by rw [HS2.out]; exact Lib.hid (HTr.out.after (below_drewN HBX.out _)), Lib.hid (HKr.out.after (below_drewN HBX.out _)), Lib.hid (Nat.le_trans HZr.out (below_drewN HBX.out nq).size)⟩
              case measure => simp [intOf]; omega
        · obtain rfl : k = 256 := by omega
          have HLE := Lib.hid (show (t2.ids (t2.goneK 256)).length = (t2.goneK 256).length from List.length_map _)
          have HLE2 := Lib.hid (show (sortN (t2.ids (t2.goneK 256))).length = (t2.goneK 256).length by unfold sortN; rw [List.length_mergeSort, HLE.out])
          have hown := HOr.out
          rw [← HLE.out] at hown
          have HSO := Lib.hid (sortV6_any hown HZr.out (by rw [HLE.out]; have := t2.goneK_len 256; omega))
          clear hown
          go_wp2_with fail
          refine HSO.out.mono ?_
          rintro e w5 ⟨rfl, hown5, hb5⟩
          have HO5 := Lib.hid hown5
          have HT5 := Lib.hid (HTr.out.belowB hb5 (fun k hk => by
            rcases Nat.lt_or_ge k w2.heap.size with h1 | h1
            · exact h1
            · have := HPL.out k h1
              rcases hk with hk | hk
              · exact absurd hk this.2.1
              · exact absurd hk this.2.2) HWL.out)
          have HK5 := Lib.hid (HKr.out.belowB hb5 HWS.out)
          clear hown5 hb5
          go_wp2_with fail
          go_ret2
          refine ⟨u6, by rw [HV.out.2.2.2]; rfl, ?_, by rw [HV.out.1, HV.out.2.1]; exact HT5.out, HK5.out⟩
          rw [HV.out.2.2.1, HLE2.out, ← HLE.out]
          exact own_base HO5.out HWS.out
end
end Go.Proofs.YtlkahgagmfhdaaaGreatDoor

namespace Go.Proofs.YtlkahgagmfhdaaaGreatDoor
open Go.RowKit
attribute [local go_sem] Oper.semAt_some
section
variable {w : World} {p : HP} {h : HM} {l : List Ob}
end
end Go.Proofs.YtlkahgagmfhdaaaGreatDoor

namespace Go.Proofs.YtlkahgagmfhdaaaGreatDoor
open Go.RowKit
attribute [local go_sem] Oper.semAt_some
/-- A mover in memory, all of it from B on. -/
structure MovAt (w : World) (B mg mb : Nat) (hp : Value) (v : Value) (ws : List Nat) (pl : List (Nat × Nat)) (t0 t1 t2 t3 t4 : Nat) : Prop where
  box : Blk w mg 172 #[hp, .map (some mb), v, .int .i64 (t0 : Int), .int .i64 (t1 : Int), .int .i64 (t2 : Int), .int .i64 (t3 : Int), .int .i64 (t4 : Int)]
  own : w.ownsRow B 32 1 v ws.length (u32s ws)
  map : MapE 54 54 .u32 w mb pl.length (fun x => (goesM pl x : Nat)) (fun x => decide (x ∈ pl.map (·.1)))
  hg : B ≤ mg
  hm : B ≤ mb
/-- What a step of the mover does to memory: its struct and its row of words alone are others; the row stays or is new. -/
structure MFr (mg : Nat) (v v' : Value) (w w' : World) : Prop where
  os : w'.os = w.os
  tape : w'.tape = w.tape
  output : w'.output = w.output
  size : w.heap.size ≤ w'.heap.size
  same : ∀ k, k < w.heap.size → k ≠ mg → v.ownBlock ≠ some k → w'.heap[k]? = w.heap[k]?
  blk : v'.ownBlock = v.ownBlock ∨ ∃ k, v'.ownBlock = some k ∧ w.heap.size ≤ k
theorem MFr.refl (mg : Nat) (v : Value) (w : World) : MFr mg v v w w := ⟨rfl, rfl, rfl, Nat.le_refl _, fun _ _ _ _ => rfl, .inl rfl⟩
theorem MFr.of_below {mg : Nat} {v : Value} {w w' : World} (h : Below w.heap.size w w') : MFr mg v v w w' := ⟨h.os, h.tape, h.output, h.size, fun k hk _ _ => h.block k hk, .inl rfl⟩
theorem MFr.trans {mg : Nat} {v v1 v2 : Value} {w w1 w2 : World} (h : MFr mg v v1 w w1) (k : MFr mg v1 v2 w1 w2) : MFr mg v v2 w w2 := by
  refine ⟨k.os.trans h.os, k.tape.trans h.tape, k.output.trans h.output, Nat.le_trans h.size k.size, fun q hq hm hv => ?_, ?_⟩
  · refine (k.same q (Nat.lt_of_lt_of_le hq h.size) hm (fun e => ?_)).trans (h.same q hq hm hv)
    rcases h.blk with h1 | ⟨j, h1, h2⟩
    · exact hv (h1 ▸ e)
    · rw [h1] at e
      injection e with e
      omega
  · rcases k.blk with h1 | ⟨j, h1, h2⟩
    · rw [h1]; exact h.blk
    · exact .inr ⟨j, h1, Nat.le_trans h.size h2⟩
theorem MFr.row {mg g c : Nat} {v v' : Value} {w w' : World} {e : TypeId} {xs : List Value} (h : MFr mg v v' w w') (r : Row w g e c xs) (hm : g ≠ mg) (hv : v.ownBlock ≠ some g) : Row w' g e c xs ∧ v'.ownBlock ≠ some g :=
  ⟨r.same (h.same g r.lt hm hv), fun e => by
    rcases h.blk with h1 | ⟨j, h1, h2⟩
    · exact hv (h1 ▸ e)
    · rw [h1] at e
      injection e with e
      have := r.lt
      omega⟩
theorem MFr.below {mg B : Nat} {v v' : Value} {w w' : World} (h : MFr mg v v' w w') (hm : B ≤ mg) (hv : ∀ k, v.ownBlock = some k → B ≤ k) (hw : B ≤ w.heap.size) : Below B w w' :=
  ⟨h.os, h.tape, h.output, h.size, fun k hk => h.same k (by omega) (by omega) (fun e => by have := hv k e; omega)⟩
section
variable {w w' : World} {B mg mb : Nat} {hp v : Value} {ws : List Nat} {pl : List (Nat × Nat)} {t0 t1 t2 t3 t4 : Nat}
theorem MovAt.below (M : MovAt w B mg mb hp v ws pl t0 t1 t2 t3 t4) (h : Below w.heap.size w w') : MovAt w' B mg mb hp v ws pl t0 t1 t2 t3 t4 :=
  ⟨M.box.below h M.box.lt, own_below M.own h, M.map.below h, M.hg, M.hm⟩
theorem MovAt.drew (M : MovAt w B mg mb hp v ws pl t0 t1 t2 t3 t4) : MovAt w.drew B mg mb hp v ws pl t0 t1 t2 t3 t4 := M.below ⟨rfl, rfl, rfl, Nat.le_refl _, fun _ _ => rfl⟩
end
end Go.Proofs.YtlkahgagmfhdaaaGreatDoor
