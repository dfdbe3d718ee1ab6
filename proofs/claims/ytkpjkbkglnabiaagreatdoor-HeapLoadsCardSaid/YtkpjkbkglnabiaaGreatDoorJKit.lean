/- What each card of a heap law wants: the tables out of the row's list, a script out of its argument, a world for the witness. -/
/- More arguments opened: a deed by value, lists of bytes, words, oops, with what the form's reach says of their length. -/
/- A script out of its argument, with what the form's reach says of each deed's bytes. -/
import Derived.Test.YtkpjkbkglnabiaaGreatDoorOpen
import Derived.Test.YtkpjkbkglnabiaaGreatDoorJBoth
import Derived.Test.YtkpjkbkglnabiaaGreatDoorNew
import Derived.Test.YtkpjkbkglnabiaaGreatDoorCards
import Derived.Test.YtkpjkbkglnabiaaGreatDoorTie
import Derived.Deep.Slices
import Derived.Deep.Fields
import Derived.Deep.DeepHandedRow
import Derived.Lib.LaidTab
import Derived.SizedLaws
set_option linter.unusedSectionVars false
set_option linter.unusedVariables false
namespace Go.Proofs.YtkpjkbkglnabiaaGreatDoor
open Go.RowKit Go.WideShapes Go.ChangeShapes Go.ChangeAt Go.Deep

theorem own : ownKnob Tryz.prog.godebug = none := by kernel_rfl
theorem laidOut : laidOutB Tryz.prog = true := by kernel_rfl

/-- One listed variable's reading. -/
def ReadsAs (P : Program) (w : World) (n : String) (d : DataW Unit) : Prop :=
  ∃ g t cs fuel p, P.globalNamed n = some g ∧ (P.globals[g]?).map (·.type) = some t ∧ w.var? P n = some cs ∧ DataW.trod (fun _ => ()) P w 0 (fun _ => true) false fuel t cs.toList = some (d, p)
theorem reads_of_vars {P : Program} {w : World} : ∀ {l : List (String × DataW Unit)} {ps : List MemPlace}, DataW.LaidVars P w l ps → ∀ n d, (n, d) ∈ l → ReadsAs P w n d
  | [], _, _, _, _, hm => by cases hm
  | (n', d') :: r, ps, h, n, d, hm => by
    obtain ⟨g, t, cs, fuel, p, q, h1, h2, h3, h4, h5, _⟩ := h
    rcases List.mem_cons.1 hm with e | e
    · cases e
      exact ⟨g, t, cs, fuel, p, h1, h2, h3, h4⟩
    · exact reads_of_vars h5 n d e
theorem reads_of_met {P : Program} {w : World} {l : List (String × DataW Unit)} (h : laidMet P l w) {n : String} {d : DataW Unit} (hm : (n, d) ∈ l) : ReadsAs P w n d :=
  let ⟨_, hv, _⟩ := h
  reads_of_vars hv n d hm

/-- An array of bools that reads as the table holds it, cell for cell. -/
theorem bools_of_tab {H : Type} {enc : TypeId × Value → H} {P : Program} {w : World} {base : Nat} {sp : Nat → Bool} {held : Bool} {fuel : Nat} {t e : TypeId} {n : Nat} {cs : List Value} {zs : List Bool} {p : List MemPlace}
    (ht : P.underlying t = some (.array n e)) (he : P.underlying e = some .bool) (hce : P.cellsOf e = 1) (hct : P.cellsOf t = n)
    (h : DataW.trod enc P w base sp held fuel t cs = some (.agg (zs.map fun z => .lit (.bool z)), p)) : cs = zs.map Value.bool := by
  cases fuel with
  | zero => simp [DataW.trod] at h
  | succ fuel =>
    simp only [DataW.trod, ht, hce, hct, Nat.mul_one] at h
    split at h
    · rename_i hl
      obtain ⟨xs, hm, hx⟩ := Option.map_eq_some_iff.1 h
      have hxs : xs.map (·.1) = zs.map fun z => (DataW.lit (.bool z) : DataW H) := by
        have := congrArg Prod.fst hx
        simpa using this
      have hxl : xs.length = n := by simpa using Lib.mapM_length hm
      have hzl : zs.length = n := by
        have := congrArg List.length hxs
        simp at this
        omega
      apply List.ext_getElem?
      intro i
      by_cases hi : i < n
      · obtain ⟨b, hb, hf⟩ := Lib.mapM_at hm i i (by simp [hi])
        obtain ⟨z, hc, rfl⟩ := DataW.trod_bool he hf
        have h1 : cs[i]? = some (.bool z) := by
          have := congrArg (·[0]?) hc
          simpa [List.getElem?_take, List.getElem?_drop] using this
        have h2 : (xs.map (·.1))[i]? = some (DataW.lit (.bool z) : DataW H) := by simp [hb]
        rw [hxs] at h2
        simp only [List.getElem?_map, Option.map_eq_some_iff, DataW.lit.injEq, Lit.bool.injEq] at h2
        obtain ⟨z', hz', rfl⟩ := h2
        simp [h1, hz']
      · rw [List.getElem?_eq_none (by omega), List.getElem?_eq_none (by simp; omega)]
    · cases h

theorem gPow : Tryz.prog.globalNamed "internal/strconv.uint64pow10" = some 1 := by kernel_rfl
theorem gPowT : (Tryz.prog.globals[1]?).map (·.type) = some 180 := by kernel_rfl
theorem cPow : Tryz.prog.cellsOf 180 = 20 := by kernel_rfl
theorem cU64 : Tryz.prog.cellsOf 170 = 1 := by kernel_rfl
theorem gSp : Tryz.prog.globalNamed "effigy/oop.spares" = some 0 := by kernel_rfl
theorem gSpT : (Tryz.prog.globals[0]?).map (·.type) = some 168 := by kernel_rfl
theorem cSp : Tryz.prog.cellsOf 168 = 5 := by kernel_rfl
theorem cB : Tryz.prog.cellsOf 4 = 1 := by kernel_rfl
theorem env_of_met {l : List (String × DataW Unit)} {W : World} (h : laidMet Tryz.prog l W) (h1 : ("internal/strconv.uint64pow10", Rows.laid_internal_strconv_uint64pow10) ∈ l)
    (h2 : ("effigy/oop.spares", Rows.laid_effigy_oop_spares) ∈ l) : Env W := by
  refine ⟨?_, ?_⟩
  · obtain ⟨g, t, cs, fuel, p, e1, e2, e3, e4⟩ := reads_of_met h h2
    obtain rfl := Option.some.inj (gSp.symm.trans e1)
    obtain rfl := Option.some.inj (gSpT.symm.trans e2)
    have e5 := bools_of_tab (zs := [false, false, true, false, false]) Tryz.underlying168 Tryz.underlying4 cB cSp e4
    intro i hi
    have := World.var?_cell gSp e3 i
    rw [this, ← Array.getElem?_toList, e5]
    rcases (by omega : i = 0 ∨ i = 1 ∨ i = 2 ∨ i = 3 ∨ i = 4) with rfl | rfl | rfl | rfl | rfl <;> rfl
  · obtain ⟨g, t, cs, fuel, p, e1, e2, e3, e4⟩ := reads_of_met h h1
    obtain rfl := Option.some.inj (gPow.symm.trans e1)
    obtain rfl := Option.some.inj (gPowT.symm.trans e2)
    have e5 := Lib.cells_of_tab (zs := Lib.pow10Tab) (k := .u64) Tryz.underlying180 Tryz.underlying170 cU64 cPow e4
    unfold Pow Lib.TabIs
    rw [e3, ← e5]

/-- A nested slice of integers, opened to cells. -/
theorem open_ints_cells {H : Type} {enc : TypeId × Value → H} {P : Program} {w : World} {base : Nat} {spare : Nat → Bool} {held : Bool} {fuel : Nat} {t e : TypeId} {k : IntKind} {cs : List Value} {x : DataW H × List MemPlace}
    (ht : P.underlying t = some (.slice e)) (he : P.underlying e = some (.int k)) (hc : P.cellsOf e = 1) (h : DataW.trod enc P w base spare held fuel t cs = some x) :
    ∃ (A : Option Addr) (n c : Nat) (zs : List Int), cs = [.slice A n c] ∧ n ≤ c ∧ c ≤ maxLen ∧ Reads w w.heap.size 1 A n (zs.map (Value.int k)) ∧ zs.length = n ∧ (∀ x ∈ zs, (Lit.int k x).wf = true) := by
  have h' := h
  rcases open_ints ht he hc h with ⟨hcs, hx⟩ | ⟨a, len', cap', zs, hcs, _⟩
  · subst hcs
    obtain ⟨A, n, c, zs, hv, r⟩ := open_ints_reads (v := .slice none 0 0) (d := x.1) (ps := x.2) ht he hc ⟨_, _, _, rfl⟩ ⟨fuel, h'⟩
    exact ⟨A, n, c, zs, by rw [hv], r⟩
  · subst hcs
    obtain ⟨A, n, c, zs, hv, r⟩ := open_ints_reads (v := .slice (some a) len' cap') (d := x.1) (ps := x.2) ht he hc ⟨_, _, _, rfl⟩ ⟨fuel, h'⟩
    exact ⟨A, n, c, zs, by rw [hv], r⟩

theorem exists_list {α : Type} (n : Nat) (P : Nat → α → Prop) (h : ∀ i, i < n → ∃ d, P i d) : ∃ ds : List α, ds.length = n ∧ ∀ i d, ds[i]? = some d → P i d := by
  induction n with
  | zero => exact ⟨[], rfl, fun i d hd => by simp at hd⟩
  | succ n ih =>
    obtain ⟨ds, hl, hds⟩ := ih (fun i hi => h i (by omega))
    obtain ⟨d, hd⟩ := h n (by omega)
    refine ⟨ds ++ [d], by simp [hl], fun i e he => ?_⟩
    rcases Nat.lt_or_ge i n with hi | hi
    · rw [List.getElem?_append_left (by omega)] at he
      exact hds i e he
    · rw [List.getElem?_append_right (by omega)] at he
      have : i = n := by
        rcases Nat.lt_or_ge (i - ds.length) 1 with h1 | h1
        · omega
        · rw [List.getElem?_eq_none (by simpa using h1)] at he; cases he
      subst this
      rw [hl, Nat.sub_self] at he
      cases he
      exact hd

theorem wf_range {k : IntKind} {n : Int} (h : (Lit.int k n).wf = true) : k.min ≤ n ∧ n ≤ k.max := by simpa [Lit.wf] using h
theorem nat_of_wf {k : IntKind} {n : Int} (hk : k.min = 0) (h : (Lit.int k n).wf = true) : ∃ m : Nat, n = (m : Int) ∧ (m : Int) ≤ k.max := by
  have := wf_range h
  exact ⟨n.toNat, by omega, by omega⟩

theorem deedX : ∃ fs, Tryz.prog.underlying 33 = some (.struct fs) ∧ oneCellFields Tryz.prog fs = true ∧ fs.size = 8 ∧
    fs.toList.map (·.type) = [3, 30, 30, 3, 3, 3, 29, 31] := ⟨_, Tryz.underlying33, by kernel_rfl, by kernel_rfl, by kernel_rfl⟩
theorem cellsDeed : Tryz.prog.cellsOf 33 = 8 := by kernel_rfl
theorem cellsU8 : Tryz.prog.cellsOf 5 = 1 := by kernel_rfl

/-- One deed's eight cells, read. -/
theorem open_deed {H : Type} {enc : TypeId × Value → H} {w : World} {base : Nat} {spare : Nat → Bool} {held : Bool} {fuel : Nat} {cs : List Value} {x : DataW H × List MemPlace}
    (h : DataW.trod enc Tryz.prog w base spare held fuel 33 cs = some x) :
    ∃ (d : Dd) (A : Option Addr) (n c : Nat), d.Fit ∧ cs = d.vals A n c ∧ n ≤ 9223372036854775807 ∧ Reads w w.heap.size 1 A n (u8c d.b) := by
  obtain ⟨fs, uDeed, oneDeed, sizeDeed, tyDeed⟩ := deedX
  obtain ⟨xs, n', hn', hy, hlen, hyl, hf⟩ := DataW.trod_struct uDeed h
  rw [cellsDeed] at hlen
  rw [sizeDeed] at hyl
  have field : ∀ (j : Nat) (t : TypeId), (fs.toList.map (·.type))[j]? = some t → ∃ (v : Value) (y : DataW H × List MemPlace), cs[j]? = some v ∧ DataW.trod enc Tryz.prog w base spare held n' t [v] = some y := by
    intro j t hj
    rw [List.getElem?_map, Option.map_eq_some_iff] at hj
    obtain ⟨f, hjf, rfl⟩ := hj
    rw [Array.getElem?_toList] at hjf
    obtain ⟨ho, hk⟩ := hone_of oneDeed j f hjf
    have hjl : j < 8 := by have := (Array.getElem?_eq_some_iff.1 hjf).1; rw [sizeDeed] at this; exact this
    have h1 := hf j f hjf
    rw [ho, hk] at h1
    have hone' : (cs.drop j).take 1 = [cs[j]'(by omega)] := by
      rw [List.drop_eq_getElem_cons (by omega)]
      rfl
    rw [hone'] at h1
    exact ⟨cs[j]'(by omega), xs[j]'(by omega), List.getElem?_eq_getElem (by omega), h1.trans (List.getElem?_eq_getElem (by omega))⟩
  rw [tyDeed] at field
  obtain ⟨v0, y0, c0, t0⟩ := field 0 _ rfl
  obtain ⟨v1, y1, c1, t1⟩ := field 1 _ rfl
  obtain ⟨v2, y2, c2, t2⟩ := field 2 _ rfl
  obtain ⟨v3, y3, c3, t3⟩ := field 3 _ rfl
  obtain ⟨v4, y4, c4, t4⟩ := field 4 _ rfl
  obtain ⟨v5, y5, c5, t5⟩ := field 5 _ rfl
  obtain ⟨v6, y6, c6, t6⟩ := field 6 _ rfl
  obtain ⟨v7, y7, c7, t7⟩ := field 7 _ rfl
  clear field hf
  obtain ⟨n0, e0, -, w0⟩ := DataW.trod_int Tryz.underlying3 t0
  obtain ⟨n1, e1, -, w1⟩ := DataW.trod_int Tryz.underlying30 t1
  obtain ⟨n2, e2, -, w2⟩ := DataW.trod_int Tryz.underlying30 t2
  obtain ⟨n3, e3, -, w3⟩ := DataW.trod_int Tryz.underlying3 t3
  obtain ⟨n4, e4, -, w4⟩ := DataW.trod_int Tryz.underlying3 t4
  obtain ⟨n5, e5, -, w5⟩ := DataW.trod_int Tryz.underlying3 t5
  obtain ⟨n6, e6, -, w6⟩ := DataW.trod_int Tryz.underlying29 t6
  obtain ⟨A, m, c, zs, e7, hmc, hcm, hr, hzl, hwz⟩ := open_ints_cells Tryz.underlying31 Tryz.underlying5 cellsU8 t7
  obtain ⟨ys, rfl, hys⟩ := nats_of_wf rfl hwz
  obtain ⟨m1, rfl, b1⟩ := nat_of_wf rfl w1
  obtain ⟨m2, rfl, b2⟩ := nat_of_wf rfl w2
  obtain ⟨m6, rfl, b6⟩ := nat_of_wf rfl w6
  have hmx : IntKind.u32.max = 4294967295 := rfl
  have hm8 : IntKind.u8.max = 255 := rfl
  simp only [List.cons.injEq, and_true] at e0 e1 e2 e3 e4 e5 e6 e7
  subst e0 e1 e2 e3 e4 e5 e6 e7
  unfold maxLen at hcm
  refine ⟨⟨n0, m1, m2, n3, n4, n5, m6, ys⟩, A, m, c, ⟨by simp only; omega, by simp only; omega, by simp only; omega, fun x hx => by have := hys x hx; omega⟩, ?_, by omega, by simpa [u8c, Function.comp_def] using hr⟩
  apply List.ext_getElem?
  intro j
  rcases Nat.lt_or_ge j 8 with hj | hj
  · rcases (by omega : j = 0 ∨ j = 1 ∨ j = 2 ∨ j = 3 ∨ j = 4 ∨ j = 5 ∨ j = 6 ∨ j = 7) with rfl | rfl | rfl | rfl | rfl | rfl | rfl | rfl
    · exact c0
    · exact c1
    · exact c2
    · exact c3
    · exact c4
    · exact c5
    · exact c6
    · exact c7
  · rw [List.getElem?_eq_none (by omega), List.getElem?_eq_none (show (Dd.vals _ A m c).length ≤ j from hj)]

/-- A script out of its argument. -/
theorem open_deeds {H : Type} {enc : TypeId × Value → H} {w : World} {spare : Nat → Bool} {held : Bool} {v : Value} {d : DataW H} {ps : List MemPlace}
    (hv : ∃ a n c, v = .slice a n c) (h : DataW.Trod enc Tryz.prog w 0 spare held 22 v d ps) :
    ∃ (A : Option Addr) (n c : Nat) (ds : List Dd), v = .slice A n c ∧ n ≤ 9223372036854775807 ∧ ds.length = n ∧ DeedsAt w w.heap.size A ds := by
  obtain ⟨a0, n0, c0, rfl⟩ := hv
  obtain ⟨fuel, hf⟩ := h
  rcases open_slice Tryz.underlying22 hf with ⟨hcs, hx⟩ | ⟨a, len, cap, m, n, D, Pl, hcs, hb, hl, hm, hmm, hx, hi⟩
  · simp only [Value.cells, List.cons.injEq, Value.slice.injEq, and_true] at hcs
    obtain ⟨rfl, rfl, rfl⟩ := hcs
    exact ⟨none, 0, 0, [], rfl, by omega, rfl, fun i d hd => by simp at hd⟩
  · simp only [Value.cells, List.cons.injEq, Value.slice.injEq, and_true] at hcs
    obtain ⟨rfl, rfl, rfl⟩ := hcs
    unfold maxLen at hm
    obtain ⟨ds, hdl, hds⟩ := exists_list n0 (fun i (d : Dd) => d.Fit ∧ ∃ ad Ab nb cb, some a = some ad ∧ ad.block < w.heap.size ∧ nb ≤ 9223372036854775807 ∧ Reads w w.heap.size 1 Ab nb (u8c d.b) ∧ ∀ j v, (d.vals Ab nb cb)[j]? = some v → w.cell? (ad.add (i * 8 + j)) = some v) (by
      intro i hin
      obtain ⟨cs', hc, ht'⟩ := hi i (by rw [hmm]; split <;> omega)
      rw [cellsDeed] at hc
      obtain ⟨_, hcl, hat⟩ := World.cells?_some hc
      obtain ⟨d, Ab, nb, cb, hfit, hvals, hnb, hR⟩ := open_deed ht'
      subst hvals
      have h0 := hat 0 (by omega)
      have hblk := World.block_lt_of_cell? _ _ h0
      rw [block_of_add, block_of_add] at hblk
      refine ⟨d, hfit, a, Ab, nb, cb, rfl, hblk, hnb, hR, fun j v hj => ?_⟩
      have hj8 : j < 8 := by
        rcases Nat.lt_or_ge j 8 with h1 | h1
        · exact h1
        · rw [List.getElem?_eq_none (show (d.vals Ab nb cb).length ≤ j from h1)] at hj; cases hj
      rw [← add_of_add, hat j hj8, List.getElem?_eq_getElem (show j < (d.vals Ab nb cb).length from hj8)] at *
      first | exact hj | (simpa using hj))
    exact ⟨some a, n0, c0, ds, rfl, by omega, hdl, hds⟩

def laidCells (l : List Value) : Obj → Obj
  | .cells _ t frozen => .cells l.toArray t frozen
  | o => o
/-- A world for the witnesses: the settled one, the tables holding what their initialisers lay. -/
noncomputable def laidWorld (os : Os) : World :=
  { World.holding Tryz.prog os ⟨#[], #[], []⟩ with heap := ((((World.holding Tryz.prog os ⟨#[], #[], []⟩).heap.modify 0 (laidCells [.bool false, .bool false, .bool true, .bool false, .bool false])).modify 1 (laidCells (Lib.pow10Tab.map fun z => Value.int .u64 z))).modify 3 (laidCells (([0, 1, 28, 2, 29, 14, 24, 3, 30, 22, 20, 15, 25, 17, 4, 8, 31, 27, 13, 23, 21, 19, 16, 7, 26, 12, 18, 6, 11, 5, 10, 9] : List Int).map fun z => Value.int .u8 z))).modify 4 (laidCells (([0, 1, 56, 2, 57, 49, 28, 3, 61, 58, 42, 50, 38, 29, 17, 4, 62, 47, 59, 36, 45, 43, 51, 22, 53, 39, 33, 30, 24, 18, 12, 5, 63, 55, 48, 27, 60, 41, 37, 16, 46, 35, 44, 21, 52, 32, 23, 11, 54, 26, 40, 15, 34, 20, 31, 10, 25, 14, 19, 9, 13, 8, 7, 6] : List Int).map fun z => Value.int .u8 z)) }
end Go.Proofs.YtkpjkbkglnabiaaGreatDoor

namespace Go.Proofs.YtkpjkbkglnabiaaGreatDoor
open Go.RowKit Go.WideShapes Go.ChangeShapes Go.ChangeAt Go.Deep

set_option maxRecDepth 100000 in
theorem open_deed1 {H : Type} {enc : TypeId × Value → H} {w : World} {r : Reach} {b0 base : Nat} {spare : Nat → Bool} {held : Bool} {v : Value} {d : DataW H} {ps : List MemPlace}
    (hv : Value.okWide Tryz.prog w r b0 33 v) (h : DataW.Trod enc Tryz.prog w base spare held 33 v d ps) :
    ∃ (x : Dd) (A : Option Addr) (n c : Nat), x.Fit ∧ v = x.val A n c ∧ n ≤ 9223372036854775807 ∧ Reads w w.heap.size 1 A n (u8c x.b) := by
  obtain ⟨fs, uDeed, -, -, -⟩ := deedX
  obtain ⟨cs, rfl, hsz⟩ := okWide_struct uDeed hv
  obtain ⟨fuel, hf⟩ := h
  obtain ⟨x, A, n, c, fx, hcs, hn, hr⟩ := open_deed (show DataW.trod enc Tryz.prog w base spare held fuel 33 cs.toList = some (d, ps) from hf)
  refine ⟨x, A, n, c, fx, ?_, hn, hr⟩
  unfold Dd.val
  congr 1
  apply Array.toList_inj.1
  rw [hcs]
  rfl

theorem open_nats {H : Type} {enc : TypeId × Value → H} {P : Program} {w : World} {base : Nat} {spare : Nat → Bool} {held : Bool} {t e : TypeId} {k : IntKind} {v : Value} {d : DataW H} {ps : List MemPlace}
    (ht : P.underlying t = some (.slice e)) (he : P.underlying e = some (.int k)) (hc : P.cellsOf e = 1) (hk : k.min = 0) (hv : ∃ a n c, v = .slice a n c) (h : DataW.Trod enc P w base spare held t v d ps) :
    ∃ (A : Option Addr) (n c : Nat) (zs : List Nat), v = .slice A n c ∧ n ≤ 9223372036854775807 ∧ Reads w w.heap.size 1 A n (zs.map fun x : Nat => Value.int k (x : Int)) ∧ (∀ y ∈ zs, (y : Int) ≤ k.max) ∧
      (n = 0 ∨ ∃ el sp, d = .slice el sp ∧ el.length = n) := by
  obtain ⟨a0, n0, c0, hv0⟩ := id hv
  have hd : n0 = 0 ∨ ∃ el sp, d = .slice el sp ∧ el.length = n0 := by
    obtain ⟨fuel, hf⟩ := id h
    subst hv0
    rcases open_ints ht he hc hf with ⟨hcs, hx⟩ | ⟨a, len', cap', zs, hcs, _, hl, hm, hz, hx, hcell, hwz⟩
    · simp only [Value.cells, List.cons.injEq, Value.slice.injEq, and_true] at hcs
      exact .inl hcs.2.1
    · simp only [Value.cells, List.cons.injEq, Value.slice.injEq, and_true] at hcs
      obtain ⟨rfl, rfl, rfl⟩ := hcs
      injection hx with hx1 hx2
      have hlz : n0 ≤ zs.length := by rw [hz]; split <;> omega
      exact .inr ⟨_, _, hx1, by simp [lits]; omega⟩
  obtain ⟨A, n, c, zs, hv', hnc, hcm, hr, hzl, hwz⟩ := open_ints_reads ht he hc hv h
  obtain ⟨ys, rfl, hys⟩ := nats_of_wf hk hwz
  rw [hv0] at hv'
  injection hv' with e1 e2 e3
  subst e1 e2 e3
  unfold maxLen at hcm
  exact ⟨a0, n0, c0, ys, hv0, by omega, by simpa [Function.comp_def] using hr, hys, hd⟩

/-- What the form's reach says of a list's length. -/
theorem len_reach {H : Type} {P : Program} {ts : List TypeId} {ds : List (DataW H)} (h : (DataW.weightsEach P ts ds).all (· ≤ reachBytes) = true) (j : Nat) {t e : TypeId} {d : DataW H} {n b : Nat}
    (ht : ts[j]? = some t) (hd : ds[j]? = some d) (hu : P.underlying t = some (.slice e)) (hb : P.bytesOf e = b) (hn : n = 0 ∨ ∃ el sp, d = .slice el sp ∧ el.length = n) : n * b ≤ 140737488351232 := by
  rcases hn with rfl | ⟨el, sp, rfl, rfl⟩
  · omega
  · have h1 := sized_slice h ht hd hu
    rw [hb] at h1
    have h2 : el.length * b ≤ (el.length + sp.length) * b := Nat.mul_le_mul_right _ (by omega)
    unfold reachBytes at h1
    omega

section
variable {H : Type} {enc : TypeId × Value → H} {w : World} {base : Nat} {spare : Nat → Bool} {held : Bool} {v : Value} {d : DataW H} {ps : List MemPlace}
theorem cellsU32 : Tryz.prog.cellsOf 29 = 1 := by kernel_rfl
theorem cellsOop : Tryz.prog.cellsOf 30 = 1 := by kernel_rfl
theorem open_u8s (hv : ∃ a n c, v = .slice a n c) (h : DataW.Trod enc Tryz.prog w base spare held 31 v d ps) :
    ∃ (A : Option Addr) (n c : Nat) (zs : List Nat), v = .slice A n c ∧ n ≤ 9223372036854775807 ∧ Reads w w.heap.size 1 A n (u8c zs) ∧ (∀ y ∈ zs, y < 256) ∧ (n = 0 ∨ ∃ el sp, d = .slice el sp ∧ el.length = n) := by
  obtain ⟨A, n, c, zs, h1, h2, h3, h4, h5⟩ := open_nats Tryz.underlying31 Tryz.underlying5 cellsU8 rfl hv h
  have hm8 : IntKind.u8.max = 255 := rfl
  exact ⟨A, n, c, zs, h1, h2, h3, fun y hy => by have := h4 y hy; omega, h5⟩
theorem open_u32s (hv : ∃ a n c, v = .slice a n c) (h : DataW.Trod enc Tryz.prog w base spare held 42 v d ps) :
    ∃ (A : Option Addr) (n c : Nat) (zs : List Nat), v = .slice A n c ∧ n ≤ 9223372036854775807 ∧ Reads w w.heap.size 1 A n (u32s zs) ∧ (∀ y ∈ zs, y < 4294967296) ∧ (n = 0 ∨ ∃ el sp, d = .slice el sp ∧ el.length = n) := by
  obtain ⟨A, n, c, zs, h1, h2, h3, h4, h5⟩ := open_nats Tryz.underlying42 Tryz.underlying29 cellsU32 rfl hv h
  have hm8 : IntKind.u32.max = 4294967295 := rfl
  exact ⟨A, n, c, zs, h1, h2, h3, fun y hy => by have := h4 y hy; omega, h5⟩
theorem open_oops (hv : ∃ a n c, v = .slice a n c) (h : DataW.Trod enc Tryz.prog w base spare held 43 v d ps) :
    ∃ (A : Option Addr) (n c : Nat) (zs : List Nat), v = .slice A n c ∧ n ≤ 9223372036854775807 ∧ Reads w w.heap.size 1 A n (u32s zs) ∧ (∀ y ∈ zs, y < 4294967296) ∧ (n = 0 ∨ ∃ el sp, d = .slice el sp ∧ el.length = n) := by
  obtain ⟨A, n, c, zs, h1, h2, h3, h4, h5⟩ := open_nats Tryz.underlying43 Tryz.underlying30 cellsOop rfl hv h
  have hm8 : IntKind.u32.max = 4294967295 := rfl
  exact ⟨A, n, c, zs, h1, h2, h3, fun y hy => by have := h4 y hy; omega, h5⟩
end
theorem bytesU8 : Tryz.prog.bytesOf 5 = 1 := by kernel_rfl
theorem bytesU32 : Tryz.prog.bytesOf 29 = 4 := by kernel_rfl
theorem bytesOop : Tryz.prog.bytesOf 30 = 4 := by kernel_rfl
end Go.Proofs.YtkpjkbkglnabiaaGreatDoor

namespace Go.Proofs.YtkpjkbkglnabiaaGreatDoor
open Go.RowKit Go.WideShapes Go.ChangeShapes Go.ChangeAt Go.Deep

section
variable {H : Type} {enc : TypeId × Value → H} {w : World} {base : Nat} {spare : Nat → Bool} {held : Bool}
theorem deed_more {fuel : Nat} {cs : List Value} {x : DataW H × List MemPlace} (h : DataW.trod enc Tryz.prog w base spare held fuel 33 cs = some x) {d : Dd} {A : Option Addr} {m c : Nat} (hcs : cs = d.vals A m c) :
    d.i ≤ 9223372036854775807 ∧ ∀ R, (∀ z ∈ x.1.weights Tryz.prog 33, z ≤ R) → m ≤ R := by
  obtain ⟨fs, uDeed, oneDeed, sizeDeed, tyDeed⟩ := deedX
  obtain ⟨xs, n', hn', hy, hlen, hyl, hf⟩ := DataW.trod_struct uDeed h
  rw [cellsDeed] at hlen
  rw [sizeDeed] at hyl
  have field : ∀ (j : Nat) (t : TypeId), (fs.toList.map (·.type))[j]? = some t → ∃ (v : Value) (y : DataW H × List MemPlace), cs[j]? = some v ∧ xs[j]? = some y ∧ DataW.trod enc Tryz.prog w base spare held n' t [v] = some y := by
    intro j t hj
    rw [List.getElem?_map, Option.map_eq_some_iff] at hj
    obtain ⟨f, hjf, rfl⟩ := hj
    rw [Array.getElem?_toList] at hjf
    obtain ⟨ho, hk⟩ := hone_of oneDeed j f hjf
    have hjl : j < 8 := by have := (Array.getElem?_eq_some_iff.1 hjf).1; rw [sizeDeed] at this; exact this
    have h1 := hf j f hjf
    rw [ho, hk] at h1
    have hone' : (cs.drop j).take 1 = [cs[j]'(by omega)] := by
      rw [List.drop_eq_getElem_cons (by omega)]
      rfl
    rw [hone'] at h1
    exact ⟨cs[j]'(by omega), xs[j]'(by omega), List.getElem?_eq_getElem (by omega), List.getElem?_eq_getElem (by omega), h1.trans (List.getElem?_eq_getElem (by omega))⟩
  have ty4 : (fs.toList.map (·.type))[4]? = some 3 := by rw [tyDeed]; rfl
  have ty7 : (fs.toList.map (·.type))[7]? = some 31 := by rw [tyDeed]; rfl
  obtain ⟨v4, y4, c4, -, t4⟩ := field 4 _ ty4
  obtain ⟨v7, y7, c7, x7, t7⟩ := field 7 _ ty7
  rw [hcs] at c4 c7
  obtain ⟨n4, e4, -, w4⟩ := DataW.trod_int Tryz.underlying3 t4
  have hmx : IntKind.i64.max = 9223372036854775807 := rfl
  refine ⟨?_, fun R hR => ?_⟩
  · have h1 := (wf_range w4).2
    simp only [List.cons.injEq, and_true] at e4
    have h2 : some (Value.int .i64 d.i) = some v4 := c4
    rw [e4] at h2
    injection h2 with h2
    injection h2 with _ h2
    omega
  · have h2 : some (Value.slice A m c) = some v7 := c7
    injection h2 with h2
    rcases open_ints Tryz.underlying31 Tryz.underlying5 cellsU8 t7 with ⟨h3, _⟩ | ⟨a, len, cap, zs, h3, _, hl, _, hz, hx, _, _⟩
    · rw [← h2] at h3
      simp only [List.cons.injEq, Value.slice.injEq, and_true] at h3
      omega
    · rw [← h2] at h3
      simp only [List.cons.injEq, Value.slice.injEq, and_true] at h3
      obtain ⟨-, h4, -⟩ := h3
      have hlz : len ≤ zs.length := by rw [hz]; split <;> omega
      have hd7 : (xs.map (·.1))[7]? = some (.slice (lits .u8 (zs.take len)) (lits .u8 (zs.drop len))) := by
        rw [List.getElem?_map, x7, hx]; rfl
      have hmem : (zs.length) * 1 ∈ x.1.weights Tryz.prog 33 := by
        rw [hy]
        simp only [DataW.weights, uDeed]
        refine DataW.weights_mem_each ty7 hd7 _ ?_
        have hu := Tryz.underlying31
        simp only [DataW.weights, hu, bytesU8]
        rw [show (lits IntKind.u8 (zs.take len) : List (DataW H)).length + (lits IntKind.u8 (zs.drop len) : List (DataW H)).length = zs.length by simp [lits]; omega]
        exact List.mem_cons_self ..
      have := hR _ hmem
      omega
theorem weightsAll_mem {P : Program} {e : TypeId} {l : List (DataW H)} {y : DataW H} (hy : y ∈ l) {z : Nat} (hz : z ∈ y.weights P e) : z ∈ DataW.weightsAll P e l := by
  induction l with
  | nil => cases hy
  | cons a l ih =>
    simp only [DataW.weightsAll, List.mem_append]
    rcases List.mem_cons.1 hy with rfl | hy
    · exact .inl hz
    · exact .inr (ih hy)
end

/-- A script out of its argument. -/
theorem open_deeds2 {H : Type} {enc : TypeId × Value → H} {w : World} {spare : Nat → Bool} {held : Bool} {v : Value} {d : DataW H} {ps : List MemPlace}
    (hv : ∃ a n c, v = .slice a n c) (h : DataW.Trod enc Tryz.prog w 0 spare held 22 v d ps) (R : Nat) (hw : ∀ z ∈ d.weights Tryz.prog 22, z ≤ R) :
    ∃ (A : Option Addr) (n c : Nat) (ds : List Dd), v = .slice A n c ∧ n ≤ 9223372036854775807 ∧ ds.length = n ∧ DeedsAt w w.heap.size A ds ∧ ∀ d ∈ ds, d.i ≤ 9223372036854775807 ∧ d.b.length ≤ R := by
  obtain ⟨a0, n0, c0, rfl⟩ := hv
  obtain ⟨fuel, hf⟩ := h
  rcases open_slice Tryz.underlying22 hf with ⟨hcs, hx⟩ | ⟨a, len, cap, m, n, D, Pl, hcs, hb, hl, hm, hmm, hx, hi⟩
  · simp only [Value.cells, List.cons.injEq, Value.slice.injEq, and_true] at hcs
    obtain ⟨rfl, rfl, rfl⟩ := hcs
    exact ⟨none, 0, 0, [], rfl, by omega, rfl, (fun i d hd => by simp at hd), fun d hd => by cases hd⟩
  · simp only [Value.cells, List.cons.injEq, Value.slice.injEq, and_true] at hcs
    obtain ⟨rfl, rfl, rfl⟩ := hcs
    unfold maxLen at hm
    injection hx with hx1 hx2
    have hwD : ∀ i, i < n0 → ∀ z ∈ (D i).weights Tryz.prog 33, z ≤ R := by
      intro i hin z hz
      apply hw
      rw [hx1]
      have hu := Tryz.underlying22
      simp only [DataW.weights, hu, List.mem_cons, List.mem_append]
      exact .inr (.inl (weightsAll_mem (List.mem_map.2 ⟨i, List.mem_range.2 hin, rfl⟩) hz))
    obtain ⟨ds, hdl, hds⟩ := exists_list n0 (fun i (d : Dd) => (d.Fit ∧ ∃ ad Ab nb cb, some a = some ad ∧ ad.block < w.heap.size ∧ nb ≤ 9223372036854775807 ∧ Reads w w.heap.size 1 Ab nb (u8c d.b) ∧ ∀ j v, (d.vals Ab nb cb)[j]? = some v → w.cell? (ad.add (i * 8 + j)) = some v) ∧ d.i ≤ 9223372036854775807 ∧ d.b.length ≤ R) (by
      intro i hin
      obtain ⟨cs', hc, ht'⟩ := hi i (by rw [hmm]; split <;> omega)
      rw [cellsDeed] at hc
      obtain ⟨_, hcl, hat⟩ := World.cells?_some hc
      obtain ⟨d, Ab, nb, cb, hfit, hvals, hnb, hR⟩ := open_deed ht'
      obtain ⟨hi63, hlen⟩ := deed_more ht' hvals
      have hbl : d.b.length = nb := by have := hR.1; simpa [u8c] using this
      subst hvals
      have h0 := hat 0 (by omega)
      have hblk := World.block_lt_of_cell? _ _ h0
      rw [block_of_add, block_of_add] at hblk
      refine ⟨d, ⟨hfit, a, Ab, nb, cb, rfl, hblk, hnb, hR, fun j v hj => ?_⟩, hi63, by rw [hbl]; exact hlen R (hwD i hin)⟩
      have hj8 : j < 8 := by
        rcases Nat.lt_or_ge j 8 with h1 | h1
        · exact h1
        · rw [List.getElem?_eq_none (show (d.vals Ab nb cb).length ≤ j from h1)] at hj; cases hj
      rw [← add_of_add, hat j hj8, List.getElem?_eq_getElem (show j < (d.vals Ab nb cb).length from hj8)] at *
      first | exact hj | (simpa using hj))
    refine ⟨some a, n0, c0, ds, rfl, by omega, hdl, (fun i d hd => (hds i d hd).1), fun d hd => ?_⟩
    obtain ⟨i, hi⟩ := List.getElem?_of_mem hd
    exact (hds i d hi).2
/-- Of the form's reach: what each argument's weights may be. -/
theorem weights_le {H : Type} {P : Program} {ts : List TypeId} {ds : List (DataW H)} (h : (DataW.weightsEach P ts ds).all (· ≤ reachBytes) = true) (j : Nat) {t : TypeId} {d : DataW H} (ht : ts[j]? = some t) (hd : ds[j]? = some d) :
    ∀ z ∈ d.weights P t, z ≤ 140737488351232 := fun z hz => by
  have h1 := List.all_eq_true.1 h z (DataW.weights_mem_each ht hd z hz)
  unfold reachBytes at h1
  simpa using h1
end Go.Proofs.YtkpjkbkglnabiaaGreatDoor
