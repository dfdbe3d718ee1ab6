import Derived.Test.YtlkahgagmfhdaaaGreatDoorJOpen
import Derived.Test.YtlkahgagmfhdaaaGreatDoorJAll
import Derived.Test.YtlkahgagmfhdaaaGreatDoorCards
import Derived.Test.YtlkahgagmfhdaaaGreatDoorTie
import Derived.Deep.Slices
import Derived.Deep.Fields
import Derived.Deep.DeepHandedRow
import Derived.Lib.LaidTab
import Derived.SizedLaws
set_option linter.unusedVariables false
namespace Go.Proofs.YtlkahgagmfhdaaaGreatDoor
section
open Go.RowKit Go.WideShapes Go.ChangeShapes Go.ChangeAt Go.Deep
theorem own : ownKnob Tryz.prog.godebug = none := by kernel_rfl
theorem laidOut : laidOutB Tryz.prog = true := by kernel_rfl
def ReadsAs (P : Program) (w : World) (n : String) (d : DataW Unit) : Prop :=
 ∃ g t cs fuel p, P.globalNamed n = some g ∧ (P.globals[g]?).map (·.type) = some t ∧ w.var? P n = some cs ∧ DataW.trod (fun _ => ()) P w 0 (fun _ => true) false fuel t cs.toList = some (d, p)
theorem reads_of_vars {P : Program} {w : World} : ∀ {l : List (String × DataW Unit)} {ps : List MemPlace}, DataW.LaidVars P w l ps → ∀ n d, (n, d) ∈ l → ReadsAs P w n d
 | [], _, _, _, _, hm => by cases hm
 | (n', d') :: r, ps, h, n, d, hm => by
   obtain ⟨g, t, cs, fuel, p, q, h1, h2, h3, h4, h5, _⟩ := h
   rcases List.mem_cons.1 hm with e | e
   ·cases e
    exact ⟨g, t, cs, fuel, p, h1, h2, h3, h4⟩
   ·exact reads_of_vars h5 n d e
theorem reads_of_met {P : Program} {w : World} {l : List (String × DataW Unit)} (h : laidMet P l w) {n : String} {d : DataW Unit} (hm : (n, d) ∈ l) : ReadsAs P w n d :=
 let ⟨_, hv, _⟩ := h
 reads_of_vars hv n d hm
theorem bools_of_tab {H : Type} {enc : TypeId × Value → H} {P : Program} {w : World} {base : Nat} {sp : Nat → Bool} {held : Bool} {fuel : Nat} {t e : TypeId} {n : Nat} {cs : List Value} {zs : List Bool} {p : List MemPlace}
 (ht : P.underlying t = some (.array n e)) (he : P.underlying e = some .bool) (hce : P.cellsOf e = 1) (hct : P.cellsOf t = n)
 (h : DataW.trod enc P w base sp held fuel t cs = some (.agg (zs.map fun z => .lit (.bool z)), p)) : cs = zs.map Value.bool := by
 cases fuel with
 | zero => simp [DataW.trod] at h
 | succ fuel =>
   simp only [DataW.trod, ht, hce, hct, Nat.mul_one] at h
   split at h
   ·rename_i hl
    obtain ⟨xs, hm, hx⟩ := Option.map_eq_some_iff.1 h
    have hxs : xs.map (·.1) = zs.map fun z => (DataW.lit (.bool z) : DataW H) := by
     have := congrArg Prod.fst hx
     simpa using this
    have hxl : xs.length = n := by simpa using Lib.mapM_length hm
    have hzl : zs.length = n := by
     have := congrArg List.length hxs
     simp at this
     omega
    apply List.ext_getElem?
    intro i
    by_cases hi : i < n
    ·obtain ⟨b, hb, hf⟩ := Lib.mapM_at hm i i (by simp [hi])
     obtain ⟨z, hc, rfl⟩ := DataW.trod_bool he hf
     have h1 : cs[i]? = some (.bool z) := by
      have := congrArg (·[0]?) hc
      simpa [List.getElem?_take, List.getElem?_drop] using this
     have h2 : (xs.map (·.1))[i]? = some (DataW.lit (.bool z) : DataW H) := by simp [hb]
     rw [hxs] at h2
     simp only [List.getElem?_map, Option.map_eq_some_iff, DataW.lit.injEq, Lit.bool.injEq] at h2
     obtain ⟨z', hz', rfl⟩ := h2
     simp [h1, hz']
    ·rw [List.getElem?_eq_none (by omega), List.getElem?_eq_none (by simp; omega)]
   ·cases h
theorem gSp : Tryz.prog.globalNamed "effigy/oop.spares" = some 0 := by kernel_rfl
theorem gSpT : (Tryz.prog.globals[0]?).map (·.type) = some 362 := by kernel_rfl
theorem cSp : Tryz.prog.cellsOf 362 = 5 := by kernel_rfl
theorem cB : Tryz.prog.cellsOf 4 = 1 := by kernel_rfl
theorem env_of_met {l : List (String × DataW Unit)} {W : World} (h : laidMet Tryz.prog l W) (h2 : ("effigy/oop.spares", Rows.laid_effigy_oop_spares) ∈ l) : Env W := by
 have hs : Spares W := by
  obtain ⟨g, t, cs, fuel, p, e1, e2, e3, e4⟩ := reads_of_met h h2
  obtain rfl := Option.some.inj (gSp.symm.trans e1)
  obtain rfl := Option.some.inj (gSpT.symm.trans e2)
  have e5 := bools_of_tab (zs := [false, false, true, false, false]) Tryz.underlying362 Tryz.underlying4 cB cSp e4
  intro i hi
  have := World.var?_cell gSp e3 i
  rw [this, ← Array.getElem?_toList, e5]
  rcases (by omega : i = 0 ∨ i = 1 ∨ i = 2 ∨ i = 3 ∨ i = 4) with rfl | rfl | rfl | rfl | rfl <;> rfl
 exact ⟨hs, hs⟩
theorem open_ints_cells {H : Type} {enc : TypeId × Value → H} {P : Program} {w : World} {base : Nat} {spare : Nat → Bool} {held : Bool} {fuel : Nat} {t e : TypeId} {k : IntKind} {cs : List Value} {x : DataW H × List MemPlace}
 (ht : P.underlying t = some (.slice e)) (he : P.underlying e = some (.int k)) (hc : P.cellsOf e = 1) (h : DataW.trod enc P w base spare held fuel t cs = some x) :
 ∃ (A : Option Addr) (n c : Nat) (zs : List Int), cs = [.slice A n c] ∧ n ≤ c ∧ c ≤ maxLen ∧ Reads w w.heap.size 1 A n (zs.map (Value.int k)) ∧ zs.length = n ∧ (∀ x ∈ zs, (Lit.int k x).wf = true) := by
 have h' := h
 rcases open_ints ht he hc h with ⟨hcs, hx⟩ | ⟨a, len', cap', zs, hcs, _⟩
 ·subst hcs
  obtain ⟨A, n, c, zs, hv, r⟩ := open_ints_reads (v := .slice none 0 0) (d := x.1) (ps := x.2) ht he hc ⟨_, _, _, rfl⟩ ⟨fuel, h'⟩
  exact ⟨A, n, c, zs, by rw [hv], r⟩
 ·subst hcs
  obtain ⟨A, n, c, zs, hv, r⟩ := open_ints_reads (v := .slice (some a) len' cap') (d := x.1) (ps := x.2) ht he hc ⟨_, _, _, rfl⟩ ⟨fuel, h'⟩
  exact ⟨A, n, c, zs, by rw [hv], r⟩
theorem wf_range {k : IntKind} {n : Int} (h : (Lit.int k n).wf = true) : k.min ≤ n ∧ n ≤ k.max := by simpa [Lit.wf] using h
theorem nat_of_wf {k : IntKind} {n : Int} (hk : k.min = 0) (h : (Lit.int k n).wf = true) : ∃ m : Nat, n = (m : Int) ∧ (m : Int) ≤ k.max := by
 have := wf_range h
 exact ⟨n.toNat, by omega, by omega⟩
theorem cellsU32 : Tryz.prog.cellsOf 32 = 1 := by kernel_rfl
theorem cellsOop : Tryz.prog.cellsOf 54 = 1 := by kernel_rfl
theorem caseX : ∃ fs, Tryz.prog.underlying 103 = some (.struct fs) ∧ oneCellFields Tryz.prog fs = true ∧ fs.size = 4 ∧
 fs.toList.map (·.type) = [3, 84, 101, 32] := ⟨_, Tryz.underlying103, by kernel_rfl, by kernel_rfl, by kernel_rfl⟩
theorem cellsCase : Tryz.prog.cellsOf 103 = 4 := by kernel_rfl
set_option maxRecDepth 100000 in
theorem open_case {H : Type} {enc : TypeId × Value → H} {w : World} {r : Reach} {b0 base : Nat} {spare : Nat → Bool} {held : Bool} {v : Value} {d : DataW H} {ps : List MemPlace}
 (hv : Value.okWide Tryz.prog w r b0 103 v) (h : DataW.Trod enc Tryz.prog w base spare held 103 v d ps) : ∃ k : Cs, v = k.agg ∧ k.At w w.heap.size := by
 obtain ⟨fs, uCase, oneCase, sizeCase, tyCase⟩ := caseX
 obtain ⟨cs, rfl, hsz⟩ := okWide_struct uCase hv
 obtain ⟨fuel, hf0⟩ := h
 obtain ⟨xs, n', hn', hy, hlen, hyl, hf⟩ := DataW.trod_struct uCase (show DataW.trod enc Tryz.prog w base spare held fuel 103 cs.toList = some (d, ps) from hf0)
 rw [cellsCase] at hlen
 rw [sizeCase] at hyl
 have field : ∀ (j : Nat) (t : TypeId), (fs.toList.map (·.type))[j]? = some t → ∃ (v : Value) (y : DataW H × List MemPlace), cs.toList[j]? = some v ∧ DataW.trod enc Tryz.prog w base spare held n' t [v] = some y := by
  intro j t hj
  rw [List.getElem?_map, Option.map_eq_some_iff] at hj
  obtain ⟨f, hjf, rfl⟩ := hj
  rw [Array.getElem?_toList] at hjf
  obtain ⟨ho, hk⟩ := hone_of oneCase j f hjf
  have hjl : j < 4 := by have := (Array.getElem?_eq_some_iff.1 hjf).1; rw [sizeCase] at this; exact this
  have h1 := hf j f hjf
  rw [ho, hk] at h1
  have hone' : (cs.toList.drop j).take 1 = [cs.toList[j]'(by omega)] := by
   rw [List.drop_eq_getElem_cons (by omega)]
   rfl
  rw [hone'] at h1
  exact ⟨cs.toList[j]'(by omega), xs[j]'(by omega), List.getElem?_eq_getElem (by omega), h1.trans (List.getElem?_eq_getElem (by omega))⟩
 rw [tyCase] at field
 obtain ⟨v0, y0, c0, t0⟩ := field 0 _ rfl
 obtain ⟨v1, y1, c1, t1⟩ := field 1 _ rfl
 obtain ⟨v2, y2, c2, t2⟩ := field 2 _ rfl
 obtain ⟨v3, y3, c3, t3⟩ := field 3 _ rfl
 clear field hf
 obtain ⟨n0, e0, -, w0⟩ := DataW.trod_int Tryz.underlying3 t0
 obtain ⟨A, m, c, zs, e1, hmc, hcm, hr, hzl, hwz⟩ := open_ints_cells Tryz.underlying84 Tryz.underlying32 cellsU32 t1
 obtain ⟨A', m', c', zs', e2, hmc', hcm', hr', hzl', hwz'⟩ := open_ints_cells Tryz.underlying101 Tryz.underlying54 cellsOop t2
 obtain ⟨n3, e3, -, w3⟩ := DataW.trod_int Tryz.underlying32 t3
 obtain ⟨ys, rfl, hys⟩ := nats_of_wf rfl hwz
 obtain ⟨ys', rfl, hys'⟩ := nats_of_wf rfl hwz'
 obtain ⟨m3, rfl, b3⟩ := nat_of_wf rfl w3
 have hmx : IntKind.u32.max = 4294967295 := rfl
 simp only [List.cons.injEq, and_true] at e0 e1 e2 e3
 subst e0 e1 e2 e3
 unfold maxLen at hcm hcm'
 refine ⟨⟨n0, A, m, c, A', m', c', ys, ys', m3⟩, ?_, ⟨by simp only; omega, by simpa [u32s, Function.comp_def] using hr, fun x hx => by have := hys x hx; omega, by simp only; omega, by simpa [u32s, Function.comp_def] using hr', fun x hx => by have := hys' x hx; omega, by simp only; omega⟩⟩
 unfold Cs.agg
 congr 1
 apply Array.toList_inj.1
 apply List.ext_getElem?
 intro j
 rcases Nat.lt_or_ge j 4 with hj | hj
 ·rcases (by omega : j = 0 ∨ j = 1 ∨ j = 2 ∨ j = 3) with rfl | rfl | rfl | rfl
  ·exact c0
  ·exact c1
  ·exact c2
  ·exact c3
 ·rw [List.getElem?_eq_none (by omega), List.getElem?_eq_none (by exact hj)]
section
variable {H : Type} {enc : TypeId × Value → H} {w : World} {base : Nat} {spare : Nat → Bool} {held : Bool} {v : Value} {d : DataW H} {ps : List MemPlace}
end
def laidCells (l : List Value) : Obj → Obj
 | .cells _ t frozen => .cells l.toArray t frozen
 | o => o
noncomputable def laidWorld (os : Os) : World :=
 { World.holding Tryz.prog os ⟨#[], #[], []⟩ with heap := ((World.holding Tryz.prog os ⟨#[], #[], []⟩).heap.modify 0 (laidCells [.bool false, .bool false, .bool true, .bool false, .bool false])) }
end
end Go.Proofs.YtlkahgagmfhdaaaGreatDoor
