/- Those oops that name objects: only, by slices.DeleteFunc. -/
/- What an object names: named. -/
import Derived.Test.YtblekggklimpeaaDoorJAll
import Derived.Test.YtblekggklimpeaaDoorJLook
import Derived.Test.YtblekggklimpeaaDoorJLive
import Derived.Lib.SliceRun
set_option linter.unusedVariables false
set_option linter.unusedSimpArgs false
set_option linter.unusedSectionVars false
namespace Go.Proofs.YtblekggklimpeaaDoor
open Go.RowKit
attribute [local go_sem] Oper.semAt_some
/-- Only one block is another. -/
structure Frb (rg : Nat) (w w' : World) : Prop where
  os : w'.os = w.os
  tape : w'.tape = w.tape
  output : w'.output = w.output
  size : w.heap.size ≤ w'.heap.size
  same : ∀ k, k < w.heap.size → k ≠ rg → w'.heap[k]? = w.heap[k]?
theorem Frb.refl (rg : Nat) (w : World) : Frb rg w w := ⟨rfl, rfl, rfl, Nat.le_refl _, fun _ _ _ => rfl⟩
theorem Frb.trans {rg : Nat} {w w' w'' : World} (h : Frb rg w w') (k : Frb rg w' w'') : Frb rg w w'' :=
  ⟨k.os.trans h.os, k.tape.trans h.tape, k.output.trans h.output, Nat.le_trans h.size k.size, fun i hi hne => (k.same i (Nat.lt_of_lt_of_le hi h.size) hne).trans (h.same i hi hne)⟩
theorem Frb.set (rg i : Nat) (w : World) (v : Value) : Frb rg w (w.setCell ⟨rg, i, none⟩ v) :=
  ⟨rfl, rfl, rfl, by simp [World.setCell], fun k _ hne => Below.heap_setCell w ⟨rg, i, none⟩ v k hne⟩
theorem Frb.of_below {rg : Nat} {w w' : World} (h : Below w.heap.size w w') : Frb rg w w' := ⟨h.os, h.tape, h.output, h.size, fun k hk _ => h.block k hk⟩
theorem Frb.below {rg B : Nat} {w w' : World} (h : Frb rg w w') (hB : B ≤ rg) (hw : B ≤ w.heap.size) : Below B w w' := ⟨h.os, h.tape, h.output, h.size, fun k hk => h.same k (by omega) (by omega)⟩
theorem Frb.setCells (rg : Nat) : ∀ (vs : List Value) (o : Nat) (w : World), Frb rg w (w.setCells rg o vs)
  | [], _, w => Frb.refl _ _
  | v :: vs, o, w => (Frb.set rg o w v).trans (Frb.setCells rg vs (o + 1) _)
theorem Row.setCells {g c : Nat} {e : TypeId} {xs : List Value} : ∀ (vs : List Value) (o : Nat) (w : World), Row w g e c xs → xs.length ≤ o → Row (w.setCells g o vs) g e c xs
  | [], _, w, h, _ => h
  | v :: vs, o, w, h, ho => Row.setCells vs (o + 1) _ (by have := h.set o v; rwa [List.set_eq_of_length_le ho] at this) (by omega)
theorem Row.short {w : World} {g c : Nat} {e : TypeId} {xs : List Value} (h : Row w g e c xs) (i : Nat) : Row w g e c (xs.take i) := by
  obtain ⟨cur, hb, hl, hm, hc, hx⟩ := h
  refine ⟨cur, hb, by rw [List.length_take]; omega, hm, hc, ?_⟩
  rw [← hx, List.take_take, List.length_take]
  congr 1
  have : cur.toList.length = c := by simpa using hc
  have := congrArg List.length hx
  simp only [List.length_take] at this ⊢
  omega
theorem Row.len_le {w : World} {g c : Nat} {e : TypeId} {xs : List Value} (h : Row w g e c xs) : xs.length ≤ c := by obtain ⟨_, _, h1, _⟩ := h; exact h1
def k2 (o : Nat) : Bool := decide (kindM o = 2)
theorem cobject_any (o : Nat) (ho : o < 4294967296) (w : World) :
    Calls Tryd.prog 93 #[.int .u32 o] w fun e w' => e = .returned (.bool (k2 o)) ∧ w = w' := by
  have HK := Lib.hid (kind_any o ho w)
  have HD := Lib.hid (show ((kindM o : Int) == 2) = k2 o by unfold k2; rw [Bool.eq_iff_iff]; simp; omega)
  generalize kindM o = kk at *
  generalize k2 o = b at *
  go_enter Tryd.func93, Tryd.ntmps93
  go_wp2_with fail
  refine HK.out.mono ?_
  rintro e w' ⟨rfl, rfl⟩
  go_wp2_with fail
  go_ret
  exact ⟨by rw [← HD.out]; rfl, rfl⟩
theorem onlyF_any (o : Nat) (ho : o < 4294967296) (w : World) :
    Calls Tryd.prog 92 #[.int .u32 o] w fun e w' => e = .returned (.bool (!k2 o)) ∧ w = w' := by
  have HK := Lib.hid (cobject_any o ho w)
  generalize k2 o = b at *
  go_enter Tryd.func92, Tryd.ntmps92
  go_wp2_with fail
  refine HK.out.mono ?_
  rintro e w' ⟨rfl, rfl⟩
  go_wp2_with fail
  go_ret
  exact ⟨rfl, rfl⟩
/-- The literal's value. -/
def onlyFn : Value := .func (.func 92) #[] #[]
/-- The first oop that names none, or -1. -/
def IdxOP (xs : List Nat) (w : World) (e : Ending) (w' : World) : Prop :=
  w = w' ∧ ((e = .returned (.int .i64 (-1)) ∧ ∀ x ∈ xs, k2 x = true) ∨ ∃ j, e = .returned (.int .i64 (j : Nat)) ∧ j < xs.length ∧ k2 (xs.getD j 0) = false ∧ ∀ i, i < j → k2 (xs.getD i 0) = true)
theorem getD_u32 {xs : List Nat} (h : ∀ x ∈ xs, x < 4294967296) (k : Nat) : xs.getD k 0 < 4294967296 := by
  rw [List.getD_eq_getElem?_getD]
  cases hh : xs[k]? with
  | none => simp
  | some v => simp; exact h v (List.mem_of_getElem? hh)
set_option maxHeartbeats 1000000 in
theorem indexO_any {w : World} (A : Option Addr) (n c B : Nat) (xs : List Nat) (hn : n ≤ 9223372036854775807) (hr : Reads w B 1 A n (u32s xs)) (h32 : ∀ x ∈ xs, x < 4294967296) :
    Calls Tryd.prog 112 #[.slice A n c, onlyFn] w (IdxOP xs w) := by
  have hl : xs.length = n := by have := hr.1; rw [u32s_len] at this; omega
  have HL := Lib.hid hl; have HR := Lib.hid hr; have HX := Lib.hid h32
  clear hl hr h32
  unfold onlyFn
  go_enter Tryd.func112, Tryd.ntmps112
  go_wp2_with fail
  go_loop [8] (fun i => ∃ k : Nat, k ≤ n ∧ i = .int .i64 k ∧ ∀ i, i < k → k2 (xs.getD i 0) = true) (fun i => n - (intOf i).toNat)
  case atStart => exact ⟨0, by omega, rfl, fun i hi => by omega⟩
  case round =>
    obtain ⟨k, hk, rfl, hno⟩ := hrel
    have HNO := Lib.hid hno; clear hno
    by_cases hlt : k < n
    · obtain ⟨ad, u0, rfl, _, hx, hcell⟩ := HR.out.at_ hlt
      rw [u32s_get (by rw [HL.out]; exact hlt)] at hx
      injection hx with hx
      subst hx
      have HC := Lib.hid (fun w => onlyF_any (xs.getD k 0) (getD_u32 HX.out k) w)
      cases hv : k2 (xs.getD k 0)
      · have HA := Lib.hid hv
        rw [hv] at HC
        clear hv
        generalize hy : xs.getD k 0 = y at *
        have HY := Lib.hid hy
        clear hy
        go_wp2_with fail
        refine (HC.out _).mono ?_
        rintro e w' ⟨rfl, rfl⟩
        go_wp2_with fail
        go_ret
        exact ⟨rfl, .inr ⟨k, rfl, by rw [HL.out]; exact hlt, by rw [HY.out]; exact HA.out, HNO.out⟩⟩
      · have HA := Lib.hid (show ∀ i, i < k + 1 → k2 (xs.getD i 0) = true from fun i hi => by
          rcases Nat.lt_or_ge i k with h | h
          · exact HNO.out i h
          · obtain rfl : i = k := by omega
            exact hv)
        rw [hv] at HC
        clear hv
        generalize xs.getD k 0 = y at hcell HC
        go_wp2_with fail
        refine (HC.out _).mono ?_
        rintro e w' ⟨rfl, rfl⟩
        go_wp2_with fail
        go_round
        case rel => exact ⟨k + 1, by omega, by go_num, HA.out⟩
        case measure => simp [intOf]; omega
    · obtain rfl : k = n := by omega
      go_wp2_with fail
      go_ret
      refine ⟨rfl, .inl ⟨rfl, fun x hx => ?_⟩⟩
      obtain ⟨i, hi, rfl⟩ := List.getElem_of_mem hx
      have := HNO.out i (by rw [← HL.out]; exact hi)
      rw [List.getD_eq_getElem?_getD, List.getElem?_eq_getElem hi] at this
      exact this
/-- What deleting leaves: the slice is shorter, its block holds those that name objects. -/
def OnlyP (g c : Nat) (xs : List Nat) (w : World) (e : Ending) (w' : World) : Prop :=
  e = .returned (.slice (some ⟨g, 0, none⟩) (xs.filter k2).length c) ∧ Row w' g 41 c (u32s (xs.filter k2)) ∧ Frb g w w'
/-- On the way: the first j are looked at. -/
structure DelS (xs ys : List Nat) (i j : Nat) : Prop where
  len : ys.length = xs.length
  fst : ys.take i = (xs.take j).filter k2
  rest : ys.drop j = xs.drop j
  ij : i < j
  jl : j ≤ xs.length
theorem DelS.il {xs ys : List Nat} {i j : Nat} (D : DelS xs ys i j) : ((xs.take j).filter k2).length = i := by
  have := D.ij; have := D.jl; have := D.len
  rw [← D.fst, List.length_take]; omega
theorem DelS.start {xs : List Nat} {j : Nat} (hj : j < xs.length) (h0 : k2 (xs.getD j 0) = false) (h : ∀ i, i < j → k2 (xs.getD i 0) = true) : DelS xs xs j (j + 1) := by
  refine ⟨rfl, ?_, rfl, by omega, by omega⟩
  rw [List.take_add_one, List.getElem?_eq_getElem hj, List.filter_append]
  have e1 : (xs.take j).filter k2 = xs.take j := by
    rw [List.filter_eq_self]
    intro x hx
    obtain ⟨i, hi, rfl⟩ := List.getElem_of_mem hx
    rw [List.length_take] at hi
    have := h i (by omega)
    rw [List.getD_eq_getElem?_getD, List.getElem?_eq_getElem (by omega)] at this
    simpa using this
  rw [List.getD_eq_getElem?_getD, List.getElem?_eq_getElem hj] at h0
  have h0 : k2 xs[j] = false := by simpa using h0
  rw [e1]
  simp [h0]
theorem DelS.get {xs ys : List Nat} {i j : Nat} (D : DelS xs ys i j) (hj : j < xs.length) : ys.getD j 0 = xs.getD j 0 := by
  have h : (ys.drop j).getD 0 0 = (xs.drop j).getD 0 0 := by rw [D.rest]
  simpa [List.getD_eq_getElem?_getD] using h
theorem DelS.skip {xs ys : List Nat} {i j : Nat} (D : DelS xs ys i j) (hj : j < xs.length) (h : k2 (xs.getD j 0) = false) : DelS xs ys i (j + 1) := by
  have hij := D.ij
  refine ⟨D.len, ?_, ?_, by omega, by omega⟩
  · rw [D.fst, List.take_add_one, List.getElem?_eq_getElem hj, List.filter_append]
    rw [List.getD_eq_getElem?_getD, List.getElem?_eq_getElem hj] at h
    have h : k2 xs[j] = false := by simpa using h
    simp [h]
  · rw [← List.drop_drop, D.rest, List.drop_drop]
theorem DelS.keep {xs ys : List Nat} {i j : Nat} (D : DelS xs ys i j) (hj : j < xs.length) (h : k2 (xs.getD j 0) = true) : DelS xs (ys.set i (xs.getD j 0)) (i + 1) (j + 1) := by
  have hij := D.ij
  have hl := D.len
  refine ⟨by rw [List.length_set]; exact hl, ?_, ?_, by omega, by omega⟩
  · rw [List.take_add_one, List.getElem?_set_self (by omega), List.take_set_of_le (Nat.le_refl _), D.fst]
    rw [List.take_add_one, List.getElem?_eq_getElem hj, List.filter_append]
    rw [List.getD_eq_getElem?_getD, List.getElem?_eq_getElem hj] at h ⊢
    have h : k2 xs[j] = true := by simpa using h
    simp [h]
  · rw [List.drop_set, if_pos (by omega), ← List.drop_drop, D.rest, List.drop_drop]
theorem u32s_take (xs : List Nat) (i : Nat) : (u32s xs).take i = u32s (xs.take i) := by unfold u32s; rw [List.map_take]
theorem u32s_set (xs : List Nat) (i v : Nat) : u32s (xs.set i v) = (u32s xs).set i (.int .u32 (v : Nat)) := by unfold u32s; rw [List.map_set]
set_option maxRecDepth 100000 in
set_option maxHeartbeats 2000000 in
theorem deleteO_any {w : World} (g c : Nat) (xs : List Nat) (hR : Row w g 41 c (u32s xs)) (hn : xs.length ≤ 9223372036854775807) (h32 : ∀ x ∈ xs, x < 4294967296) :
    Calls Tryd.prog 91 #[.slice (some ⟨g, 0, none⟩) xs.length c, onlyFn] w (OnlyP g c xs w) := by
  have hrr := hR.reads (B := w.heap.size) hR.lt
  rw [u32s_len] at hrr
  have HI := Lib.hid (indexO_any (c := c) _ xs.length w.heap.size xs hn hrr h32)
  have HR := Lib.hid hR
  have HX := Lib.hid h32
  have hlc := hR.len_le
  rw [u32s_len] at hlc
  clear hR hrr h32
  unfold onlyFn at HI ⊢
  go_enter Tryd.func91, Tryd.ntmps91
  go_wp2_with fail
  refine HI.out.mono ?_
  rintro e w' ⟨rfl, ⟨rfl, hall⟩ | ⟨j, rfl, hj, hj0, hji⟩⟩
  · have HF := Lib.hid (show xs.filter k2 = xs from List.filter_eq_self.2 hall)
    clear hall HI
    go_wp2_with fail
    go_ret
    exact ⟨by rw [HF.out]; rfl, by rw [HF.out]; exact HR.out, Frb.refl _ _⟩
  · have HD0 := Lib.hid (DelS.start hj hj0 hji)
    have hm1 : ((j : Int) == -1) = false := by first | (simp; done) | (simp; omega)
    have hjn : j < xs.length := hj
    clear hj0 hji HI hj
    go_wp2_with fail
    go_loopw [5, 6] (fun vi vj wr => ∃ (i j' : Nat) (ys : List Nat), vi = .int .i64 i ∧ vj = .int .i64 j' ∧ DelS xs ys i j' ∧ Row wr g 41 c (u32s ys) ∧ Frb g w wr) (fun _ vj _ => xs.length - (intOf vj).toNat)
    case atStart => exact ⟨j, j + 1, xs, rfl, by go_num, HD0.out, HR.out, Frb.refl _ _⟩
    case round =>
      clear HD0 HR hm1 hjn
      obtain ⟨i, j', ys, rfl, rfl, hd, hrow, hfr⟩ := hrel
      have HD := Lib.hid hd
      have HW := Lib.hid hrow
      have HFR := Lib.hid hfr
      have hij := hd.ij
      have hjl := hd.jl
      have hyl := hd.len
      have hyl2 := Lib.hid hyl
      clear hd hrow hfr hyl
      by_cases hlt : j' < xs.length
      · have hc1 := HW.out.cell (u32s_get (l := ys) (i := j') (by rw [hyl2.out]; exact hlt))
        rw [HD.out.get hlt] at hc1
        have hfz := HW.out.frozen i
        have hold := HW.out.cell (u32s_get (l := ys) (i := i) (by rw [hyl2.out]; omega))
        have HC := Lib.hid (fun w => onlyF_any (xs.getD j' 0) (getD_u32 HX.out j') w)
        cases hv : k2 (xs.getD j' 0)
        · have HN := Lib.hid (HD.out.skip hlt hv)
          rw [hv] at HC
          clear hv
          generalize xs.getD j' 0 = y at hc1 HC
          go_wp2_with fail
          refine (HC.out _).mono ?_
          rintro e w' ⟨rfl, rfl⟩
          go_wp2_with fail
          go_roundw
          case rel => exact ⟨i, j' + 1, ys, rfl, by go_num, HN.out, HW.out, HFR.out⟩
          case measure => simp [intOf]; omega
        · have HN := Lib.hid (HD.out.keep hlt hv)
          rw [hv] at HC
          have HS := Lib.hid (HW.out.set i (.int .u32 (xs.getD j' 0 : Nat)))
          have HF2 := Lib.hid (HFR.out.trans (Frb.set g i wr (.int .u32 (xs.getD j' 0 : Nat))))
          rw [← u32s_set] at HS
          clear hv
          generalize xs.getD j' 0 = y at hc1 HC HS HF2 HN
          go_wp2_with fail
          refine (HC.out _).mono ?_
          rintro e w' ⟨rfl, rfl⟩
          go_wp2_with fail
          go_roundw
          case rel => exact ⟨i + 1, j' + 1, ys.set i y, by go_num, by go_num, HN.out, HS.out, HF2.out⟩
          case measure => simp [intOf]; omega
      · obtain rfl : j' = xs.length := by omega
        have HE := Lib.hid (show OnlyP g c xs w (.returned (.slice (some ⟨g, 0, none⟩) i c)) (wr.setCells g i (List.replicate (xs.length - i) (.int .u32 0))) from by
          have h1 := HD.out.fst
          have h2 := HD.out.il
          rw [List.take_length] at h1 h2
          refine ⟨by rw [h2], ?_, HFR.out.trans (Frb.setCells g _ i wr)⟩
          have h3 := HW.out.short i
          rw [u32s_take, h1] at h3
          exact h3.setCells _ i wr (by rw [u32s_len, h2]; exact Nat.le_refl _))
        have hcl : ∀ ty, (Builtin.clear_ #[23] ty #[.slice (some ⟨g, i, none⟩) (xs.length - i) (c - i)]).run Tryd.prog wr = .ok (.tuple #[]) (wr.setCells g i (List.replicate (xs.length - i) (.int .u32 0))) :=
          fun ty => Lib.run_clear_slice wr _ _ ty _ Tryd.underlying23 Tryd.zeroValue41 rfl rfl g i _ _ (by omega) (fun t ht => by
            rw [HW.out.cell (u32s_get (l := ys) (i := i + t) (by rw [hyl2.out]; omega))]; rfl) (fun t ht => HW.out.frozen _)
        have hne : ¬ c = i := by omega
        have hne2 : ¬ i = c := by omega
        clear HD HW HFR
        go_wp2_with fail
        go_ret
        exact HE.out
/-- Those that name objects. -/
theorem only_any {w : World} (g c : Nat) (xs : List Nat) (hR : Row w g 41 c (u32s xs)) (hn : xs.length ≤ 9223372036854775807) (h32 : ∀ x ∈ xs, x < 4294967296) :
    Calls Tryd.prog 57 #[.slice (some ⟨g, 0, none⟩) xs.length c] w (OnlyP g c xs w) := by
  have HD := Lib.hid (deleteO_any g c xs hR hn h32)
  clear hR h32
  unfold onlyFn at HD
  go_enter Tryd.func57, Tryd.ntmps57
  go_wp2_with fail
  refine HD.out.mono ?_
  rintro e w' ⟨rfl, h1, h2⟩
  have H1 := Lib.hid h1
  have H2 := Lib.hid h2
  clear h1 h2
  go_wp2_with fail
  go_ret
  exact ⟨rfl, H1.out, H2.out⟩
end Go.Proofs.YtblekggklimpeaaDoor

namespace Go.Proofs.YtblekggklimpeaaDoor
open Go.RowKit
attribute [local go_sem] Oper.semAt_some
section
variable {w : World} {p : HP} {h : HM} {l : List Ob}
theorem fields_len (G : h.Good l) {o : Nat} (hi : h.isB o = true) : (h.fields o).length = (h.hd (o / 2)).size := by
  obtain ⟨a, b, c, rfl, rfl⟩ := (G.laid.isB_iff o).1 hi
  rw [G.laid.fields_at, half_pos, G.laid.hd_at, G.laid.ok_at.size]
theorem hd_size (G : h.Good l) {o : Nat} (hi : h.isB o = true) : (h.hd (o / 2)).size ≤ 65535 := by
  obtain ⟨a, b, c, rfl, rfl⟩ := (G.laid.isB_iff o).1 hi
  rw [half_pos, G.laid.hd_at]
  have k := G.laid.ok_at
  have := k.may
  unfold Hd.may at this
  simp at this
  omega
theorem isB_u32 (G : h.Good l) {o : Nat} (hi : h.isB o = true) : o < 4294967296 := by
  obtain ⟨a, b, c, rfl, rfl⟩ := (G.laid.isB_iff o).1 hi
  have := G.laid.words_len
  have := G.fit.room
  have := G.fit.hi
  omega
theorem kget_any (H : HAt w p h) (G : h.Good l) (hs : Spares w) {o : Nat} (hi : h.isB o = true) (hp : (h.hd (o / 2)).ptrB = true) (i : Nat) (hlt : i < (h.fields o).length) :
    Calls Tryd.prog 26 #[ptr p.g, .int .u32 o, .int .i64 i] w (Told (.tuple #[.int .u32 ((h.fields o).getD i 0 : Nat), .int .i64 0]) w) := by
  have ho := isB_u32 G hi
  have hG := get_any H G.fit G.laid.heads hs o ho (i : Int)
  have hfl := fields_len G hi
  have hp' : (h.hd (o / 2)).fmt = 1 ∨ (h.hd (o / 2)).fmt = 4 := by
    unfold Hd.ptrB at hp
    simpa using hp
  have hln : (h.hd (o / 2)).len = (h.hd (o / 2)).size := by unfold Hd.len; rw [if_neg (by omega)]
  have he : h.lookE o (i : Int) [1, 4] = 0 := by
    unfold HM.lookE
    rw [hi, if_neg (by decide), if_neg (by rcases hp' with e | e <;> rw [e] <;> decide), if_neg (by omega)]
  have hw : fw h o i = (h.fields o).getD i 0 := by
    obtain ⟨a, b, c, rfl, rfl⟩ := (G.laid.isB_iff o).1 hi
    rw [G.laid.fields_at] at hlt ⊢
    exact G.laid.f_at i hlt
  unfold HM.readV at hG
  rw [he, if_pos rfl, Int.toNat_natCast, hw] at hG
  exact hG
def namM (h : HM) (o : Nat) (held : Bool) : List Nat := if held then heldM h o else namesM h o
/-- What named answers: a new row. -/
def NamedP (os : List Nat) (w : World) (e : Ending) (w' : World) : Prop :=
  ∃ g c, e = .returned (.slice (some ⟨g, 0, none⟩) (os.filter k2).length c) ∧ w.heap.size ≤ g ∧ Row w' g 41 c (u32s (os.filter k2)) ∧ Below w.heap.size w w'
theorem names_32 (G : h.Good l) {o : Nat} (hi : h.isB o = true) : ∀ x ∈ namesM h o, x < 4294967296 := by
  obtain ⟨a, b, c, rfl, rfl⟩ := (G.laid.isB_iff o).1 hi
  intro x hx
  unfold namesM at hx
  rw [half_pos, G.laid.hd_at, G.laid.fields_at] at hx
  have k := G.laid.ok_at
  rcases List.mem_cons.1 hx with rfl | hx
  · exact k.fit.cls
  · split at hx
    · exact k.f32 x hx
    · cases hx
theorem nam_32 (G : h.Good l) {o : Nat} (hi : h.isB o = true) (held : Bool) : ∀ x ∈ namM h o held, x < 4294967296 := by
  intro x hx
  refine names_32 G hi x ?_
  unfold namM at hx
  split at hx
  · exact held_names hx
  · exact hx
theorem one_u32 (x : Nat) : ∀ u ∈ u32s [x], u.oneCell' = true := by
  intro u hu
  rcases List.mem_singleton.1 hu with rfl
  rfl
theorem u32s_app (a b : List Nat) : u32s (a ++ b) = u32s a ++ u32s b := by unfold u32s; rw [List.map_append]
theorem own_newO (w : World) (xs : List Nat) (n : Nat) (hl : xs.length = n) (hn : n ≤ maxLen) : (w.alloc (.cells (u32s xs).toArray 41)).ownsRow w.heap.size 41 1 (.slice (some ⟨w.heap.size, 0, none⟩) n n) n (u32s xs) := by
  subst hl
  exact ⟨by simp [u32s_len], .inr ⟨w.heap.size, xs.length, (u32s xs).toArray, rfl, Nat.le_refl _, heap_alloc_new w _, Nat.le_refl _, hn, by simp [u32s_len], by rw [Nat.mul_one, List.take_of_length_le (by simp [u32s])]⟩⟩
theorem own_base {w : World} {B B' s n : Nat} {e : TypeId} {v : Value} {xs : List Value} (h : w.ownsRow B e s v n xs) (hb : B' ≤ B) : w.ownsRow B' e s v n xs := by
  refine ⟨h.1, ?_⟩
  rcases h.2 with h1 | ⟨g, cap, cur, h1, h2, h3⟩
  · exact .inl h1
  · exact .inr ⟨g, cap, cur, h1, Nat.le_trans hb h2, h3⟩
theorem own_below {w w' : World} {B s n : Nat} {e : TypeId} {v : Value} {xs : List Value} (h : w.ownsRow B e s v n xs) (hb : Below w.heap.size w w') : w'.ownsRow B e s v n xs := by
  refine ⟨h.1, ?_⟩
  rcases h.2 with h1 | ⟨g, cap, cur, h1, h2, h3, h4⟩
  · exact .inl h1
  · exact .inr ⟨g, cap, cur, h1, h2, (hb.block g (lt_of_get h3)).trans h3, h4⟩
theorem only_end {w w3 : World} {os : List Nat} {v : Value} (hown : w3.ownsRow w.heap.size 41 1 v os.length (u32s os)) (h0 : 0 < os.length) (hn : os.length ≤ 9223372036854775807) (h32 : ∀ x ∈ os, x < 4294967296) (hb : Below w.heap.size w w3) :
    Calls Tryd.prog 57 #[v] w3 (NamedP os w) := by
  obtain ⟨g, c, rfl, hr, _, hg⟩ := Row.of_any hown h0
  refine (only_any g c os hr hn h32).mono ?_
  rintro e w4 ⟨rfl, hr4, hf⟩
  exact ⟨g, c, rfl, hg, hr4, hb.trans (hf.below hg hb.size)⟩
set_option maxRecDepth 100000 in
set_option maxHeartbeats 4000000 in
theorem named_any (H : HAt w p h) (G : h.Good l) (hs : Spares w) {o : Nat} (hi : h.isB o = true) (held : Bool) :
    Calls Tryd.prog 82 #[ptr p.g, .int .u32 o, .bool held] w (NamedP (namM h o held) w) := by
  have HH := Lib.hid (Header_any H G.fit G.laid.heads hs o (isB_u32 G hi))
  have hV : h.headerV o = .tuple #[(h.hd (o / 2)).val, .int .i64 0] := by unfold HM.headerV; simp [hi]
  rw [hV] at HH
  have HG := Lib.hid (fun (w' : World) (hb : Below w.heap.size w w') (hp : (h.hd (o / 2)).ptrB = true) i hlt => kget_any (H.below hb) G (hs.below hb) hi hp i hlt)
  have h32 := nam_32 G hi held
  have hfl := fields_len G hi
  have hsz := hd_size G hi
  have HN := Lib.hid (show namM h o held = (h.hd (o / 2)).cls :: (if (if held = true then (h.hd (o / 2)).fmt = 1 else (h.hd (o / 2)).ptrB = true) then h.fields o else []) from by
    unfold namM heldM namesM
    cases held <;> simp)
  clear hV H G hs hi
  generalize h.hd (o / 2) = X at *
  generalize h.fields o = fs at *
  generalize namM h o held = ns at *
  have H32 := Lib.hid h32
  clear h32
  obtain ⟨i0, hi0, hz0, hz1, hz2⟩ := info_parts info_oop
  obtain ⟨n, t, s, c, r⟩ := X
  simp only at HG HN hfl hsz
  unfold Hd.val at HH
  unfold ptr at HH HG ⊢
  go_enter Tryd.func82, Tryd.ntmps82
  go_wp2_with fail
  refine HH.out.mono ?_
  rintro e w1 ⟨rfl, hb1⟩
  have hb2 := hb1.alloc hb1.size (.cells #[.int .i64 (n : Int), .int .i64 (t : Int), .int .i64 (s : Int), .int .u32 (c : Int), .int .u32 (r : Int)] 56)
  have BX := Lib.hid ((Blk.new w1 56 #[.int .i64 (n : Int), .int .i64 (t : Int), .int .i64 (s : Int), .int .u32 (c : Int), .int .u32 (r : Int)]).alloc (.cells #[.int .u32 (c : Int)] 41))
  have hown := own_newO (w1.alloc (.cells #[.int .i64 (n : Int), .int .i64 (t : Int), .int .i64 (s : Int), .int .u32 (c : Int), .int .u32 (r : Int)] 56)) [c] 1 rfl (by decide)
  rw [World.size_alloc] at hown
  have HOW := Lib.hid (show ((w1.alloc (.cells #[.int .i64 (n : Int), .int .i64 (t : Int), .int .i64 (s : Int), .int .u32 (c : Int), .int .u32 (r : Int)] 56)).alloc (.cells #[.int .u32 (c : Int)] 41)).ownsRow w.heap.size 41 1 (.slice (some ⟨w1.heap.size + 1, 0, none⟩) 1 1) 1 (u32s [c]) from own_base hown (by have := hb1.size; omega))
  have HB3 := Lib.hid (hb2.alloc hb2.size (.cells #[.int .u32 (c : Int)] 41))
  clear hb1 hb2 HH hown
  go_upto_region 3 with fail
  generalize (w1.alloc (.cells #[.int .i64 (n : Int), .int .i64 (t : Int), .int .i64 (s : Int), .int .u32 (c : Int), .int .u32 (r : Int)] 56)).alloc (.cells #[.int .u32 (c : Int)] 41) = W3 at *
  obtain ⟨x0, x1, x2, x3, x4⟩ := BX.out.cells5
  clear BX
  have HPD : ∀ b, Hd.ptrB ⟨n, b, s, c, r⟩ = (decide (b = 1) || decide (b = 4)) := fun _ => rfl
  by_cases h1 : t = 1
  · have hi1 : ((t : Int) == 1) = true := by simp; omega
    have HPT := Lib.hid (show Hd.ptrB ⟨n, t, s, c, r⟩ = true by simp [Hd.ptrB, h1])
    have HNS := Lib.hid (show ns = c :: fs by rw [HN.out]; cases held <;> simp [Hd.ptrB, h1])
    clear HN HPD h1
    go_wp2_with fail
    clear x0 x1 x2 x3 x4
    go_loopw [9, 10, 11, 12, 36] (fun lv _ _ _ iv wr => ∃ k : Nat, iv = .int .i64 k ∧ k ≤ n ∧ wr.ownsRow w.heap.size 41 1 lv (k + 1) (u32s (c :: fs.take k)) ∧ Below w.heap.size w wr) (fun _ _ _ _ iv _ => n - (intOf iv).toNat)
    case atStart => exact ⟨0, rfl, by omega, HOW.out, HB3.out⟩
    case round =>
      clear HOW HB3
      obtain ⟨k, rfl, hk, hown, hb⟩ := hrel
      have HOW := Lib.hid hown
      have HB := Lib.hid hb
      clear hown hb
      by_cases hlt : k < n
      · have HGT := Lib.hid (HG.out wr HB.out HPT.out k (by rw [hfl]; exact hlt))
        have hsn : u32s (c :: fs.take k) ++ u32s [fs.getD k 0] = u32s (c :: fs.take (k + 1)) := by
          rw [← u32s_app, List.cons_append, List.take_add_one, List.getElem?_eq_getElem (by rw [hfl]; exact hlt), List.getD_eq_getElem?_getD, List.getElem?_eq_getElem (by rw [hfl]; exact hlt)]
          rfl
        have HSN := Lib.hid hsn
        clear hsn
        generalize fs.getD k 0 = y at HGT HSN
        go_wp2_with fail
        refine HGT.out.mono ?_
        rintro e w5 ⟨rfl, hb5⟩
        have HO5 := Lib.hid (own_below HOW.out hb5)
        have HB5 := Lib.hid (HB.out.trans (hb5.mono HB.out.size))
        have hBw : w.heap.size ≤ w5.heap.size := HB5.out.size
        clear hb5 HOW HGT HB
        go_wp2_with (at_builtin; refine wpList_append_any _ rfl (.tmp 46) (.tmp 48) _ rfl w.heap.size 41 i0 _ 1 4 Tryd.underlying23 hi0 hz0 hz1 hz2 rfl (by omega) u9 (k + 1) _ rfl (HO5.out.alloc _) (w5.heap.size + 1) (some ⟨w5.heap.size, 0, none⟩) 1 1 (u32s [y]) rfl ⟨rfl, fun _ => ⟨_, rfl, by simp, cell_one_new _ _ _⟩⟩ (one_u32 _) (by simp only [maxLen]; omega) (by omega) (by simp; omega) ?_; intro v1 w6 hown6 hgrow hat6)
        go_roundw
        case rel =>
          exact ⟨k + 1, by go_num, by omega, by rw [← HSN.out]; exact hown6, below_grown (Nat.le_refl _) (HB5.out.alloc HB5.out.size _) hgrow (fun q hq => (HO5.out.lt q hq).1)⟩
        case measure => simp [intOf]; omega
      · obtain rfl : k = n := by omega
        have hns : ns = c :: fs.take k := by rw [HNS.out, List.take_of_length_le (by rw [hfl]; exact Nat.le_refl _)]
        have hnl : ns.length = k + 1 := by rw [hns]; simp; omega
        have HE := Lib.hid (only_end (w := w) (os := ns) (by rw [hnl, hns]; exact HOW.out) (by omega) (by omega) H32.out HB.out)
        clear HOW HB hns
        go_wp2_with fail
        refine HE.out.mono ?_
        rintro e w7 ⟨g7, c7, rfl, h71, h72, h73⟩
        have H7 := Lib.hid (show NamedP ns w (.returned (.slice (some ⟨g7, 0, none⟩) (ns.filter k2).length c7)) w7 from ⟨g7, c7, rfl, h71, h72, h73⟩)
        clear h71 h72 h73 HE
        go_wp2_with fail
        go_ret
        exact H7.out
  by_cases h4 : t = 4
  · have hi1 : ((t : Int) == 1) = false := by simp; omega
    have hi4 : ((t : Int) == 4) = true := by simp; omega
    cases held with
    | false =>
      have HPT := Lib.hid (show Hd.ptrB ⟨n, t, s, c, r⟩ = true by simp [Hd.ptrB, h4])
      have HNS := Lib.hid (show ns = c :: fs by rw [HN.out]; simp [Hd.ptrB, h4])
      clear HN HPD h1 h4
      go_wp2_with fail
      clear x0 x1 x2 x3 x4
      go_loopw [9, 10, 11, 12, 36] (fun lv _ _ _ iv wr => ∃ k : Nat, iv = .int .i64 k ∧ k ≤ n ∧ wr.ownsRow w.heap.size 41 1 lv (k + 1) (u32s (c :: fs.take k)) ∧ Below w.heap.size w wr) (fun _ _ _ _ iv _ => n - (intOf iv).toNat)
      case atStart => exact ⟨0, rfl, by omega, HOW.out, HB3.out⟩
      case round =>
        clear HOW HB3
        obtain ⟨k, rfl, hk, hown, hb⟩ := hrel
        have HOW := Lib.hid hown
        have HB := Lib.hid hb
        clear hown hb
        by_cases hlt : k < n
        · have HGT := Lib.hid (HG.out wr HB.out HPT.out k (by rw [hfl]; exact hlt))
          have hsn : u32s (c :: fs.take k) ++ u32s [fs.getD k 0] = u32s (c :: fs.take (k + 1)) := by
            rw [← u32s_app, List.cons_append, List.take_add_one, List.getElem?_eq_getElem (by rw [hfl]; exact hlt), List.getD_eq_getElem?_getD, List.getElem?_eq_getElem (by rw [hfl]; exact hlt)]
            rfl
          have HSN := Lib.hid hsn
          clear hsn
          generalize fs.getD k 0 = y at HGT HSN
          go_wp2_with fail
          refine HGT.out.mono ?_
          rintro e w5 ⟨rfl, hb5⟩
          have HO5 := Lib.hid (own_below HOW.out hb5)
          have HB5 := Lib.hid (HB.out.trans (hb5.mono HB.out.size))
          have hBw : w.heap.size ≤ w5.heap.size := HB5.out.size
          clear hb5 HOW HGT HB
          go_wp2_with (at_builtin; refine wpList_append_any _ rfl (.tmp 46) (.tmp 48) _ rfl w.heap.size 41 i0 _ 1 4 Tryd.underlying23 hi0 hz0 hz1 hz2 rfl (by omega) u9 (k + 1) _ rfl (HO5.out.alloc _) (w5.heap.size + 1) (some ⟨w5.heap.size, 0, none⟩) 1 1 (u32s [y]) rfl ⟨rfl, fun _ => ⟨_, rfl, by simp, cell_one_new _ _ _⟩⟩ (one_u32 _) (by simp only [maxLen]; omega) (by omega) (by simp; omega) ?_; intro v1 w6 hown6 hgrow hat6)
          go_roundw
          case rel =>
            exact ⟨k + 1, by go_num, by omega, by rw [← HSN.out]; exact hown6, below_grown (Nat.le_refl _) (HB5.out.alloc HB5.out.size _) hgrow (fun q hq => (HO5.out.lt q hq).1)⟩
          case measure => simp [intOf]; omega
        · obtain rfl : k = n := by omega
          have hns : ns = c :: fs.take k := by rw [HNS.out, List.take_of_length_le (by rw [hfl]; exact Nat.le_refl _)]
          have hnl : ns.length = k + 1 := by rw [hns]; simp; omega
          have HE := Lib.hid (only_end (w := w) (os := ns) (by rw [hnl, hns]; exact HOW.out) (by omega) (by omega) H32.out HB.out)
          clear HOW HB hns
          go_wp2_with fail
          refine HE.out.mono ?_
          rintro e w7 ⟨g7, c7, rfl, h71, h72, h73⟩
          have H7 := Lib.hid (show NamedP ns w (.returned (.slice (some ⟨g7, 0, none⟩) (ns.filter k2).length c7)) w7 from ⟨g7, c7, rfl, h71, h72, h73⟩)
          clear h71 h72 h73 HE
          go_wp2_with fail
          go_ret
          exact H7.out
    | true =>
      have HNS := Lib.hid (show ns = [c] by rw [HN.out]; simp [h4])
      clear HN HPD h1 h4 HG
      have HE := Lib.hid (only_end (w := w) (os := ns) (by rw [HNS.out]; exact HOW.out) (by rw [HNS.out]; simp) (by rw [HNS.out]; simp) H32.out HB3.out)
      have hnl : ns.length = 1 := by rw [HNS.out]; rfl
      clear HOW HB3 HNS
      go_wp2_with fail
      refine HE.out.mono ?_
      rintro e w7 ⟨g7, c7, rfl, h71, h72, h73⟩
      have H7 := Lib.hid (show NamedP ns w (.returned (.slice (some ⟨g7, 0, none⟩) (ns.filter k2).length c7)) w7 from ⟨g7, c7, rfl, h71, h72, h73⟩)
      clear h71 h72 h73 HE
      go_wp2_with fail
      go_ret
      exact H7.out
  · have hi1 : ((t : Int) == 1) = false := by simp; omega
    have hi4 : ((t : Int) == 4) = false := by simp; omega
    have HNS := Lib.hid (show ns = [c] by rw [HN.out]; cases held <;> simp [Hd.ptrB, h1, h4])
    clear HN HPD h1 h4 HG
    have HE := Lib.hid (only_end (w := w) (os := ns) (by rw [HNS.out]; exact HOW.out) (by rw [HNS.out]; simp) (by rw [HNS.out]; simp) H32.out HB3.out)
    have hnl : ns.length = 1 := by rw [HNS.out]; rfl
    clear HOW HB3 HNS
    go_wp2_with fail
    refine HE.out.mono ?_
    rintro e w7 ⟨g7, c7, rfl, h71, h72, h73⟩
    have H7 := Lib.hid (show NamedP ns w (.returned (.slice (some ⟨g7, 0, none⟩) (ns.filter k2).length c7)) w7 from ⟨g7, c7, rfl, h71, h72, h73⟩)
    clear h71 h72 h73 HE
    go_wp2_with fail
    go_ret
    exact H7.out

end
end Go.Proofs.YtblekggklimpeaaDoor
