/- The document's named: an oop as a list of pairs says. -/
/- What the document's renaming makes of the words, name by name. Plain data. -/
/- The document's Renamed: every oop as a list of pairs says. Printed by gw.py from wip/src/XKRRen.src. -/
import Derived.Test.YtblekggklimpeaaGreatDoorJKRenP
import Derived.Test.YtblekggklimpeaaGreatDoorJKCol
import Derived.Test.YtblekggklimpeaaGreatDoorJKBuilt
import Derived.Test.YtblekggklimpeaaGreatDoorJKRNames
import Derived.Test.YtblekggklimpeaaGreatDoorJSoAll
import Derived.Test.YtblekggklimpeaaGreatDoorJKAgainL
import Derived.Test.YtblekggklimpeaaGreatDoorJUntil
set_option linter.unusedVariables false
set_option linter.unusedSimpArgs false
set_option linter.unusedSectionVars false
namespace Go.Proofs.YtblekggklimpeaaGreatDoor
open Go.RowKit Go.Sort
attribute [local go_sem] Oper.semAt_some
theorem renO_skip {pl : List (Nat × Nat)} {k : Nat} (hk : k < pl.length) {x : Nat} (hn : x ∉ (pl.take k).map (·.1)) (he : (pl[k]).1 = x) : renO pl x = (pl[k]).2 := by
  have e : pl = pl.take k ++ pl[k] :: pl.drop (k + 1) := by
    conv => lhs; rw [← List.take_append_drop k pl, List.drop_eq_getElem_cons hk]
  unfold renO
  have h0 : (pl.take k).find? (fun p => p.1 == x) = none := by
    rw [List.find?_eq_none]
    intro p hp hpe
    exact hn (List.mem_map.2 ⟨p, hp, by simpa using hpe⟩)
  conv => lhs; rw [e]
  rw [List.find?_append, h0, Option.none_or, List.find?_cons, he]
  simp
set_option maxRecDepth 100000 in
set_option maxHeartbeats 4000000 in
theorem rnm_any {w : World} {gp cp : Nat} {Ap : Option Addr} {pl : List (Nat × Nat)} (ho : 0 < pl.length → Ap = some ⟨gp, 0, none⟩ ∧ PlA w gp pl) (hn : pl.length ≤ 9223372036854775807) (x : Nat) (hx : x < 4294967296) :
    Calls Tryz.prog 38 #[.slice Ap pl.length cp, .int .u32 (x : Int)] w (fun e w' => e = .returned (.int .u32 (renO pl x : Nat)) ∧ Below w.heap.size w w') := by
  have HO := Lib.hid ho
  clear ho
  go_enter Tryz.func38, Tryz.ntmps38
  go_wp2_with fail
  go_loopw [9] (fun iv wr => ∃ j : Nat, iv = .int .i64 j ∧ j ≤ pl.length ∧ x ∉ (pl.take j).map (·.1) ∧ Below w.heap.size w wr) (fun iv _ => pl.length - (intOf iv).toNat)
  case atStart => exact ⟨0, rfl, Nat.zero_le _, by simp, Below.refl _ _⟩
  case round =>
    obtain ⟨j, rfl, hj, hnm, hb⟩ := hrel
    have HB := Lib.hid hb
    have HNM := Lib.hid hnm
    clear hb hnm
    by_cases hlt : j < pl.length
    · obtain ⟨rfl, hp5⟩ := HO.out (by omega)
      have hq : pl[j]? = some pl[j] := List.getElem?_eq_getElem hlt
      obtain ⟨d0, d1⟩ := (hp5.same HB.out.size (HB.out.block _ hp5.1)).2 j _ hq
      have HLT := Lib.hid hlt
      have HGO := Lib.hid (fun he => renO_skip hlt HNM.out (x := x) he)
      have HTK := Lib.hid (show (pl.take (j + 1)).map (·.1) = (pl.take j).map (·.1) ++ [(pl[j]).1] by rw [List.take_add_one, hq, List.map_append]; rfl)
      clear hp5 hq
      generalize (pl[j]).1 = y at *
      generalize (pl[j]).2 = z at *
      go_upto_region 4 with fail
      have hba := HB.out.alloc HB.out.size (.cells #[.int .u32 (y : Int), .int .u32 (z : Int)] 69)
      have HBa := Lib.hid hba
      have y0 := (Blk.new wr 69 #[.int .u32 (y : Int), .int .u32 (z : Int)]).cell 0
      have y1 := (Blk.new wr 69 #[.int .u32 (y : Int), .int .u32 (z : Int)]).cell 1
      clear hba d0 d1 HB
      generalize wr.alloc (.cells #[.int .u32 (y : Int), .int .u32 (z : Int)] 69) = w13 at *
      by_cases hyx : y = x
      · have hne : ((y : Int) == (x : Int)) = true := by simp; omega
        have HE := Lib.hid (HGO.out hyx)
        clear hyx
        go_wp2_with fail
        go_ret
        exact ⟨by rw [HE.out]; rfl, HBa.out⟩
      · have hne : ((y : Int) == (x : Int)) = false := by simp; omega
        have HNX := Lib.hid (show x ∉ (pl.take (j + 1)).map (·.1) by
          rw [HTK.out, List.mem_append, List.mem_singleton]
          rintro (h | h)
          · exact HNM.out h
          · exact hyx h.symm)
        clear hyx
        go_wp2_with fail
        go_roundw
        case rel => exact ⟨j + 1, by go_num, HLT.out, HNX.out, HBa.out⟩
        case measure => have := HLT.out; simp [intOf]; omega
    · obtain rfl : j = pl.length := by omega
      have HE := Lib.hid (show renO pl x = x by
        have := HNM.out
        rw [List.take_length] at this
        exact renO_no this)
      clear hlt hj
      go_wp2_with fail
      go_ret
      exact ⟨by rw [HE.out]; rfl, HB.out⟩
end Go.Proofs.YtblekggklimpeaaGreatDoor

namespace Go.Proofs.YtblekggklimpeaaGreatDoor
open Go.RowKit
theorem mem_fldL {p n x : Nat} : x ∈ fldL p n ↔ x = p + 1 ∨ ∃ i, i < n ∧ x = p + 3 + i := by
  induction n with
  | zero => rw [fldL_zero]; simp
  | succ n ih =>
    rw [fldL_snoc, List.mem_append, ih, List.mem_singleton]
    constructor
    · rintro ((h | ⟨i, hi, h⟩) | h)
      · exact .inl h
      · exact .inr ⟨i, by omega, h⟩
      · exact .inr ⟨n, by omega, h⟩
    · rintro (h | ⟨i, hi, h⟩)
      · exact .inl (.inl h)
      · by_cases he : i = n
        · subst he; exact .inr h
        · exact .inl (.inr ⟨i, by omega, h⟩)
/-- The numbers of all name words, from a word on. -/
def namesFrom : Nat → List Ob → List Nat
  | _, [] => []
  | p, b :: l => nmsK p b ++ namesFrom (p + 3 + b.fs.length) l
theorem namesFrom_ge : ∀ (l : List Ob) (p x : Nat), x ∈ namesFrom p l → p < x
  | [], _, _, h => by cases h
  | b :: l, p, x, h => by
    unfold namesFrom at h
    rcases List.mem_append.1 h with h | h
    · unfold nmsK at h
      rcases mem_fldL.1 h with rfl | ⟨i, _, rfl⟩ <;> omega
    · have := namesFrom_ge l _ x h
      omega
theorem namesFrom_take : ∀ (l : List Ob) (p k : Nat) (hk : k < l.length), namesFrom p (l.take (k + 1)) = namesFrom p (l.take k) ++ nmsK (p + (wsOf (l.take k)).length) l[k]
  | b :: l, p, 0, _ => by simp [namesFrom, wsOf_nil]
  | b :: l, p, k + 1, hk => by
    have ih := namesFrom_take l (p + 3 + b.fs.length) k (by simpa using hk)
    rw [List.take_succ_cons, List.take_succ_cons]
    unfold namesFrom
    rw [ih, List.append_assoc, wsOf_cons, List.length_append, b.ws_len, List.getElem_cons_succ]
    congr 3
    omega
/-- A list of words, some of them renamed. -/
def mapAt (r : Nat → Nat) (ws P : List Nat) : List Nat := (List.range ws.length).map (fun x => if x ∈ P then r (ws.getD x 0) else ws.getD x 0)
theorem mapAt_len (r : Nat → Nat) (ws P : List Nat) : (mapAt r ws P).length = ws.length := by unfold mapAt; simp
theorem mapAt_get {r : Nat → Nat} {ws P : List Nat} {x : Nat} (hx : x < ws.length) : (mapAt r ws P)[x]? = some (if x ∈ P then r (ws.getD x 0) else ws.getD x 0) := by
  unfold mapAt
  rw [List.getElem?_map, List.getElem?_range hx]
  rfl
theorem mapAt_nil (r : Nat → Nat) (ws : List Nat) : mapAt r ws [] = ws := by
  apply List.ext_getElem?
  intro x
  by_cases hx : x < ws.length
  · rw [mapAt_get hx, if_neg (by simp), List.getD_eq_getElem?_getD, List.getElem?_eq_getElem hx]
    rfl
  · rw [List.getElem?_eq_none (by rw [mapAt_len]; omega), List.getElem?_eq_none (by omega)]
theorem mapAt_set {r : Nat → Nat} {ws P : List Nat} {x : Nat} (hx : x < ws.length) : (mapAt r ws P).set x (r (ws.getD x 0)) = mapAt r ws (P ++ [x]) := by
  apply List.ext_getElem?
  intro y
  rw [List.getElem?_set]
  by_cases hy : x = y
  · subst hy
    rw [if_pos rfl, if_pos (by rw [mapAt_len]; exact hx), mapAt_get hx, if_pos (by simp)]
  · rw [if_neg hy]
    by_cases hl : y < ws.length
    · rw [mapAt_get hl, mapAt_get hl]
      have : (y ∈ P ++ [x]) ↔ y ∈ P := by
        rw [List.mem_append, List.mem_singleton]
        exact ⟨fun h => h.elim id (fun h => absurd h.symm hy), .inl⟩
      simp only [this]
    · rw [List.getElem?_eq_none (by rw [mapAt_len]; omega), List.getElem?_eq_none (by rw [mapAt_len]; omega)]
theorem ren_ws_len (r : Nat → Nat) (b : Ob) : (ren r b).ws.length = b.ws.length := by
  rw [Ob.ws_len, Ob.ws_len]
  unfold ren
  simp only
  split <;> simp
theorem ws_getD (b : Ob) (y : Nat) : b.ws.getD y 0 = if y = 0 then b.x.w0 else if y = 1 then b.x.cls else if y = 2 then b.x.ser else b.fs.getD (y - 3) 0 := by
  by_cases y0 : y = 0
  · rw [if_pos y0, y0, ws_0]
  by_cases y1 : y = 1
  · rw [if_neg y0, if_pos y1, y1, ws_1]
  by_cases y2 : y = 2
  · rw [if_neg y0, if_neg y1, if_pos y2, y2, ws_2]
  rw [if_neg y0, if_neg y1, if_neg y2]
  obtain ⟨z, rfl⟩ : ∃ z, y = z + 3 := ⟨y - 3, by omega⟩
  rw [ws_f, Nat.add_sub_cancel]
theorem w0_ren (r : Nat → Nat) (b : Ob) : (ren r b).x.w0 = b.x.w0 := by unfold Hd.w0 ren; simp only
theorem mem_head {p : Nat} {b : Ob} {l : List Ob} {y : Nat} (hy : y < 3 + b.fs.length) : (p + y ∈ nmsK p b ++ namesFrom (p + 3 + b.fs.length) l) ↔ (y = 1 ∨ (b.x.ptrB = true ∧ 3 ≤ y)) := by
  have hn : p + y ∉ namesFrom (p + 3 + b.fs.length) l := fun hm => by have := namesFrom_ge l _ _ hm; omega
  rw [List.mem_append]
  unfold nmsK
  rw [mem_fldL]
  constructor
  · rintro ((h1 | ⟨i, hi, h1⟩) | h1)
    · exact .inl (by omega)
    · by_cases hp : b.x.ptrB = true
      · exact .inr ⟨hp, by omega⟩
      · rw [if_neg hp] at hi; omega
    · exact absurd h1 hn
  · rintro (h1 | ⟨hp, h1⟩)
    · exact .inl (.inl (by omega))
    · exact .inl (.inr ⟨y - 3, by rw [if_pos hp]; omega, by omega⟩)
theorem mem_tail {p : Nat} {b : Ob} {l : List Ob} {z : Nat} : (p + (3 + b.fs.length + z) ∈ nmsK p b ++ namesFrom (p + 3 + b.fs.length) l) ↔ (p + 3 + b.fs.length + z ∈ namesFrom (p + 3 + b.fs.length) l) := by
  rw [List.mem_append, show p + (3 + b.fs.length + z) = p + 3 + b.fs.length + z by omega]
  constructor
  · rintro (h1 | h1)
    · unfold nmsK at h1
      rcases mem_fldL.1 h1 with h2 | ⟨i, hi, h2⟩
      · omega
      · by_cases hp : b.x.ptrB = true
        · rw [if_pos hp] at hi; omega
        · rw [if_neg hp] at hi; omega
    · exact h1
  · exact .inr
theorem ren_head (r : Nat → Nat) (b : Ob) {y : Nat} (hy : y < 3 + b.fs.length) : (ren r b).ws.getD y 0 = if y = 1 ∨ (b.x.ptrB = true ∧ 3 ≤ y) then r (b.ws.getD y 0) else b.ws.getD y 0 := by
  rw [ws_getD, ws_getD, w0_ren]
  have cle : (ren r b).x.cls = r b.x.cls := rfl
  have see : (ren r b).x.ser = b.x.ser := rfl
  rw [cle, see]
  generalize b.x.w0 = wz
  by_cases y0 : y = 0
  · rw [if_pos y0, if_pos y0, if_neg (by omega)]
  by_cases y1 : y = 1
  · rw [if_neg y0, if_pos y1, if_neg y0, if_pos y1, if_pos (.inl y1)]
  by_cases y2 : y = 2
  · rw [if_neg y0, if_neg y1, if_pos y2, if_neg y0, if_neg y1, if_pos y2, if_neg (by omega)]
  rw [if_neg y0, if_neg y1, if_neg y2, if_neg y0, if_neg y1, if_neg y2]
  unfold ren
  simp only
  by_cases hp : b.x.ptrB = true
  · rw [if_pos hp, if_pos (.inr ⟨hp, by omega⟩)]
    have hl : y - 3 < b.fs.length := by omega
    rw [List.getD_eq_getElem?_getD, List.getD_eq_getElem?_getD, List.getElem?_map, List.getElem?_eq_getElem hl]
    rfl
  · rw [if_neg hp, if_neg (by rintro (h1 | h1); exact y1 h1; exact hp h1.1)]
theorem getD_app2 {a b : List Nat} {n z : Nat} (h : a.length = n) : (a ++ b).getD (n + z) 0 = b.getD z 0 := by
  subst h
  rw [List.getD_eq_getElem?_getD, List.getD_eq_getElem?_getD, List.getElem?_append_right (by omega), Nat.add_sub_cancel_left]
theorem ren_at (r : Nat → Nat) (l : List Ob) : ∀ (p y : Nat), y < (wsOf l).length →
    (wsOf (l.map (ren r))).getD y 0 = if p + y ∈ namesFrom p l then r ((wsOf l).getD y 0) else (wsOf l).getD y 0 := by
  induction l with
  | nil => intro p y h; simp [wsOf_nil] at h
  | cons b l ih =>
    intro p y h
    rw [List.map_cons, wsOf_cons, wsOf_cons]
    rw [wsOf_cons, List.length_append, b.ws_len] at h
    unfold namesFrom
    by_cases hy : y < 3 + b.fs.length
    · rw [getD_app_left _ _ _ _ (show y < (ren r b).ws.length by rw [ren_ws_len, b.ws_len]; exact hy), getD_app_left _ _ _ _ (show y < b.ws.length by rw [b.ws_len]; exact hy), ren_head r b hy]
      simp only [mem_head hy]
    · obtain ⟨z, rfl⟩ : ∃ z, y = 3 + b.fs.length + z := ⟨y - (3 + b.fs.length), by omega⟩
      rw [getD_app2 (show (ren r b).ws.length = 3 + b.fs.length by rw [ren_ws_len, b.ws_len]), getD_app2 b.ws_len, ih (p + 3 + b.fs.length) z (by omega)]
      simp only [mem_tail]
theorem wsOf_ren_len (r : Nat → Nat) (l : List Ob) : (wsOf (l.map (ren r))).length = (wsOf l).length := by
  induction l with
  | nil => rfl
  | cons b l ih => rw [List.map_cons, wsOf_cons, wsOf_cons, List.length_append, List.length_append, ih, ren_ws_len]
/-- All names renamed: the words of the renamed objects. -/
theorem mapAt_all (r : Nat → Nat) (l : List Ob) : mapAt r (0 :: wsOf l) (namesFrom 1 l) = 0 :: wsOf (l.map (ren r)) := by
  apply List.ext_getElem?
  intro x
  by_cases hx : x < (0 :: wsOf l).length
  · rw [mapAt_get hx]
    match x with
    | 0 => rw [if_neg (fun h => by have := namesFrom_ge l _ _ h; omega)]; rfl
    | x + 1 =>
      have hx' : x < (wsOf l).length := by simpa using hx
      have := ren_at r l 1 x hx'
      rw [Nat.add_comm 1 x] at this
      rw [List.getD_cons_succ, List.getElem?_cons_succ, ← this, List.getD_eq_getElem?_getD, List.getElem?_eq_getElem (by rw [wsOf_ren_len]; exact hx')]
      rfl
  · rw [List.getElem?_eq_none (by rw [mapAt_len]; omega), List.getElem?_eq_none (by rw [List.length_cons, wsOf_ren_len]; rw [List.length_cons] at hx; omega)]
theorem ren_id {l : List Ob} {r : Nat → Nat} (hr : ∀ o, r o = o) : l.map (ren r) = l := by
  have hm : ∀ xs : List Nat, xs.map r = xs := fun xs => by
    conv => rhs; rw [← List.map_id xs]
    exact List.map_congr_left fun o _ => hr o
  conv => rhs; rw [← List.map_id l]
  refine List.map_congr_left fun b _ => ?_
  obtain ⟨⟨n, t, s, c, e⟩, fs⟩ := b
  unfold ren
  simp only [hm, hr]
  split <;> rfl
end Go.Proofs.YtblekggklimpeaaGreatDoor

namespace Go.Proofs.YtblekggklimpeaaGreatDoor
open Go.RowKit Go.Sort
attribute [local go_sem] Oper.semAt_some
def RenP (r : Nat → Nat) (h : HM) (l : List Ob) (w : World) (e : Ending) (w' : World) : Prop :=
  ∃ gW cW Ar nr cr, e = .returned (.agg #[.slice (some ⟨gW, 0, none⟩) h.words.length cW, .slice Ar nr cr]) ∧ Reads w' w'.heap.size 1 (some ⟨gW, 0, none⟩) h.words.length (u32s (renH r h l).words) ∧ Reads w' w'.heap.size 1 Ar nr (u32s (renH r h l).roots) ∧ nr = h.roots.length ∧ Below w.heap.size w w'
theorem cells2R {w : World} {g : Nat} {t : TypeId} {a b : Value} (h : Blk w g t #[a, b]) : w.cell? ⟨g, 0, none⟩ = some a ∧ w.cell? ⟨g, 1, none⟩ = some b := ⟨h.cell 0, h.cell 1⟩
theorem u32s_get3 {l : List Nat} {i v : Nat} (h : l[i]? = some v) : (u32s l)[i]? = some (.int .u32 (v : Nat)) := by
  unfold u32s
  rw [List.getElem?_map, h]
  rfl
theorem own_off2 {w : World} {B n g cc : Nat} {e t : TypeId} {v : Value} {zs ys : List Value} (h : w.ownsRow B e 1 v n zs) (r : Row w g t cc ys) (hne : e ≠ t) (i : Nat) (u : Value) : (w.setCell ⟨g, i, none⟩ u).ownsRow B e 1 v n zs := by
  obtain ⟨cur, hb, _⟩ := r
  exact own_keep h (fun q hq => Below.heap_setCell w ⟨g, i, none⟩ u q (fun e' => own_ne_blk h hb hne (by rw [hq, e'])))
/-- What lies in memory under way. -/
structure RnM (w W : World) (r : Nat → Nat) (ws : List Nat) (P : List Nat) (A A' : Option Addr) (c n' c' g5 gW cW : Nat) (vr : Value) (rs : List Nat) : Prop where
  b2 : Blk W w.heap.size 32 #[.slice A ws.length c, .slice A' n' c']
  b4 : Blk W (w.heap.size + 1) 32 #[.slice none 0 0, .slice none 0 0]
  b5 : Blk W g5 32 #[.slice (some ⟨gW, 0, none⟩) ws.length cW, vr]
  row : Row W gW 24 cW (u32s (mapAt r ws P))
  own : W.ownsRow w.heap.size 43 1 vr rs.length (u32s rs)
  hg : w.heap.size ≤ gW
  h5 : w.heap.size + 1 < g5
  low : Below w.heap.size w W
section
variable {w W W' : World} {r : Nat → Nat} {ws P rs : List Nat} {A A' : Option Addr} {c n' c' g5 gW cW : Nat} {vr : Value}
theorem RnM.below (K : RnM w W r ws P A A' c n' c' g5 gW cW vr rs) (hb : Below W.heap.size W W') : RnM w W' r ws P A A' c n' c' g5 gW cW vr rs :=
  ⟨K.b2.below hb K.b2.lt, K.b4.below hb K.b4.lt, K.b5.below hb K.b5.lt, K.row.same (hb.block _ K.row.lt), own_below K.own hb, K.hg, K.h5, below_top K.low hb⟩
/-- A word is written. -/
theorem RnM.set (K : RnM w W r ws P A A' c n' c' g5 gW cW vr rs) {x : Nat} (hx : x < ws.length) :
    RnM w (W.setCell ⟨gW, x, none⟩ (.int .u32 (r (ws.getD x 0) : Nat))) r ws (P ++ [x]) A A' c n' c' g5 gW cW vr rs := by
  have hk : ∀ k, k ≠ gW → (W.setCell ⟨gW, x, none⟩ (.int .u32 (r (ws.getD x 0) : Nat))).heap[k]? = W.heap[k]? := fun k hk => Below.heap_setCell W ⟨gW, x, none⟩ _ k hk
  refine ⟨K.b2.same (hk _ (K.row.ne_blk K.b2 (by decide)).symm), K.b4.same (hk _ (K.row.ne_blk K.b4 (by decide)).symm), K.b5.same (hk _ (K.row.ne_blk K.b5 (by decide)).symm), ?_, own_keep K.own (fun q hq => hk q (fun e => by obtain ⟨cur, hcb, _⟩ := K.row; exact own_ne_blk K.own hcb (by decide) (e ▸ hq))), K.hg, K.h5, K.low.setCell (p := ⟨gW, x, none⟩) K.hg _⟩
  have hs := K.row.set x (.int .u32 (r (ws.getD x 0) : Nat))
  have e : (u32s (mapAt r ws P)).set x (.int .u32 (r (ws.getD x 0) : Nat)) = u32s (mapAt r ws (P ++ [x])) := by
    rw [← mapAt_set hx]
    unfold u32s
    rw [List.map_set]
  rw [e] at hs
  exact hs
/-- A root is put behind. -/
theorem RnM.push (K : RnM w W r ws P A A' c n' c' g5 gW cW vr rs) {y ca : Nat} {Aa : Option Addr} (hown : W'.ownsRow w.heap.size 43 1 (.slice Aa (rs.length + 1) ca) (rs.length + 1) (u32s rs ++ u32s [y]))
    (hg : (W.alloc (.cells #[.int .u32 (y : Int)] 43)).grownBy W' vr.ownBlock) :
    Blk W' g5 32 #[.slice (some ⟨gW, 0, none⟩) ws.length cW, vr] ∧ RnM w (W'.setCell ⟨g5, 1, none⟩ (.slice Aa (rs.length + 1) ca)) r ws P A A' c n' c' g5 gW cW (.slice Aa (rs.length + 1) ca) (rs ++ [y]) := by
  have hbl : ∀ k, k < W.heap.size → vr.ownBlock ≠ some k → W'.heap[k]? = W.heap[k]? := fun k hk hn => (hg.block k (by simp; omega) (fun e => hn e.symm)).trans (Below.heap_alloc W _ k hk)
  have B2 := K.b2.same (hbl _ K.b2.lt (own_ne_blk K.own K.b2 (by decide)))
  have B4 := K.b4.same (hbl _ K.b4.lt (own_ne_blk K.own K.b4 (by decide)))
  have B5 := K.b5.same (hbl _ K.b5.lt (own_ne_blk K.own K.b5 (by decide)))
  have hr := K.row
  obtain ⟨cur, hcb, hrest⟩ := hr
  have HR : Row W' gW 24 cW (u32s (mapAt r ws P)) := K.row.same (hbl _ K.row.lt (own_ne_blk K.own hcb (by decide)))
  have hown' : W'.ownsRow w.heap.size 43 1 (.slice Aa (rs.length + 1) ca) (rs ++ [y]).length (u32s (rs ++ [y])) := by
    rw [u32s_app, List.length_append]
    exact hown
  have hk : ∀ k, k ≠ g5 → (W'.setCell ⟨g5, 1, none⟩ (.slice Aa (rs.length + 1) ca)).heap[k]? = W'.heap[k]? := fun k hk => Below.heap_setCell W' ⟨g5, 1, none⟩ _ k hk
  have h5 := K.h5
  have hsz : W.heap.size ≤ W'.heap.size := Nat.le_trans (by simp) hg.size
  refine ⟨B5, ⟨B2.same (hk _ (by omega)), B4.same (hk _ (by omega)), B5.set_ 1 _, HR.same (hk _ (HR.ne_blk B5 (by decide))), own_keep hown' (fun q hq => hk q (fun e => own_ne_blk hown' B5 (by decide) (e ▸ hq))), K.hg, K.h5, ?_⟩⟩
  refine Below.setCell (p := ⟨g5, 1, none⟩) (show Below w.heap.size w W' from K.low.trans ⟨hg.os, hg.tape, hg.output, hsz, fun k hk => hbl k (by have := K.low.size; omega) (fun e => by have := (K.own.lt k e).1; omega)⟩) (show w.heap.size ≤ g5 by omega) _
end
section
variable {w : World} {h : HM} {l : List Ob} {A A' Ap : Option Addr} {n c n' c' gp cp : Nat} {pl : List (Nat × Nat)}
set_option maxRecDepth 100000 in
set_option maxHeartbeats 16000000 in
theorem rren_any (G : h.Good l) (hr : Reads w w.heap.size 1 A n (u32s h.words)) (hq : Reads w w.heap.size 1 A' n' (u32s h.roots)) (ho : 0 < pl.length → Ap = some ⟨gp, 0, none⟩ ∧ PlA w gp pl) (hpn : pl.length ≤ 9223372036854775807) (hr32 : ∀ o, o < 4294967296 → renO pl o < 4294967296) :
    Calls Tryz.prog 11 #[StV A n c A' n' c', .slice Ap pl.length cp] w (RenP (renO pl) h l w) := by
  have hln : n = h.words.length := by have := hr.1; rw [u32s_len] at this; omega
  have hln' : n' = h.roots.length := by have := hq.1; rw [u32s_len] at this; omega
  subst hln hln'
  have hwl : h.words.length ≤ 1048576 := by have := G.fit.room; have := G.fit.hi; omega
  have hl2 : l.length ≤ 1048576 := by have h1 := oopsL_le G; rw [oopsL_len] at h1; exact h1
  have hw0 : 0 < h.words.length := by rw [G.laid.words]; simp
  have hrt := G.fit.roots
  have HW := Lib.hid G.laid.words
  have HG := Lib.hid G
  have HRW := Lib.hid (fun (w' : World) (hb : Below w.heap.size w w') => hr.below hb)
  have HRR := Lib.hid (fun (w' : World) (hb : Below w.heap.size w w') => hq.below hb)
  have HNM := Lib.hid (fun (w' : World) (hb : Below w.heap.size w w') (x : Nat) (hx : x < 4294967296) => rnm_any (w := w') (cp := cp) (pl := pl) (Ap := Ap) (gp := gp) (fun h0 => ⟨(ho h0).1, (ho h0).2.same hb.size (hb.block _ (ho h0).2.1)⟩) hpn x hx)
  have HOB := Lib.hid (fun (w' : World) (hb : Below w.heap.size w w') => robjects_any (A' := A') (n' := h.roots.length) (c' := c') (c := c) G ((hr.below hb).more hb.size))
  have HNA := Lib.hid (fun (w' : World) (hb : Below w.heap.size w w') (k : Nat) (hk : k < l.length) => rnames_any (A' := A') (n' := h.roots.length) (c' := c') (c := c) G ((hr.below hb).more hb.size) hk)
  have HPT := Lib.hid (fun (k : Nat) (hk : k < l.length) => (w0_parts G hk).2.2.2)
  have HNG := Lib.hid (fun (k : Nat) (hk : k < l.length) (j x : Nat) (hx : (nmsK (posOf (l.take k)) l[k])[j]? = some x) => show x < h.words.length from by
    have hm := List.mem_of_getElem? hx
    have h1 := (w0_parts G hk).2.2.2
    unfold nmsK at hm
    rcases mem_fldL.1 hm with rfl | ⟨i, hi, rfl⟩
    · omega
    · have : i < (l[k]).fs.length := by split at hi <;> omega
      omega)
  have HW32 := Lib.hid (fun (x : Nat) => show h.words.getD x 0 < 4294967296 from by
    rw [List.getD_eq_getElem?_getD]
    cases hh : h.words[x]? with
    | none => simp
    | some v => exact G.fit.w32 v (List.mem_of_getElem? hh))
  have HR32 := Lib.hid hr32
  have HLR := Lib.hid (And.intro hwl (And.intro hl2 (And.intro hw0 hrt)))
  clear hr hq G ho hpn hr32 hrt
  unfold StV at HOB HNA ⊢
  obtain ⟨k0, hk0, hy0, hy1, hy2⟩ := info_parts info_u32
  obtain ⟨ra, rae⟩ : ∃ ra : Reads ((w.alloc (.cells #[.slice A h.words.length c, .slice A' h.roots.length c'] 32)).alloc (.cells #[.slice none 0 0, .slice none 0 0] 32)) (w.heap.size + 1 + 1) 1 A h.words.length (u32s h.words), True := ⟨by
    have hb := ((Below.refl w.heap.size w).alloc (Nat.le_refl _) (.cells #[.slice A h.words.length c, .slice A' h.roots.length c'] 32)).alloc (by simp) (.cells #[.slice none 0 0, .slice none 0 0] 32)
    exact (HRW.out _ hb).more (by omega), trivial⟩
  go_enter Tryz.func11, Tryz.ntmps11
  go_upto_region 2 with (at_builtin; refine wpList_append_any _ rfl (.const (.slice none 0 0)) (.tmp 15) _ rfl (w.heap.size + 1 + 1) 24 k0 _ 1 4 Tryz.underlying22 hk0 hy0 hy1 hy2 rfl (by omega) (.slice none 0 0) 0 [] rfl ⟨rfl, .inl ⟨rfl, rfl⟩⟩ (w.heap.size + 1 + 1) A h.words.length c (u32s h.words) rfl ra (one_u32s _) (by simp only [maxLen]; omega) (by omega) (by simp) ?_; intro v4 w4 hown4 hgrow4 hat4; rw [Nat.zero_add, List.nil_append] at hown4; obtain ⟨gW, cW, rfl, hrow4, _, hgw⟩ := Row.of_any hown4 hw0; have HO4 := Lib.hid (And.intro hrow4 (And.intro hgw hgrow4)); clear hown4 hgrow4 hat4 hrow4 hgw)
  have hb1 := ((Below.refl w.heap.size w).alloc (Nat.le_refl _) (.cells #[.slice A h.words.length c, .slice A' h.roots.length c'] 32)).alloc (by simp) (.cells #[.slice none 0 0, .slice none 0 0] 32)
  have hbx := (Blk.new w 32 #[.slice A h.words.length c, .slice A' h.roots.length c']).alloc (.cells #[.slice none 0 0, .slice none 0 0] 32)
  have hby := Blk.new (w.alloc (.cells #[.slice A h.words.length c, .slice A' h.roots.length c'] 32)) 32 #[.slice none 0 0, .slice none 0 0]
  rw [World.size_alloc] at hby
  have hgz : w.heap.size + 1 + 1 ≤ w4.heap.size := by have := HO4.out.2.2.size; simpa using this
  have hgb : ∀ k, k < w.heap.size + 1 + 1 → w4.heap[k]? = ((w.alloc (.cells #[.slice A h.words.length c, .slice A' h.roots.length c'] 32)).alloc (.cells #[.slice none 0 0, .slice none 0 0] 32)).heap[k]? := fun k hk => HO4.out.2.2.block k (by simpa using hk) (by simp [Value.ownBlock])
  have hb6 := (Below.refl w4.heap.size w4).alloc (Nat.le_refl _) (.cells #[.slice (some ⟨gW, 0, none⟩) h.words.length cW, .slice none 0 0] 32)
  have HK6 := Lib.hid (show RnM w (w4.alloc (.cells #[.slice (some ⟨gW, 0, none⟩) h.words.length cW, .slice none 0 0] 32)) (renO pl) h.words [] A A' c h.roots.length c' w4.heap.size gW cW (.slice none 0 0) [] from
    ⟨((hbx.same (hgb _ (by omega))).below hb6 (by omega)), ((hby.same (hgb _ (by omega))).below hb6 (by omega)), Blk.new w4 _ _, by rw [mapAt_nil]; exact HO4.out.1.same (hb6.block _ HO4.out.1.lt), ⟨rfl, .inl ⟨rfl, rfl⟩⟩, by have := HO4.out.2.1; omega, by omega,
      below_top (hb1.trans ⟨HO4.out.2.2.os, HO4.out.2.2.tape, HO4.out.2.2.output, HO4.out.2.2.size, fun k hk => hgb k (by omega)⟩) hb6⟩)
  clear hb1 hbx hby hgz hgb hb6 HO4 ra rae
  generalize w4.alloc (.cells #[.slice (some ⟨gW, 0, none⟩) h.words.length cW, .slice none 0 0] 32) = w6 at *
  generalize w4.heap.size = g5 at *
  obtain ⟨x0, x1⟩ := cells2R HK6.out.b2
  go_wp2_with fail
  refine (HOB.out w6 HK6.out.low).mono ?_
  rintro e w7 ⟨v7, rfl, hown7, hb7⟩
  have HK7 := Lib.hid (HK6.out.below hb7)
  have HI7 := Lib.hid (own_base hown7 HK6.out.low.size)
  rw [idxL_len] at HI7
  obtain ⟨Ai, ci, rfl⟩ := own_val HI7.out
  clear hown7 hb7 HK6 x0 x1 HOB
  go_wp2_with fail
  go_loopw [21] (fun iv wr => ∃ k : Nat, iv = .int .i64 k ∧ k ≤ l.length ∧ RnM w wr (renO pl) h.words (namesFrom 1 (l.take k)) A A' c h.roots.length c' g5 gW cW (.slice none 0 0) [] ∧ wr.ownsRow w.heap.size 3 1 (.slice Ai l.length ci) l.length (ints (idxL l))) (fun iv _ => l.length - (intOf iv).toNat)
  case atStart => exact ⟨0, rfl, Nat.zero_le _, HK7.out, HI7.out⟩
  case round =>
    clear HK7 HI7
    obtain ⟨k, rfl, hk, hkm, hix⟩ := hrel
    have HK := Lib.hid hkm
    have HI := Lib.hid hix
    clear hkm hix
    by_cases hlt : k < l.length
    · obtain ⟨gv, cv, hvv, hrv, _, hgv⟩ := Row.of_any HI.out (by omega)
      have hcl := hrv.cell (ints_atK (idxL_get hlt))
      cases hvv
      have HNk := Lib.hid (HNA.out wr HK.out.low k hlt)
      have HNX := Lib.hid (HNG.out k hlt)
      have HLT := Lib.hid hlt
      have HTK := Lib.hid (show namesFrom 1 (l.take (k + 1)) = namesFrom 1 (l.take k) ++ nmsK (posOf (l.take k)) l[k] from namesFrom_take l 1 k hlt)
      have hnl : (nmsK (posOf (l.take k)) l[k]).length ≤ 1048577 := by
        have h1 := HPT.out k hlt
        have h2 := HLR.out.1
        unfold nmsK
        rw [fldL_len]
        split <;> omega
      obtain ⟨x0, x1⟩ := cells2R HK.out.b2
      unfold RNamP at HNk
      generalize holdN (posOf (l.take k)) l[k] = hn at *
      generalize nmsK (posOf (l.take k)) l[k] = nl at *
      generalize posOf (l.take k) = q at *
      clear hrv
      go_wp2_with fail
      refine HNk.out.mono ?_
      rintro e w8 ⟨v8, rfl, hown8, hb8⟩
      have HN8 := Lib.hid (own_base hown8 HK.out.low.size)
      have HK8 := Lib.hid (HK.out.below hb8)
      have HI8 := Lib.hid (own_below HI.out hb8)
      obtain ⟨An, cn, rfl⟩ := own_val HN8.out
      clear hown8 hb8 x0 x1 hcl HK HI HNk
      go_wp2_with fail
      go_loopw [33] (fun jv wq => ∃ j : Nat, jv = .int .i64 j ∧ j ≤ nl.length ∧ RnM w wq (renO pl) h.words (namesFrom 1 (l.take k) ++ nl.take j) A A' c h.roots.length c' g5 gW cW (.slice none 0 0) [] ∧ wq.ownsRow w.heap.size 3 1 (.slice (some ⟨gv, 0, none⟩) l.length ci) l.length (ints (idxL l)) ∧ wq.ownsRow w.heap.size 3 1 (.slice An nl.length cn) nl.length (ints nl)) (fun jv _ => nl.length - (intOf jv).toNat)
      case atStart => exact ⟨0, rfl, Nat.zero_le _, by rw [List.take_zero, List.append_nil]; exact HK8.out, HI8.out, HN8.out⟩
      case round =>
        clear HK8 HI8 HN8
        obtain ⟨j, rfl, hj, hkm, hix, hnm⟩ := hrel
        have HK := Lib.hid hkm
        have HI := Lib.hid hix
        have HN := Lib.hid hnm
        clear hkm hix hnm
        by_cases hjl : j < nl.length
        · obtain ⟨gn, cn', hvn, hrn, _, hgn⟩ := Row.of_any HN.out (by omega)
          have hjq : nl[j]? = some nl[j] := List.getElem?_eq_getElem hjl
          have hcn := hrn.cell (ints_atK hjq)
          cases hvn
          have hxw := HNX.out j _ hjq
          have HTJ := Lib.hid (show nl.take (j + 1) = nl.take j ++ [nl[j]] from by rw [List.take_add_one, hjq]; rfl)
          have HJL := Lib.hid hjl
          generalize nl[j] = x at *
          obtain ⟨ad, u, rfl, hba, hu, hca⟩ := (HRW.out wr HK.out.low).at_ hxw
          obtain ⟨y, hy, rfl⟩ := u32s_at hu
          obtain rfl : h.words.getD x 0 = y := by rw [List.getD_eq_getElem?_getD, hy]; rfl
          have hy32 := HW32.out x
          have HXW := Lib.hid hxw
          have HSET := Lib.hid (fun (W' : World) (K : RnM w W' (renO pl) h.words (namesFrom 1 (l.take k) ++ nl.take j) (some ad) A' c h.roots.length c' g5 gW cW (.slice none 0 0) []) => K.set hxw)
          clear hu hy hrn
          generalize h.words.getD x 0 = y at *
          have HR := Lib.hid (HR32.out y hy32)
          have hx63 : x ≤ 1048576 := by have := HLR.out.1; omega
          clear hjl hjq
          go_upto_region 9 with fail
          refine wp_region_U 11 (fun w' => w'.cell? ⟨g5, 0, none⟩ = some (.slice (some ⟨gW, 0, none⟩) h.words.length cW) ∧ w'.cell? ⟨w.heap.size, 0, none⟩ = some (.slice (some ad) h.words.length c) ∧ w'.cell? (ad.add x) = some (.int .u32 (y : Int))) (by kernel_rfl) ?_
          have hbd : Below wr.heap.size wr wr.drew := below_drew (Below.refl _ _)
          have HKq := Lib.hid (HK.out.below hbd)
          have HIq := Lib.hid (own_below HI.out hbd)
          have HNq := Lib.hid (own_below HN.out hbd)
          have hS : wr.drew.cell? ⟨g5, 0, none⟩ = some (.slice (some ⟨gW, 0, none⟩) h.words.length cW) ∧ wr.drew.cell? ⟨w.heap.size, 0, none⟩ = some (.slice (some ad) h.words.length c) ∧ wr.drew.cell? (ad.add x) = some (.int .u32 (y : Int)) := ⟨HKq.out.b5.cell 0, HKq.out.b2.cell 0, hca⟩
          clear hbd hca hcn HK HI HN
          generalize wr.drew = wp at *
          have HNc := Lib.hid (HNM.out wp HKq.out.low y hy32)
          refine U_read 0 (v := (.pointer (some ⟨g5, 0, none⟩))) rfl (by kernel_rfl) (fun _ _ _ h => h) hS (by kernel_rfl) (fun w' hw' => by obtain ⟨h0, h1, h2⟩ := hw'; go_simp) ?_
          try simp only [Act.put, List.setIfInBounds_toArray, List.set_cons_zero, List.set_cons_succ]
          refine U_read 1 (v := (.slice (some ⟨gW, 0, none⟩) h.words.length cW)) rfl (by kernel_rfl) (fun _ _ _ h => h) hS (by kernel_rfl) (fun w' hw' => by obtain ⟨h0, h1, h2⟩ := hw'; go_simp) ?_
          try simp only [Act.put, List.setIfInBounds_toArray, List.set_cons_zero, List.set_cons_succ]
          refine U_read 2 (v := (.int .i64 (x : Int))) rfl (by kernel_rfl) (fun _ _ _ h => h) hS (by kernel_rfl) (fun w' hw' => by obtain ⟨h0, h1, h2⟩ := hw'; go_simp) ?_
          try simp only [Act.put, List.setIfInBounds_toArray, List.set_cons_zero, List.set_cons_succ]
          refine U_read 3 (v := (.slice Ap pl.length cp)) rfl (by kernel_rfl) (fun _ _ _ h => h) hS (by kernel_rfl) (fun w' hw' => by obtain ⟨h0, h1, h2⟩ := hw'; go_simp) ?_
          try simp only [Act.put, List.setIfInBounds_toArray, List.set_cons_zero, List.set_cons_succ]
          refine U_read 4 (v := (.pointer (some ⟨w.heap.size, 0, none⟩))) rfl (by kernel_rfl) (fun _ _ _ h => h) hS (by kernel_rfl) (fun w' hw' => by obtain ⟨h0, h1, h2⟩ := hw'; go_simp) ?_
          try simp only [Act.put, List.setIfInBounds_toArray, List.set_cons_zero, List.set_cons_succ]
          refine U_read 5 (v := (.slice (some ad) h.words.length c)) rfl (by kernel_rfl) (fun _ _ _ h => h) hS (by kernel_rfl) (fun w' hw' => by obtain ⟨h0, h1, h2⟩ := hw'; go_simp) ?_
          try simp only [Act.put, List.setIfInBounds_toArray, List.set_cons_zero, List.set_cons_succ]
          refine U_read 6 (v := (.int .i64 (x : Int))) rfl (by kernel_rfl) (fun _ _ _ h => h) hS (by kernel_rfl) (fun w' hw' => by obtain ⟨h0, h1, h2⟩ := hw'; go_simp) ?_
          try simp only [Act.put, List.setIfInBounds_toArray, List.set_cons_zero, List.set_cons_succ]
          refine U_read 7 (v := (.pointer (some (ad.add x)))) rfl (by kernel_rfl) (fun _ _ _ h => h) hS (by kernel_rfl) (fun w' hw' => by obtain ⟨h0, h1, h2⟩ := hw'; go_simp) ?_
          try simp only [Act.put, List.setIfInBounds_toArray, List.set_cons_zero, List.set_cons_succ]
          refine U_read 8 (v := (.int .u32 (y : Int))) rfl (by kernel_rfl) (fun _ _ _ h => h) hS (by kernel_rfl) (fun w' hw' => by obtain ⟨h0, h1, h2⟩ := hw'; go_simp) ?_
          try simp only [Act.put, List.setIfInBounds_toArray, List.set_cons_zero, List.set_cons_succ]
          refine U_one 9 (by kernel_rfl) rfl rfl (fun K hK => ?_)
          go_simp
          refine HNc.out.mono ?_
          rintro e w9 ⟨rfl, hb9⟩
          have HK9 := Lib.hid (HKq.out.below hb9)
          have HI9 := Lib.hid (own_below HIq.out hb9)
          have HN9 := Lib.hid (own_below HNq.out hb9)
          have hS9 : w9.cell? ⟨g5, 0, none⟩ = some (.slice (some ⟨gW, 0, none⟩) h.words.length cW) ∧ w9.cell? ⟨w.heap.size, 0, none⟩ = some (.slice (some ad) h.words.length c) ∧ w9.cell? (ad.add x) = some (.int .u32 (y : Int)) := ⟨HK9.out.b5.cell 0, HK9.out.b2.cell 0, (hb9.cell (p := ad.add x) (by rw [block_of_add]; have := HKq.out.low.size; omega)).trans hS.2.2⟩
          clear hb9 hS HKq HIq HNq HNc
          refine hK _ _ (fun _ => hS9) ?_
          clear hK K
          try simp only [Act.put, List.setIfInBounds_toArray, List.set_cons_zero, List.set_cons_succ]
          have hS := hS9
          refine U_read 10 (v := (.pointer (some ⟨gW, x, none⟩))) rfl (by kernel_rfl) (fun _ _ _ h => h) hS (by kernel_rfl) (fun w' hw' => by obtain ⟨h0, h1, h2⟩ := hw'; go_simp) ?_
          try simp only [Act.put, List.setIfInBounds_toArray, List.set_cons_zero, List.set_cons_succ]
          have z0 := HK9.out.row.frozen x
          have c0 := HK9.out.row.cell (u32s_get3 (mapAt_get (r := renO pl) (P := namesFrom 1 (l.take k) ++ nl.take j) HXW.out))
          refine U_one 11 (by kernel_rfl) rfl rfl (fun K hK => ?_)
          go_simp
          refine hK _ _ (fun h => absurd h (by decide)) ?_
          clear hK K
          try simp only [Act.put, List.setIfInBounds_toArray, List.set_cons_zero, List.set_cons_succ]
          refine U_done (by kernel_rfl) ?_ _
          simp only [Calm, Exit.then]
          have HKs := Lib.hid (HSET.out w9 HK9.out)
          have HIs := Lib.hid (own_off2 HI9.out HK9.out.row (by decide) x (.int .u32 (renO pl y : Nat)))
          have HNs := Lib.hid (own_off2 HN9.out HK9.out.row (by decide) x (.int .u32 (renO pl y : Nat)))
          clear hS hS9 z0 c0 HK9 HI9 HN9
          go_wp2_with fail
          go_roundw
          case rel => exact ⟨j + 1, by go_num, HJL.out, by rw [HTJ.out, ← List.append_assoc]; exact HKs.out, HIs.out, HNs.out⟩
          case measure => have := HJL.out; simp [intOf]; omega
        · obtain rfl : j = nl.length := by omega
          have HKk := Lib.hid (show RnM w wr (renO pl) h.words (namesFrom 1 (l.take (k + 1))) A A' c h.roots.length c' g5 gW cW (.slice none 0 0) [] from by
            have hh := HK.out
            rw [List.take_length] at hh
            rw [HTK.out]
            exact hh)
          clear hjl hj
          go_wp2_with fail
          go_roundw
          case rel => exact ⟨k + 1, by go_num, HLT.out, HKk.out, HI.out⟩
          case measure => have := HLT.out; simp [intOf]; omega
    · obtain rfl : k = l.length := by omega
      have HKf := Lib.hid HK.out
      rw [List.take_length] at HKf
      have x1 : wr.cell? ⟨w.heap.size, 1, none⟩ = some (.slice A' h.roots.length c') := HK.out.b2.cell 1
      have hr64 : h.roots.length ≤ 64 := by have := HLR.out.2.2.2; omega
      clear hlt hk HK HI
      go_wp2_with fail
      obtain ⟨i0, hi0, hz0, hz1, hz2⟩ := info_parts info_oop
      obtain ⟨adr, rfl⟩ : ∃ ad, A' = some ad := by
        obtain ⟨ad, _, e, _⟩ := (HRR.out wr HKf.out.low).at_ (k := 0) (by have := HLR.out.2.2.2; omega)
        exact ⟨ad, e⟩
      go_loopw [53] (fun iv wr => ∃ (i : Nat) (vr : Value), iv = .int .i64 i ∧ i ≤ h.roots.length ∧ RnM w wr (renO pl) h.words (namesFrom 1 l) A (some adr) c h.roots.length c' g5 gW cW vr ((h.roots.take i).map (renO pl))) (fun iv _ => h.roots.length - (intOf iv).toNat)
      case atStart => exact ⟨0, _, rfl, Nat.zero_le _, by rw [List.take_zero]; exact HKf.out⟩
      case round =>
        clear HKf x1
        obtain ⟨i, vr, rfl, hi, hkm⟩ := hrel
        have HK := Lib.hid hkm
        clear hkm
        by_cases hlt : i < h.roots.length
        · obtain ⟨ad, u, ead, hba, hu, hca⟩ := (HRR.out wr HK.out.low).at_ hlt
          cases ead
          obtain ⟨y, hy, rfl⟩ := u32s_at hu
          have hy32 : y < 4294967296 := HG.out.fit.r32 y (List.mem_of_getElem? hy)
          have HTK := Lib.hid (show (h.roots.take (i + 1)).map (renO pl) = (h.roots.take i).map (renO pl) ++ [renO pl y] from by rw [List.take_add_one, hy, List.map_append]; rfl)
          have hrl : ((h.roots.take i).map (renO pl)).length = i := by rw [List.length_map, List.length_take]; omega
          have HLT := Lib.hid hlt
          obtain ⟨Av, cv, rfl⟩ := own_val HK.out.own
          rw [hrl] at HK
          have HRL := Lib.hid hrl
          have HR := Lib.hid (HR32.out y hy32)
          clear hu hy hrl hlt
          generalize (h.roots.take i).map (renO pl) = rs at *
          go_upto_region 15 with fail
          refine wp_region_U 8 (fun w' => w'.cell? ⟨g5, 1, none⟩ = some (.slice Av i cv) ∧ True) (by kernel_rfl) ?_
          have HKq := Lib.hid (HK.out.below (below_drew (Below.refl wr.heap.size wr)))
          have hS : wr.drew.cell? ⟨g5, 1, none⟩ = some (.slice Av i cv) ∧ True := ⟨HKq.out.b5.cell 1, trivial⟩
          clear hca HK
          generalize wr.drew = wp at *
          have HNc := Lib.hid (HNM.out wp HKq.out.low y hy32)
          refine U_read 0 (v := (.pointer (some ⟨g5, 1, none⟩))) rfl (by kernel_rfl) (fun _ _ _ h => h) hS (by kernel_rfl) (fun w' hw' => by obtain ⟨h0, -⟩ := hw'; go_simp) ?_
          try simp only [Act.put, List.setIfInBounds_toArray, List.set_cons_zero, List.set_cons_succ]
          refine U_read 1 (v := (.slice Av i cv)) rfl (by kernel_rfl) (fun _ _ _ h => h) hS (by kernel_rfl) (fun w' hw' => by obtain ⟨h0, -⟩ := hw'; go_simp) ?_
          try simp only [Act.put, List.setIfInBounds_toArray, List.set_cons_zero, List.set_cons_succ]
          refine U_read 2 (v := (.slice Ap pl.length cp)) rfl (by kernel_rfl) (fun _ _ _ h => h) hS (by kernel_rfl) (fun w' hw' => by obtain ⟨h0, -⟩ := hw'; go_simp) ?_
          try simp only [Act.put, List.setIfInBounds_toArray, List.set_cons_zero, List.set_cons_succ]
          refine U_read 3 (v := (.int .u32 (y : Int))) rfl (by kernel_rfl) (fun _ _ _ h => h) hS (by kernel_rfl) (fun w' hw' => by obtain ⟨h0, -⟩ := hw'; go_simp) ?_
          try simp only [Act.put, List.setIfInBounds_toArray, List.set_cons_zero, List.set_cons_succ]
          refine U_one 4 (by kernel_rfl) rfl rfl (fun K hK => ?_)
          go_simp
          refine HNc.out.mono ?_
          rintro e w9 ⟨rfl, hb9⟩
          have HK9 := Lib.hid (HKq.out.below hb9)
          clear hb9 hS HKq HNc
          generalize renO pl y = ry at *
          have hS : w9.cell? ⟨g5, 1, none⟩ = some (.slice Av i cv) ∧ True := ⟨HK9.out.b5.cell 1, trivial⟩
          refine hK _ _ (fun _ => hS) ?_
          clear hK K
          try simp only [Act.put, List.setIfInBounds_toArray, List.set_cons_zero, List.set_cons_succ]
          refine U_one 5 (by kernel_rfl) rfl rfl (fun K hK => ?_)
          go_simp
          have hba := (Below.refl w9.heap.size w9).alloc (Nat.le_refl _) (.cells #[.int .u32 (ry : Int)] 43)
          have HKa := Lib.hid (HK9.out.below hba)
          have hSa : (w9.alloc (.cells #[.int .u32 (ry : Int)] 43)).cell? ⟨g5, 1, none⟩ = some (.slice Av i cv) ∧ True := ⟨HKa.out.b5.cell 1, trivial⟩
          refine hK _ _ (fun _ => hSa) ?_
          clear hK K
          try simp only [Act.put, List.setIfInBounds_toArray, List.set_cons_zero, List.set_cons_succ]
          clear hba
          refine U_one 6 (by kernel_rfl) rfl rfl (fun K hK => ?_)
          refine wp_append_any _ (.tmp 58) (.tmp 62) _ rfl w.heap.size 43 i0 _ 1 4 Tryz.underlying23 hi0 hz0 hz1 hz2 rfl (by omega) (.slice Av i cv) i (u32s rs) rfl (by have hh := HKa.out.own; rw [HRL.out] at hh; exact hh) (w9.heap.size + 1) (some ⟨w9.heap.size, 0, none⟩) 1 1 (u32s [ry]) rfl ⟨rfl, fun _ => ⟨_, rfl, by simp, cell_one_new _ _ _⟩⟩ (one_u32 _) (by simp only [maxLen]; omega) (by omega) HKa.out.low.size ?_
          intro v10 w10 hown10 hgrow10 hat10
          obtain ⟨A10, c10, rfl⟩ := own_val hown10
          have HP := Lib.hid (show Blk w10 g5 32 #[.slice (some ⟨gW, 0, none⟩) h.words.length cW, .slice Av i cv] ∧ RnM w (w10.setCell ⟨g5, 1, none⟩ (.slice A10 (i + 1) c10)) (renO pl) h.words (namesFrom 1 l) A (some adr) c h.roots.length c' g5 gW cW (.slice A10 (i + 1) c10) (rs ++ [ry]) from by
            have hh := HK9.out.push (y := ry) (Aa := A10) (ca := c10) (by rw [HRL.out]; exact hown10) hgrow10
            rw [HRL.out] at hh
            exact hh)
          have hSb : w10.cell? ⟨g5, 1, none⟩ = some (.slice Av i cv) ∧ True := ⟨HP.out.1.cell 1, trivial⟩
          have cSb := HP.out.1.cell 1
          have zSb := HP.out.1.frozen 1
          clear hown10 hgrow10 hat10 HKa HK9 hSa
          refine hK _ _ (fun _ => hSb) ?_
          clear hK K
          try simp only [Act.put, List.setIfInBounds_toArray, List.set_cons_zero, List.set_cons_succ]
          clear hS
          have hS := hSb
          refine U_read 7 (v := (.pointer (some ⟨g5, 1, none⟩))) rfl (by kernel_rfl) (fun _ _ _ h => h) hS (by kernel_rfl) (fun w' hw' => by obtain ⟨h0, -⟩ := hw'; go_simp) ?_
          try simp only [Act.put, List.setIfInBounds_toArray, List.set_cons_zero, List.set_cons_succ]
          refine U_one 8 (by kernel_rfl) rfl rfl (fun K hK => ?_)
          go_simp
          refine hK _ _ (fun h => absurd h (by decide)) ?_
          clear hK K
          try simp only [Act.put, List.setIfInBounds_toArray, List.set_cons_zero, List.set_cons_succ]
          refine U_done (by kernel_rfl) ?_ _
          simp only [Calm, Exit.then]
          clear hS hSb zSb cSb
          go_wp2_with fail
          go_roundw
          case rel => exact ⟨i + 1, .slice A10 (i + 1) c10, by go_num, HLT.out, by rw [HTK.out]; exact HP.out.2⟩
          case measure => have := HLT.out; simp [intOf]; omega
        · obtain rfl : i = h.roots.length := by omega
          obtain ⟨Av, cv, rfl⟩ := own_val HK.out.own
          have hrl : ((h.roots.take h.roots.length).map (renO pl)).length = h.roots.length := by rw [List.take_length, List.length_map]
          rw [hrl] at HK
          rw [List.take_length] at HK
          obtain ⟨x0, x1⟩ := cells2R HK.out.b5
          obtain ⟨y0, y1⟩ := cells2R HK.out.b4
          have z4 := HK.out.b4.fz
          have hk : ∀ k, k ≠ w.heap.size + 1 → ((wr.setCell ⟨w.heap.size + 1, 0, none⟩ (.slice (some ⟨gW, 0, none⟩) h.words.length cW)).setCell ⟨w.heap.size + 1, 1, none⟩ (.slice Av h.roots.length cv)).heap[k]? = wr.heap[k]? := fun k hk =>
            (Below.heap_setCell _ ⟨w.heap.size + 1, 1, none⟩ _ k hk).trans (Below.heap_setCell wr ⟨w.heap.size + 1, 0, none⟩ _ k hk)
          have BF := (HK.out.b4.set_ 0 (.slice (some ⟨gW, 0, none⟩) h.words.length cW)).set_ 1 (.slice Av h.roots.length cv)
          have hrow := HK.out.row.same (hk _ (HK.out.row.ne_blk HK.out.b4 (by decide)))
          have hown := own_keep HK.out.own (fun q hq => hk q (fun e => own_ne_blk HK.out.own HK.out.b4 (by decide) (e ▸ hq)))
          have hlow : Below w.heap.size w ((wr.setCell ⟨w.heap.size + 1, 0, none⟩ (.slice (some ⟨gW, 0, none⟩) h.words.length cW)).setCell ⟨w.heap.size + 1, 1, none⟩ (.slice Av h.roots.length cv)) :=
            (HK.out.low.setCell (p := ⟨w.heap.size + 1, 0, none⟩) (by show w.heap.size ≤ w.heap.size + 1; omega) _).setCell (p := ⟨w.heap.size + 1, 1, none⟩) (by show w.heap.size ≤ w.heap.size + 1; omega) _
          have HF := Lib.hid (And.intro hrow (And.intro hown hlow))
          have f0 := BF.cell 0
          have f1 := BF.cell 1
          clear hlt hi hrl hk BF hrow hown hlow
          go_wp2_with fail
          generalize (wr.setCell ⟨w.heap.size + 1, 0, none⟩ (.slice (some ⟨gW, 0, none⟩) h.words.length cW)).setCell ⟨w.heap.size + 1, 1, none⟩ (.slice Av h.roots.length cv) = wz at *
          have f0' : wz.cell? ⟨w.heap.size + 1, 0, none⟩ = some (.slice (some ⟨gW, 0, none⟩) h.words.length cW) := f0
          have f1' : wz.cell? ⟨w.heap.size + 1, 1, none⟩ = some (.slice Av h.roots.length cv) := f1
          have HP := Lib.hid (show RenP (renO pl) h l w (.returned (.agg #[.slice (some ⟨gW, 0, none⟩) h.words.length cW, .slice Av h.roots.length cv])) wz from by
            refine ⟨gW, cW, Av, h.roots.length, cv, rfl, ?_, ?_, rfl, HF.out.2.2⟩
            · have h1 := HF.out.1.reads HF.out.1.lt
              rw [u32s_len, mapAt_len] at h1
              have e : mapAt (renO pl) h.words (namesFrom 1 l) = (renH (renO pl) h l).words := by
                rw [HW.out]
                exact mapAt_all _ _
              rw [e] at h1
              exact h1
            · have h2 := HF.out.2.1
              rw [List.length_map] at h2
              obtain ⟨g2, c2, e2, r2, _, _⟩ := Row.of_any h2 (by have := HLR.out.2.2.2; omega)
              cases e2
              have h3 := r2.reads r2.lt
              rw [u32s_len, List.length_map] at h3
              exact h3)
          clear HF f0 f1 x0 x1 y0 y1 z4
          refine bodyPost_ret (v := .agg #[.slice (some ⟨gW, 0, none⟩) h.words.length cW, .slice Av h.roots.length cv]) (by simp [results, Tryz.results11, go_sem, f0', f1']) rfl ?_
          exact HP.out
end
end Go.Proofs.YtblekggklimpeaaGreatDoor
