/- The document's Objects. -/
/- The document's Walk. -/
/- The document's Live. -/
/- The document's Is. -/
/- What the document's Collect goes through. Plain data. -/
/- The document's Plan. -/
/- The document's moved. -/
/- The document's Collect. -/
/- CollectLives, walked: it answers true. -/
/- CollectCollects, walked: it answers true. -/
/- The document's Instances and Refs. -/
/- The program's Instances. -/
import Derived.Test.YtblekggklimpeaaGreatDoorJKBuilt
import Derived.Test.YtblekggklimpeaaGreatDoorJUntil
import Derived.Test.YtblekggklimpeaaGreatDoorJSoAll
import Derived.Test.YtblekggklimpeaaGreatDoorJKLay
import Derived.Test.YtblekggklimpeaaGreatDoorJKCol
import Derived.Test.YtblekggklimpeaaGreatDoorJKRenM
import Derived.Deep.RegionHeld3
import Derived.BigQuiet
set_option linter.unusedVariables false
set_option linter.unusedSimpArgs false
set_option linter.unusedSectionVars false
namespace Go.Proofs.YtblekggklimpeaaGreatDoor
open Go.RowKit
attribute [local go_sem] Oper.semAt_some
theorem wrK {n : Nat} (h : n ≤ 1048576) : wrap64 (n : Int) = (n : Int) := IntWalk.wrap64_in _ (by omega)
theorem wrK3 {n : Nat} (h : n ≤ 1048576) : wrap64 ((n : Int) + 3) = (n : Int) + 3 := IntWalk.wrap64_in _ (by omega)
theorem wrK4 {n : Nat} (h : n ≤ 1048576) : wrap64 (3 + (n : Int)) = 3 + (n : Int) := IntWalk.wrap64_in _ (by omega)
theorem wrK5 {a n : Nat} (h : a + 3 + n ≤ 1048576) : wrap64 ((a : Int) + (3 + (n : Int))) = (a : Int) + (3 + (n : Int)) := IntWalk.wrap64_in _ (by omega)
theorem leK {a b : Nat} (h : a + 3 ≤ b) : decide ((a : Int) + 3 ≤ (b : Int)) = true := decide_eq_true (by omega)
theorem measK {a f n : Nat} (h : a + 3 + f ≤ n) : n + 3 - ((a : Int) + (3 + (f : Int))).toNat < n + 3 - ((a : Int)).toNat := by omega
theorem posK {a f p : Nat} (h : p = a + (3 + f)) : (a : Int) + (3 + (f : Int)) = (p : Int) := by omega
theorem ltK {n : Nat} : decide ((n : Int) + 3 ≤ (n : Int)) = false := decide_eq_false (by omega)
theorem idxL_len (l : List Ob) : (idxL l).length = l.length := by unfold idxL; simp
theorem idxL_take (l : List Ob) {k : Nat} (hk : k < l.length) : (idxL l).take (k + 1) = (idxL l).take k ++ [posOf (l.take k)] := by
  rw [List.take_add_one, List.getElem?_eq_getElem (by rw [idxL_len]; exact hk)]
  unfold idxL
  simp
section
variable {w : World} {h : HM} {l : List Ob} {A A' : Option Addr} {n c n' c' : Nat}
/-- What Objects answers. -/
def IntsP (xs : List Nat) (w : World) (e : Ending) (w' : World) : Prop :=
  ∃ v, e = .returned v ∧ w'.ownsRow w.heap.size 3 1 v xs.length (ints xs) ∧ Below w.heap.size w w'
set_option maxRecDepth 100000 in
set_option maxHeartbeats 4000000 in
theorem robjects_any (G : h.Good l) (hr : Reads w w.heap.size 1 A n (u32s h.words)) :
    Calls Tryz.prog 36 #[StV A n c A' n' c'] w (IntsP (idxL l) w) := by
  have hln : n = h.words.length := by have := hr.1; rw [u32s_len] at this; omega
  subst hln
  have hwl : h.words.length ≤ 1048576 := by have := G.fit.room; have := G.fit.hi; omega
  have hBX := (Below.refl w.heap.size w).alloc (Nat.le_refl _) (.cells #[.slice A h.words.length c, .slice A' n' c'] 32)
  have HB := Lib.hid hBX
  have HX := Lib.hid (Blk.new w 32 #[.slice A h.words.length c, .slice A' n' c'])
  have HR := Lib.hid ((hr.below hBX).more hBX.size)
  have HG := Lib.hid G
  have hl2 : l.length ≤ 1048576 := by have h1 := oopsL_le G; rw [oopsL_len] at h1; exact h1
  have HEND := Lib.hid (show posOf (l.take l.length) = h.words.length by rw [List.take_length, G.laid.words, List.length_cons]; unfold posOf; omega)
  obtain ⟨i0, hi0, hz0, hz1, hz2⟩ := info_parts info_intK
  clear hBX hr G
  unfold StV
  go_enter Tryz.func36, Tryz.ntmps36
  go_wp2_with fail
  have hw1 : w.heap.size < (w.alloc (.cells #[.slice A h.words.length c, .slice A' n' c'] 32)).heap.size := by simp
  generalize w.alloc (.cells #[.slice A h.words.length c, .slice A' n' c'] 32) = W1 at *
  go_loopw [3, 4] (fun lv iv wr => ∃ k : Nat, k ≤ l.length ∧ iv = .int .i64 (posOf (l.take k) : Nat) ∧ wr.ownsRow W1.heap.size 3 1 lv k (ints ((idxL l).take k)) ∧ Below W1.heap.size W1 wr) (fun _ iv _ => h.words.length + 3 - (intOf iv).toNat)
  case atStart => exact ⟨0, by omega, rfl, ⟨rfl, .inl ⟨rfl, rfl⟩⟩, Below.refl _ _⟩
  case round =>
    obtain ⟨k, hk, rfl, hown, hb⟩ := hrel
    have HOW := Lib.hid hown
    have HBR := Lib.hid hb
    clear hown hb
    have x0 := (HX.out.below HBR.out HX.out.lt).cell 0
    by_cases hlt : k < l.length
    · obtain ⟨h0, h1, -, h3⟩ := w0_parts HG.out hlt
      have hps : posOf (l.take (k + 1)) = posOf (l.take k) + (3 + (l[k]).fs.length) := by
        unfold posOf
        rw [List.take_add_one, List.getElem?_eq_getElem hlt, wsOf_app, List.length_append, Option.toList_some, wsOf_cons, wsOf_nil, List.append_nil, Ob.ws_len]
        omega
      have HPS := Lib.hid hps
      have HIX := Lib.hid (idxL_take l hlt)
      have hpl : posOf (l.take k) < h.words.length := by omega
      obtain ⟨ad, u, rfl, hbl, hu, hc1⟩ := HR.out.at_ hpl
      rw [u32s_get hpl, h0] at hu
      injection hu with hu
      subst hu
      have HCW := Lib.hid (show ∀ w' : World, Below W1.heap.size W1 w' → w'.cell? (ad.add (posOf (l.take k))) = some (.int .u32 ((l[k]).x.w0 : Int)) from fun w' hb => (World.cell?_of_block (a := ad.add (posOf (l.take k))) (by rw [block_of_add]; exact hb.block _ hbl)).trans hc1)
      have hc := HCW.out wr HBR.out
      clear hc1
      have HM := Lib.hid (show (((l[k]).x.w0 : Int)).tmod 16777216 = ((l[k]).fs.length : Int) by rw [← h1]; exact (Int.ofNat_tmod _ _).symm)
      have hB1 : W1.heap.size ≤ wr.heap.size := HBR.out.size
      clear h0 h1 hps
      generalize (idxL l).take k = xs at *
      generalize posOf (l.take k) = at_ at *
      generalize (l[k]).x.w0 = w0 at *
      generalize (l[k]).fs.length = fl at *
      have hw3 : wrap64 ((at_ : Int) + 3) = (at_ : Int) + 3 := wrK3 (Nat.le_trans (Nat.le_of_lt hpl) hwl)
      have hw4 : wrap64 (3 + (fl : Int)) = 3 + (fl : Int) := wrK4 (Nat.le_trans (Nat.le_trans (Nat.le_add_left _ _) h3) hwl)
      have hw5 : wrap64 ((at_ : Int) + (3 + (fl : Int))) = (at_ : Int) + (3 + (fl : Int)) := wrK5 (Nat.le_trans h3 hwl)
      have hfl : fl ≤ 1048576 := Nat.le_trans (Nat.le_trans (Nat.le_add_left _ _) h3) hwl
      have hw64 := wrK hfl
      have hd : decide ((at_ : Int) + 3 ≤ (h.words.length : Int)) = true := leK (Nat.le_trans (Nat.le_add_right _ _) h3)
      have hk2 : k ≤ 1048576 := Nat.le_trans hk hl2
      have HLT := Lib.hid hlt
      have HPL := Lib.hid hpl
      have HH3 := Lib.hid h3
      clear h3 hpl hbl hfl hlt hk
      go_wp2_with (at_builtin; refine wpList_append_any _ rfl (.tmp 11) (.tmp 13) _ rfl W1.heap.size 3 i0 _ 1 8 Tryz.underlying76 hi0 hz0 hz1 hz2 rfl (by omega) u3 k _ rfl (HOW.out.alloc _) (wr.heap.size + 1) (some ⟨wr.heap.size, 0, none⟩) 1 1 (ints [at_]) rfl ⟨rfl, fun _ => ⟨_, rfl, by simp, cell_one_new _ _ _⟩⟩ (one_intsK _) (by simp only [maxLen]; omega) (by omega) (by simp; omega) ?_; intro v1 w6 hown6 hgrow hat6; have hb6 := below_grown (Nat.le_refl _) (HBR.out.alloc HBR.out.size _) hgrow (fun q hq => (HOW.out.lt q hq).1); have y0 := (HX.out.below hb6 HX.out.lt).cell 0; have hc6 := HCW.out w6 hb6; have hm := HM.out; have hpl := HPL.out)
      go_roundw
      case rel => exact ⟨k + 1, HLT.out, by rw [hw5]; exact congrArg (Value.int .i64) (posK HPS.out), by rw [HIX.out, ints_appK]; exact hown6, hb6⟩
      case measure => rw [hw5]; exact measK HH3.out
    · obtain rfl : k = l.length := by omega
      have hE := HEND.out
      rw [hE]
      rw [List.take_of_length_le (by rw [idxL_len]; exact Nat.le_refl _)] at HOW
      have hw3 := wrK3 hwl
      have hd := ltK (n := h.words.length)
      clear hlt hk hE
      go_wp2_with fail
      go_ret
      refine ⟨_, rfl, by rw [idxL_len]; exact own_base HOW.out (Nat.le_of_lt hw1), (HB.out.trans (HBR.out.mono (Nat.le_of_lt hw1)))⟩
end
end Go.Proofs.YtblekggklimpeaaGreatDoor

namespace Go.Proofs.YtblekggklimpeaaGreatDoor
open Go.RowKit Go.Sort
attribute [local go_sem] Oper.semAt_some
theorem make_bool1 (n : Nat) (hn : n ≤ 1048576) (w : World) :
    (Instr.makeSlice 44 (.int .i64 ((n : Int) + 1)) (.int .i64 ((n : Int) + 1))).run Tryz.prog w = .ok (.slice (some ⟨w.heap.size, 0, none⟩) (n + 1) (n + 1)) (w.alloc (.cells (zcells (.bool false) (n + 1)) 4)) := by
  obtain ⟨i0, hi0, hz0, hz1, hz2⟩ := info_parts info_bool
  have := run_make_rowN (P := Tryz.prog) 44 4 i0 _ Tryz.underlying44 hi0 hz0 .i64 .i64 (n + 1) (n + 1) (Nat.le_refl _) (by rw [hz2]; omega) (by omega) w
  have e : madeCells (Value.bool false).cells ((n + 1) * 1) = zcells (.bool false) (n + 1) := by
    apply Array.ext
    · simp [madeCells, zcells, Value.cells]
    · intro i h1 h2
      simp [madeCells, zcells, Value.cells, Nat.mod_one]
  rw [hz1, e] at this
  rw [show ((n : Int) + 1) = ((n + 1 : Nat) : Int) by omega]
  exact this
/-- What Walk answers. -/
def RWalkP (h : HM) (fr : List Nat) (w : World) (e : Ending) (w' : World) : Prop :=
  ∃ vl vc, e = .returned (.tuple #[vl, vc]) ∧ w'.ownsRow w.heap.size 43 1 vl (walkM (heldM h) fr).length (u32s (metO (walkM (heldM h) fr))) ∧ w'.ownsRow w.heap.size 3 1 vc (walkM (heldM h) fr).length (zsK ((walkM (heldM h) fr).map (·.2))) ∧ Below w.heap.size w w'
theorem wrU {q : Nat} (h : q ≤ 1048576) : IntKind.u32.wrap (q : Int) = (q : Int) := IntWalk.u32_in _ (by omega)
theorem wrI {q : Nat} (h : q ≤ 1048576) : IntKind.i64.wrap (q : Int) = (q : Int) := IntWalk.i64_in _ (by omega)
theorem tdiv2q (q : Nat) : ((2 * q : Nat) : Int).tdiv 2 = (q : Int) := by rw [Int.tdiv_eq_ediv_of_nonneg (by omega)]; omega
theorem div2q (q : Nat) : ((2 * q : Nat) : Int) / 2 = (q : Int) := by omega
theorem putsW_len (l : Wk) (os : List Nat) (b : Int) : (putsW l os b).length ≤ l.length + os.length := by
  induction os generalizing l with
  | nil => simp [putsW]
  | cons a q ih =>
    rw [putsW_cons]
    have h1 := ih (l := putW l a b)
    have h2 : (putW l a b).length ≤ l.length + 1 := by unfold putW; split <;> simp
    simp only [List.length_cons]
    omega
theorem putsW_take (l : Wk) (os : List Nat) (b : Int) {k : Nat} (hk : k < os.length) : putsW l (os.take (k + 1)) b = putW (putsW l (os.take k) b) (os.getD k 0) b := by
  rw [List.take_add_one, List.getElem?_eq_getElem hk, List.getD_eq_getElem?_getD, List.getElem?_eq_getElem hk]
  exact putsW_snoc _ _ _ _
section
variable {h : HM} {l : List Ob}
theorem isB_half (G : h.Good l) {o : Nat} (hi : h.isB o = true) : o / 2 < h.words.length + 1 := by
  obtain ⟨a, b, c, rfl, rfl⟩ := (G.laid.isB_iff o).1 hi
  have := G.laid.words_len
  omega
theorem isB_k (G : h.Good l) {o : Nat} (hi : h.isB o = true) : ∃ k, ∃ hk : k < l.length, o = 2 * posOf (l.take k) := by
  have hm := isB_mem G hi
  unfold oopsL at hm
  obtain ⟨k, hk, rfl⟩ := List.mem_map.1 hm
  exact ⟨k, List.mem_range.1 hk, rfl⟩
theorem valB_isB {o : Nat} (hv : h.valB o = true) (hk : kindM o = 2) : h.isB o = true := by
  unfold HM.valB objB at hv
  simpa [hk] using hv
end
section
variable {h : HM} {l : List Ob}
theorem held_len (G : h.Good l) {k : Nat} (hk : k < l.length) : (heldM h (2 * posOf (l.take k))).length = holdN (posOf (l.take k)) l[k] := by
  rw [← num_held G hk, List.length_map, List.length_take]
  exact Nat.min_eq_left (holdN_le _ _)
theorem held_at (G : h.Good l) {k : Nat} (hk : k < l.length) {j : Nat} (hj : j < (heldM h (2 * posOf (l.take k))).length) :
    ∃ x, (nmsK (posOf (l.take k)) l[k])[j]? = some x ∧ x < h.words.length ∧ h.words.getD x 0 = (heldM h (2 * posOf (l.take k))).getD j 0 := by
  have hl := held_len G hk
  have hle := holdN_le (posOf (l.take k)) l[k]
  have hjn : j < (nmsK (posOf (l.take k)) l[k]).length := by omega
  refine ⟨(nmsK (posOf (l.take k)) l[k])[j], List.getElem?_eq_getElem hjn, ?_, ?_⟩
  · have h1 := (nmsK_get (List.getElem?_eq_getElem hjn)).2.1
    have h2 := (w0_parts G hk).2.2.2
    omega
  · have h0 := num_held G hk
    rw [List.getD_eq_getElem?_getD (l := heldM h (2 * posOf (l.take k))), ← h0, List.getElem?_map, List.getElem?_take_of_lt (by omega), List.getElem?_eq_getElem hjn]
    rfl
theorem held_isB (G : h.Good l) {k : Nat} (hk : k < l.length) {x : Nat} (hx : x ∈ heldM h (2 * posOf (l.take k))) : x < 4294967296 ∧ (kindM x = 2 → h.isB x = true) := by
  have hi : h.isB (2 * posOf (l.take k)) = true := (G.laid.isB_iff _).2 ⟨l.take k, l[k], l.drop (k + 1), split_at l k hk, rfl⟩
  exact ⟨names_32 G hi x (held_names hx), fun h2 => names_isB G hi (held_names hx) h2⟩
theorem getD_mem' {xs : List Nat} {j : Nat} (hj : j < xs.length) : xs.getD j 0 ∈ xs := by
  rw [List.getD_eq_getElem?_getD, List.getElem?_eq_getElem hj]; exact List.getElem_mem _
theorem ints_atK {xs : List Nat} {j x : Nat} (h : xs[j]? = some x) : (ints xs)[j]? = some (.int .i64 (x : Int)) := by
  unfold ints; rw [List.getElem?_map, h]; rfl
end
section
variable {w : World} {h : HM} {l : List Ob} {A A' Af : Option Addr} {n c n' c' nf cf : Nat}
end
end Go.Proofs.YtblekggklimpeaaGreatDoor

namespace Go.Proofs.YtblekggklimpeaaGreatDoor
open Go.RowKit Go.Sort
attribute [local go_sem] Oper.semAt_some
/-- The live ones among the first k. -/
def livK (W : List Nat) (l : List Ob) (k : Nat) : List Nat := (((idxL l).take k).filter (fun i => decide (2 * i ∈ W))).map (2 * ·)
theorem livK_zero (W : List Nat) (l : List Ob) : livK W l 0 = [] := rfl
theorem livK_yes {W : List Nat} {l : List Ob} {k : Nat} (hk : k < l.length) (h : 2 * posOf (l.take k) ∈ W) : livK W l (k + 1) = livK W l k ++ [2 * posOf (l.take k)] := by
  unfold livK
  rw [idxL_take l hk, List.filter_append, List.map_append, List.filter_cons, if_pos (by simpa using h)]
  rfl
theorem livK_no {W : List Nat} {l : List Ob} {k : Nat} (hk : k < l.length) (h : ¬ 2 * posOf (l.take k) ∈ W) : livK W l (k + 1) = livK W l k := by
  unfold livK
  rw [idxL_take l hk, List.filter_append, List.map_append, List.filter_cons, if_neg (by simpa using h)]
  simp
theorem livK_len (W : List Nat) (l : List Ob) (k : Nat) : (livK W l k).length ≤ k := by
  unfold livK
  rw [List.length_map]
  have h1 := List.length_filter_le (fun i => decide (2 * i ∈ W)) ((idxL l).take k)
  have h2 := List.length_take_le k (idxL l)
  omega
theorem livK_all (h : HM) (l : List Ob) : livK (metO (walkM (heldM h) h.roots)) l l.length = liveO h l := by
  unfold livK liveO
  rw [List.take_of_length_le (by rw [idxL_len]; exact Nat.le_refl _)]
  have e : oopsL l = (idxL l).map (2 * ·) := by unfold oopsL idxL; rw [List.map_map]; rfl
  rw [e, List.filter_map]
  rfl
theorem idxL_get {l : List Ob} {k : Nat} (hk : k < l.length) : (idxL l)[k]? = some (posOf (l.take k)) := by
  unfold idxL
  rw [List.getElem?_map, List.getElem?_range hk]
  rfl
theorem wrM2 {q : Nat} (h : q ≤ 1048576) : wrap64 (2 * (q : Int)) = 2 * (q : Int) := IntWalk.wrap64_in _ (by omega)
theorem wrU2 {q : Nat} (h : q ≤ 1048576) : IntKind.u32.wrap (2 * (q : Int)) = 2 * (q : Int) := IntWalk.u32_in _ (by omega)
section
variable {w : World} {h : HM} {l : List Ob} {A A' : Option Addr} {n c n' c' : Nat}
end
end Go.Proofs.YtblekggklimpeaaGreatDoor

namespace Go.Proofs.YtblekggklimpeaaGreatDoor
open Go.RowKit Go.Sort
attribute [local go_sem] Oper.semAt_some
theorem isB_kindK {h : HM} {l : List Ob} (G : h.Good l) {o : Nat} (hi : h.isB o = true) : kindM o = 2 := isB_kind hi
section
variable {w : World} {h : HM} {l : List Ob} {A A' : Option Addr} {n c n' c' : Nat}
set_option maxRecDepth 100000 in
set_option maxHeartbeats 4000000 in
theorem ris_any (G : h.Good l) (hr : Reads w w.heap.size 1 A n (u32s h.words)) {o : Nat} (ho : o < 4294967296) :
    Calls Tryz.prog 28 #[StV A n c A' n' c', .int .u32 o] w (Told (.bool (h.isB o)) w) := by
  have hX := Blk.new w 32 #[.slice A n c, .slice A' n' c']
  have hB := (Below.refl w.heap.size w).alloc (Nat.le_refl _) (.cells #[.slice A n c, .slice A' n' c'] 32)
  have HOB := Lib.hid (robjects_any (A' := A') (n' := n') (c' := c') (c := c) G ((hr.below hB).more hB.size))
  have HKD := Lib.hid (fun w' => rkind_any o ho w')
  have x0 := hX.cell 0
  have x1 := hX.cell 1
  have HB := Lib.hid hB
  have hl2 : l.length ≤ 1048576 := by have h1 := oopsL_le G; rw [oopsL_len] at h1; exact h1
  have HG := Lib.hid G
  clear hX hB hr G
  unfold StV at HOB ⊢
  by_cases hk : kindM o = 2
  · have HK2 := Lib.hid hk
    rw [hk] at HKD
    have hq : ((o : Int)).tdiv 2 = ((o / 2 : Nat) : Int) := by rw [Int.tdiv_eq_ediv_of_nonneg (by omega)]; omega
    have hq2 : ((o : Int)) / 2 = ((o / 2 : Nat) : Int) := by omega
    have hwi : IntKind.i64.wrap ((o / 2 : Nat) : Int) = ((o / 2 : Nat) : Int) := IntWalk.i64_in _ (by omega)
    have HO2 := Lib.hid (kind2 hk).1
    have HQQ := Lib.hid (And.intro hq (And.intro hq2 hwi))
    clear hk hq hq2 hwi
    generalize o / 2 = i at *
    go_enter Tryz.func28, Tryz.ntmps28
    go_wp2_with fail
    generalize w.alloc (.cells #[.slice A n c, .slice A' n' c'] 32) = w1 at *
    refine (HKD.out _).mono ?_
    rintro e w1' ⟨rfl, rfl⟩
    go_wp2_with fail
    refine HOB.out.mono ?_
    rintro e w2 ⟨v2, rfl, hown, hb2⟩
    have HOW := Lib.hid hown
    have HB2 := Lib.hid (below_top HB.out hb2)
    obtain ⟨Ai, ci, hvi⟩ := own_val hown
    subst hvi
    rw [idxL_len] at *
    clear hown hb2 HOB x0 x1 HKD
    go_wp2_with fail
    go_loopw [13] (fun jv wr => ∃ j : Nat, jv = .int .i64 j ∧ j ≤ l.length ∧ (∀ q, q < j → posOf (l.take q) ≠ i) ∧ wr = w2) (fun jv _ => l.length - (intOf jv).toNat)
    case atStart => exact ⟨0, rfl, Nat.zero_le _, fun q hq => absurd hq (Nat.not_lt_zero _), rfl⟩
    case round =>
      obtain ⟨j, rfl, hj, hno, hww⟩ := hrel
      have HNO := Lib.hid hno
      have HWW := Lib.hid hww
      clear hno hww
      by_cases hlt : j < l.length
      · obtain ⟨gv, cv, hvv, hrv, _, hgv⟩ := Row.of_any HOW.out (by omega)
        have hcl := hrv.cell (ints_atK (idxL_get hlt))
        rw [← HWW.out] at hcl
        have HLT := Lib.hid hlt
        have HYES := Lib.hid (fun (e : posOf (l.take j) = i) => show h.isB o = true from by
          have := (HG.out.laid.isB_iff (2 * posOf (l.take j))).2 ⟨l.take j, l[j], l.drop (j + 1), split_at l j hlt, rfl⟩
          rw [e, ← HO2.out] at this
          exact this)
        have HNX := Lib.hid (fun (e : posOf (l.take j) ≠ i) => show ∀ q, q < j + 1 → posOf (l.take q) ≠ i from fun q hq => by
          by_cases h : q = j
          · rw [h]; exact e
          · exact HNO.out q (by omega))
        cases hvv
        clear hrv
        generalize posOf (l.take j) = x at *
        obtain ⟨hq, hq2, hwi⟩ := HQQ.out
        by_cases hx : x = i
        · have hy := HYES.out hx
          rw [hy]
          subst hx
          clear hy
          go_wp2_with fail
          go_ret
          exact ⟨rfl, by rw [HWW.out]; exact HB2.out⟩
        · have hne : ((x : Int) == (i : Int)) = false := by simp; omega
          have HN := Lib.hid (HNX.out hx)
          clear hx
          go_wp2_with fail
          go_roundw
          case rel => exact ⟨j + 1, by go_num, HLT.out, HN.out, HWW.out⟩
          case measure => have := HLT.out; simp [intOf]; omega
      · obtain rfl : j = l.length := by omega
        have hf : h.isB o = false := by
          cases hi : h.isB o
          · rfl
          · obtain ⟨k, hk, he⟩ := isB_k HG.out hi
            have h1 := HNO.out k hk
            have h2 := HO2.out
            omega
        have HFF := Lib.hid hf
        clear hf hlt hj
        go_wp2_with fail
        go_ret
        exact ⟨by rw [HFF.out]; rfl, by rw [HWW.out]; exact HB2.out⟩
  · have hf : h.isB o = false := by
      cases hi : h.isB o
      · rfl
      · exact absurd (isB_kind hi) hk
    rw [hf]
    have e2 : ((kindM o : Int) != 2) = true := by simp; omega
    clear hk hf
    generalize kindM o = k at *
    go_enter Tryz.func28, Tryz.ntmps28
    go_wp2_with fail
    generalize w.alloc (.cells #[.slice A n c, .slice A' n' c'] 32) = w1 at *
    refine (HKD.out _).mono ?_
    rintro e w1' ⟨rfl, rfl⟩
    go_wp2_with fail
    go_ret
    exact ⟨rfl, HB.out⟩
end
end Go.Proofs.YtblekggklimpeaaGreatDoor

namespace Go.Proofs.YtblekggklimpeaaGreatDoor
open Go.RowKit
theorem goesM_snoc {pl : List (Nat × Nat)} {p : Nat × Nat} (hn : p.1 ∉ pl.map (·.1)) (x : Nat) : goesM (pl ++ [p]) x = if x = p.1 then p.2 else goesM pl x := by
  by_cases h : x = p.1
  · subst h
    have h0 : pl.find? (fun q => q.1 == p.1) = none := by
      rw [List.find?_eq_none]
      intro q hq he
      exact hn (List.mem_map.2 ⟨q, hq, by simpa using he⟩)
    unfold goesM
    rw [List.find?_append, h0, if_pos rfl]
    simp
  · rw [if_neg h]
    unfold goesM
    rw [List.find?_append]
    have h1 : ([p] : List (Nat × Nat)).find? (fun q => q.1 == x) = none := by simp; exact fun e => h e.symm
    rw [h1, Option.or_none]
/-- The table of where each goes. -/
def toL (pl : List (Nat × Nat)) (N : Nat) : List Nat := (List.range N).map (fun i => goesM pl (2 * i))
theorem toL_len (pl : List (Nat × Nat)) (N : Nat) : (toL pl N).length = N := by simp [toL]
theorem toL_get (pl : List (Nat × Nat)) {N i : Nat} (hi : i < N) : (u32s (toL pl N))[i]? = some (.int .u32 (goesM pl (2 * i) : Nat)) := by
  unfold u32s toL
  rw [List.getElem?_map, List.getElem?_map, List.getElem?_range hi]
  rfl
theorem toL_nil (N : Nat) : toL [] N = List.replicate N 0 := by
  unfold toL
  apply List.ext_getElem
  · simp
  · intro i h1 h2
    simp [goesM]
theorem toL_set {pl : List (Nat × Nat)} {p : Nat × Nat} (hn : p.1 ∉ pl.map (·.1)) {i : Nat} (hi : p.1 = 2 * i) (N : Nat) : (u32s (toL pl N)).set i (.int .u32 (p.2 : Nat)) = u32s (toL (pl ++ [p]) N) := by
  unfold u32s toL
  apply List.ext_getElem
  · simp
  · intro j h1 h2
    rw [List.getElem_set]
    simp only [List.getElem_map, List.getElem_range]
    rw [goesM_snoc hn]
    by_cases h : i = j
    · subst h
      rw [if_pos rfl, if_pos hi.symm]
    · rw [if_neg h, if_neg (by omega)]
/-- An object's words, its first j names moved. -/
def stepO (pl : List (Nat × Nat)) (void : Nat) (b : Ob) (j : Nat) : List Nat := b.x.w0 :: (if 0 < j then whereM pl b.x.cls else b.x.cls) :: b.x.ser :: ((b.fs.take (j - 1)).map (fldM pl void) ++ b.fs.drop (j - 1))
def clrJ (pl : List (Nat × Nat)) (b : Ob) (j : Nat) : Nat := ((b.fs.take (j - 1)).filter (deadB pl)).length
def nameV (b : Ob) (j : Nat) : Nat := if j = 0 then b.x.cls else b.fs.getD (j - 1) 0
def newV (pl : List (Nat × Nat)) (void : Nat) (b : Ob) (j : Nat) : Nat := if j = 0 then whereM pl b.x.cls else fldM pl void (b.fs.getD (j - 1) 0)
section
variable {pl : List (Nat × Nat)} {void : Nat} {b : Ob}
theorem stepO_zero : stepO pl void b 0 = b.ws := by unfold stepO Ob.ws; simp
theorem stepO_len (j : Nat) : (stepO pl void b j).length = 3 + b.fs.length := by
  unfold stepO
  simp
  omega
theorem stepO_set {j : Nat} (hj : j ≤ b.fs.length) : (stepO pl void b j).set (if j = 0 then 1 else 2 + j) (newV pl void b j) = stepO pl void b (j + 1) := by
  cases j with
  | zero => unfold stepO newV; simp
  | succ j =>
    have hj' : j < b.fs.length := by omega
    rw [if_neg (by omega), show 2 + (j + 1) = j + 3 by omega]
    unfold stepO newV
    rw [if_pos (Nat.succ_pos _), if_pos (Nat.succ_pos _), if_neg (by omega)]
    simp only [Nat.add_sub_cancel, List.set_cons_succ]
    congr 3
    rw [List.set_append_right _ _ (by simp; omega), List.drop_eq_getElem_cons hj', List.length_map, List.length_take, show j - min j b.fs.length = 0 by omega, List.set_cons_zero, List.take_add_one, List.getElem?_eq_getElem hj', List.getD_eq_getElem?_getD, List.getElem?_eq_getElem hj']
    simp
    rw [List.take_add_one, List.getElem?_map, List.getElem?_eq_getElem hj']
    simp
theorem stepO_end (p : Nat) (b : Ob) : stepO pl void b (nmsK p b).length = (relob pl void b).ws := by
  unfold nmsK
  rw [fldL_len]
  unfold stepO relob Ob.ws
  by_cases hp : b.x.ptrB = true
  · simp [hp]
    rfl
  · simp [hp]
    rfl
theorem clrJ_zero : clrJ pl b 0 = 0 := by simp [clrJ]
theorem clrJ_end (p : Nat) (b : Ob) : clrJ pl b (nmsK p b).length = clearedB pl b := by
  unfold nmsK
  rw [fldL_len]
  unfold clrJ clearedB
  by_cases hp : b.x.ptrB = true
  · simp [hp]
  · simp [hp]
theorem clrJ_le (j : Nat) : clrJ pl b j ≤ b.fs.length := by
  unfold clrJ
  have h1 := List.length_filter_le (deadB pl) (b.fs.take (j - 1))
  rw [List.length_take] at h1
  omega
theorem clrJ_step {j : Nat} (hj : j ≤ b.fs.length) : clrJ pl b (j + 1) = clrJ pl b j + (if j ≠ 0 ∧ deadB pl (b.fs.getD (j - 1) 0) = true then 1 else 0) := by
  cases j with
  | zero => simp [clrJ]
  | succ j =>
    have hj' : j < b.fs.length := by omega
    unfold clrJ
    simp only [Nat.add_sub_cancel]
    rw [List.take_add_one, List.getElem?_eq_getElem hj', List.filter_append, List.length_append, List.getD_eq_getElem?_getD, List.getElem?_eq_getElem hj']
    by_cases hd : deadB pl b.fs[j] = true
    · simp [hd]
    · simp [hd]
end
section
variable {h : HM} {l : List Ob}
theorem nmsK_gets {p : Nat} {b : Ob} {j : Nat} (hj : j < (nmsK p b).length) : (nmsK p b)[j]? = some (nmsK p b)[j] ∧ (nmsK p b)[j] = p + (if j = 0 then 1 else 2 + j) := by
  refine ⟨List.getElem?_eq_getElem hj, ?_⟩
  have := (nmsK_get (List.getElem?_eq_getElem hj)).2.2
  rw [this]
  split <;> omega
theorem nms_at (G : h.Good l) {k : Nat} (hk : k < l.length) {j : Nat} (hj : j < (nmsK (posOf (l.take k)) l[k]).length) :
    ∃ x, (nmsK (posOf (l.take k)) l[k])[j]? = some x ∧ x < h.words.length ∧ h.words.getD x 0 = nameV l[k] j ∧ x = posOf (l.take k) + (if j = 0 then 1 else 2 + j) ∧ j ≤ (l[k]).fs.length := by
  have hg := nmsK_gets hj
  obtain ⟨h1, h2⟩ := hg
  have h3 := (w0_parts G hk).2.2.2
  have hjl : j ≤ (l[k]).fs.length := by have := nmsK_len (posOf (l.take k)) l[k]; omega
  refine ⟨_, h1, ?_, ?_, h2, hjl⟩
  · rw [h2]; split <;> omega
  · rw [h2]
    unfold nameV
    by_cases h0 : j = 0
    · rw [if_pos h0, if_pos h0]; exact cls_words G hk
    · rw [if_neg h0, if_neg h0, show posOf (l.take k) + (2 + j) = posOf (l.take k) + 3 + (j - 1) by omega]
      exact fld_words G hk (by omega)
theorem keep_dead (G : h.Good l) {p : Nat × Ob} (hp : p ∈ keepZ h l) (h1 : p.2.x.fmt = 1) {x : Nat} (hx : x ∈ p.2.fs) : deadB (planM h l) x = false := by
  unfold deadB
  refine decide_eq_false (fun hd => hd.2 ?_)
  rw [planM_fst]
  refine live_of_held G hp ?_ hd.1
  rw [keepZ_held G hp, if_pos h1]
  exact List.mem_cons.2 (.inr hx)
theorem goes_zero {x : Nat} : goesM (planM h l) x = 0 ↔ x ∉ (planM h l).map (·.1) := by
  constructor
  · intro h0 hm
    rw [planM_fst] at hm
    obtain ⟨k, hk, e⟩ := goes_live h l hm
    rw [e] at h0
    unfold posOf at h0
    omega
  · exact goesM_no
theorem fld_live {pl : List (Nat × Nat)} {void x : Nat} (hd : deadB pl x = false) : fldM pl void x = whereM pl x := by
  unfold deadB at hd
  unfold fldM
  rw [if_neg (of_decide_eq_false hd)]
theorem fld_dead {pl : List (Nat × Nat)} {void x : Nat} (hd : deadB pl x = true) : fldM pl void x = void := by
  unfold deadB at hd
  unfold fldM
  rw [if_pos (of_decide_eq_true hd)]
theorem new_cases (G : h.Good l) {p : Nat × Ob} (hp : p ∈ keepZ h l) {q j : Nat} (hj : j < (nmsK q p.2).length) (hjl : j ≤ p.2.fs.length) (void : Nat) :
    (¬ (holdN q p.2 ≤ j ∧ kindM (nameV p.2 j) = 2 ∧ whereM (planM h l) (nameV p.2 j) = 0) → newV (planM h l) void p.2 j = whereM (planM h l) (nameV p.2 j) ∧ clrJ (planM h l) p.2 (j + 1) = clrJ (planM h l) p.2 j) ∧
      (holdN q p.2 ≤ j ∧ kindM (nameV p.2 j) = 2 ∧ whereM (planM h l) (nameV p.2 j) = 0 → newV (planM h l) void p.2 j = void ∧ clrJ (planM h l) p.2 (j + 1) = clrJ (planM h l) p.2 j + 1) := by
  rw [clrJ_step hjl]
  by_cases h0 : j = 0
  · subst h0
    have h1 : 1 ≤ holdN q p.2 := by
      unfold holdN
      have := nmsK_pos q p.2
      split <;> omega
    refine ⟨fun _ => ⟨by simp [newV, nameV], by simp⟩, fun hh => absurd hh.1 (by omega)⟩
  · have hx : p.2.fs.getD (j - 1) 0 ∈ p.2.fs := by
      rw [List.getD_eq_getElem?_getD, List.getElem?_eq_getElem (by omega)]
      exact List.getElem_mem _
    unfold newV nameV
    rw [if_neg h0, if_neg h0]
    generalize p.2.fs.getD (j - 1) 0 = x at *
    have hb : p.2.x.fmt = 1 ∨ p.2.x.fmt = 4 := Classical.byContradiction fun hn => by
      rw [nmsK_no (fun e => hn (.inl e)) (fun e => hn (.inr e))] at hj
      simp at hj
      omega
    rcases hb with hb | hb
    · have hd := keep_dead G hp hb hx
      refine ⟨fun _ => ⟨fld_live hd, by simp [hd]⟩, fun hh => ?_⟩
      have h1 := hh.1
      unfold holdN at h1
      rw [if_neg (by omega)] at h1
      omega
    · have hh1 : holdN q p.2 ≤ j := by unfold holdN; rw [if_pos hb]; omega
      constructor
      · intro hn
        have hd : deadB (planM h l) x = false := by
          unfold deadB
          refine decide_eq_false (fun hd => hn ⟨hh1, hd.1, ?_⟩)
          unfold whereM
          rw [if_pos hd.1]
          exact goes_zero.2 hd.2
        exact ⟨fld_live hd, by simp [hd]⟩
      · rintro ⟨_, hk, hw⟩
        have hd : deadB (planM h l) x = true := by
          unfold whereM at hw
          rw [if_pos hk] at hw
          unfold deadB
          exact decide_eq_true ⟨hk, goes_zero.1 hw⟩
        exact ⟨fld_dead hd, by simp [hd, h0]⟩
theorem name_32 (G : h.Good l) {p : Nat × Ob} (hp : p ∈ keepZ h l) {j : Nat} (hj : j ≤ p.2.fs.length) : nameV p.2 j < 4294967296 := by
  have K := keepZ_ok G hp
  unfold nameV
  split
  · exact K.fit.cls
  · rw [List.getD_eq_getElem?_getD, List.getElem?_eq_getElem (by omega)]
    exact K.f32 _ (List.getElem_mem _)
/-- What is named is no object, or lies within the words. -/
theorem name_isB (G : h.Good l) {k : Nat} (hk : k < l.length) {j : Nat} (hj : j < (nmsK (posOf (l.take k)) l[k]).length) (h2 : kindM (nameV l[k] j) = 2) : h.isB (nameV l[k] j) = true := by
  obtain ⟨x, h1, _, h3, _⟩ := nms_at G hk hj
  have hi : h.isB (2 * posOf (l.take k)) = true := (G.laid.isB_iff _).2 ⟨l.take k, l[k], l.drop (k + 1), split_at l k hk, rfl⟩
  refine names_isB G hi ?_ h2
  rw [← num_names G hk, ← h3]
  exact List.mem_map.2 ⟨x, List.mem_of_getElem? h1, rfl⟩
end
end Go.Proofs.YtblekggklimpeaaGreatDoor

namespace Go.Proofs.YtblekggklimpeaaGreatDoor
open Go.RowKit Go.Sort
attribute [local go_sem] Oper.semAt_some
theorem wrA3 {a f : Nat} (h : a + (3 + f) ≤ 1048576) : wrap64 (3 + (f : Int)) = 3 + (f : Int) ∧ wrap64 ((a : Int) + (3 + (f : Int))) = (a : Int) + (3 + (f : Int)) := ⟨IntWalk.wrap64_in _ (by omega), IntWalk.wrap64_in _ (by omega)⟩
section
variable {w : World} {h : HM} {l : List Ob} {A A' : Option Addr} {n c n' c' : Nat}
end
end Go.Proofs.YtblekggklimpeaaGreatDoor

namespace Go.Proofs.YtblekggklimpeaaGreatDoor
open Go.RowKit Go.Sort
attribute [local go_sem] Oper.semAt_some
theorem make_oop1 (n : Nat) (hn : n ≤ 1048576) (w : World) :
    (Instr.makeSlice 23 (.int .i64 ((n : Int) + 1)) (.int .i64 ((n : Int) + 1))).run Tryz.prog w = .ok (.slice (some ⟨w.heap.size, 0, none⟩) (n + 1) (n + 1)) (w.alloc (.cells (zcells (.int .u32 0) (n + 1)) 43)) := by
  obtain ⟨i0, hi0, hz0, hz1, hz2⟩ := info_parts info_oop
  have := run_make_rowN (P := Tryz.prog) 23 43 i0 _ Tryz.underlying23 hi0 hz0 .i64 .i64 (n + 1) (n + 1) (Nat.le_refl _) (by rw [hz2]; omega) (by omega) w
  have e : madeCells (Value.int .u32 0).cells ((n + 1) * 1) = zcells (.int .u32 0) (n + 1) := by
    apply Array.ext
    · simp [madeCells, zcells, Value.cells]
    · intro i h1 h2
      simp [madeCells, zcells, Value.cells, Nat.mod_one]
  rw [hz1, e] at this
  rw [show ((n : Int) + 1) = ((n + 1 : Nat) : Int) by omega]
  exact this
theorem tozeros_row (w : World) (F : Nat) (hF : F ≤ maxLen) : Row (w.alloc (.cells (zcells (.int .u32 0) F) 43)) w.heap.size 43 F (u32s (toL [] F)) := by
  rw [toL_nil]
  exact ⟨zcells (.int .u32 0) F, Blk.new w _ _, by simp [u32s], hF, by simp [zcells], by simp [zcells, u32s]⟩
end Go.Proofs.YtblekggklimpeaaGreatDoor

namespace Go.Proofs.YtblekggklimpeaaGreatDoor
open Go.RowKit Go.Sort
attribute [local go_sem] Oper.semAt_some
/-- What Collect works on: the table, the counts, what is next. -/
structure CoS (w : World) (M gt gc gn N : Nat) (pl : List (Nat × Nat)) (vw vr : Value) (ws rs : List Nat) (a0 a1 a3 clr : Nat) : Prop where
  t : Row w gt 43 N (u32s (toL pl N))
  c : Blk w gc 52 #[.int .i64 (a0 : Int), .int .i64 (a1 : Int), .int .i64 0, .int .i64 (a3 : Int), .int .i64 (clr : Int)]
  n : Blk w gn 32 #[vw, vr]
  ow : w.ownsRow M 24 1 vw ws.length (u32s ws)
  or : w.ownsRow M 43 1 vr rs.length (u32s rs)
  ht : M ≤ gt
  hc : M ≤ gc
  hn : M ≤ gn
  nt : vr.ownBlock ≠ some gt
section
variable {w w' : World} {M gt gc gn N : Nat} {pl : List (Nat × Nat)} {vw vr : Value} {ws rs : List Nat} {a0 a1 a3 clr : Nat}
theorem CoS.below (C : CoS w M gt gc gn N pl vw vr ws rs a0 a1 a3 clr) (h : Below w.heap.size w w') : CoS w' M gt gc gn N pl vw vr ws rs a0 a1 a3 clr :=
  ⟨C.t.below h, C.c.below h C.c.lt, C.n.below h C.n.lt, own_below C.ow h, own_below C.or h, C.ht, C.hc, C.hn, C.nt⟩
theorem CoS.far (C : CoS w M gt gc gn N pl vw vr ws rs a0 a1 a3 clr) {x : Nat} (hx : x ≠ gt ∧ x ≠ gc ∧ x ≠ gn ∧ vw.ownBlock ≠ some x ∧ vr.ownBlock ≠ some x) (hs : ∀ q, q ≠ x → w'.heap[q]? = w.heap[q]?) : CoS w' M gt gc gn N pl vw vr ws rs a0 a1 a3 clr :=
  ⟨C.t.same (hs _ hx.1.symm), C.c.same (hs _ hx.2.1.symm), C.n.same (hs _ hx.2.2.1.symm), own_keep C.ow (fun q hq => hs q (fun e => hx.2.2.2.1 (e ▸ hq))), own_keep C.or (fun q hq => hs q (fun e => hx.2.2.2.2 (e ▸ hq))), C.ht, C.hc, C.hn, C.nt⟩
/-- One more field cleared. -/
theorem CoS.clear (C : CoS w M gt gc gn N pl vw vr ws rs a0 a1 a3 clr) : CoS (w.setCell ⟨gc, 4, none⟩ (.int .i64 ((clr : Int) + 1))) M gt gc gn N pl vw vr ws rs a0 a1 a3 (clr + 1) := by
  have hs : ∀ q, q ≠ gc → (w.setCell ⟨gc, 4, none⟩ (.int .i64 ((clr : Int) + 1))).heap[q]? = w.heap[q]? := fun q hq => Below.heap_setCell w ⟨gc, 4, none⟩ _ q hq
  exact ⟨C.t.same (hs _ (C.t.ne_blk C.c (by decide))), C.c.set_ 4 (.int .i64 ((clr : Int) + 1)), C.n.same (hs _ (C.n.ne_ C.c (by decide))), own_keep C.ow (fun q hq => hs q (fun e => own_ne_blk C.ow C.c (by decide) (e ▸ hq))), own_keep C.or (fun q hq => hs q (fun e => own_ne_blk C.or C.c (by decide) (e ▸ hq))), C.ht, C.hc, C.hn, C.nt⟩
end
section
variable {w w' w0 : World} {M gt gc gn N : Nat} {pl : List (Nat × Nat)} {vw vr v5 : Value} {ws rs ns : List Nat} {a0 a1 a3 clr : Nat}
theorem CoS.grow_r (C : CoS w M gt gc gn N pl vw vr ws rs a0 a1 a3 clr) (hown : w'.ownsRow M 43 1 v5 (rs.length + ns.length) (u32s rs ++ u32s ns)) (hg : w.grownBy w' vr.ownBlock) (hat : v5.ownBlock = vr.ownBlock ∨ v5.ownBlock = some w.heap.size) (hb : Below M w0 w) (hM : M ≤ w.heap.size) :
    CoS (w'.setCell ⟨gn, 1, none⟩ v5) M gt gc gn N pl vw v5 ws (rs ++ ns) a0 a1 a3 clr ∧ Below M w0 (w'.setCell ⟨gn, 1, none⟩ v5) ∧ w'.frozen? ⟨gn, 1, none⟩ = false ∧ w'.cell? ⟨gn, 1, none⟩ = some vr := by
  have hs : ∀ q, q < w.heap.size → vr.ownBlock ≠ some q → w'.heap[q]? = w.heap[q]? := fun q hq hn => hg.block q hq (fun e => hn (by first | exact e | exact e.symm))
  have hn5 : Blk w' gn 32 #[vw, vr] := C.n.same (hs gn C.n.lt (own_ne_blk C.or C.n (by decide)))
  have hset : ∀ q, q ≠ gn → (w'.setCell ⟨gn, 1, none⟩ v5).heap[q]? = w'.heap[q]? := fun q hq => Below.heap_setCell w' ⟨gn, 1, none⟩ v5 q hq
  have ht5 := C.t.same (hs gt C.t.lt C.nt)
  have hc5 := C.c.same (hs gc C.c.lt (own_ne_blk C.or C.c (by decide)))
  have ho5 := own_keep C.ow (fun q hq => hs q (C.ow.lt q hq).2 (fun e => own_ne_own C.or C.ow (by decide) q e hq))
  have hr5 : w'.ownsRow M 43 1 v5 (rs ++ ns).length (u32s (rs ++ ns)) := by rw [u32s_app, List.length_append]; exact hown
  refine ⟨⟨ht5.same (hset _ (ht5.ne_blk hn5 (by decide))), hc5.same (hset _ (hc5.ne_ hn5 (by decide))), hn5.set_ 1 v5, own_keep ho5 (fun q hq => hset q (fun e => own_ne_blk ho5 hn5 (by decide) (e ▸ hq))), own_keep hr5 (fun q hq => hset q (fun e => own_ne_blk hr5 hn5 (by decide) (e ▸ hq))), C.ht, C.hc, C.hn, ?_⟩, ?_, hn5.frozen 1, hn5.cell 1⟩
  · rcases hat with e | e
    · rw [e]; exact C.nt
    · rw [e]; intro e2; injection e2 with e2; have := C.t.lt; omega
  · refine hb.trans ⟨hg.os, hg.tape, hg.output, by simp [World.setCell]; exact hg.size, fun q hq => ?_⟩
    exact (hset q (by have := C.hn; omega)).trans (hs q (by omega) (fun e => by have := (C.or.lt q e).1; omega))
theorem CoS.grow_w (C : CoS w M gt gc gn N pl vw vr ws rs a0 a1 a3 clr) (hown : w'.ownsRow M 24 1 v5 (ws.length + ns.length) (u32s ws ++ u32s ns)) (hg : w.grownBy w' vw.ownBlock) (hat : v5.ownBlock = vw.ownBlock ∨ v5.ownBlock = some w.heap.size) (hb : Below M w0 w) (hM : M ≤ w.heap.size) :
    CoS (w'.setCell ⟨gn, 0, none⟩ v5) M gt gc gn N pl v5 vr (ws ++ ns) rs a0 a1 a3 clr ∧ Below M w0 (w'.setCell ⟨gn, 0, none⟩ v5) ∧ w'.frozen? ⟨gn, 0, none⟩ = false ∧ w'.cell? ⟨gn, 0, none⟩ = some vw := by
  have hs : ∀ q, q < w.heap.size → vw.ownBlock ≠ some q → w'.heap[q]? = w.heap[q]? := fun q hq hn => hg.block q hq (fun e => hn (by first | exact e | exact e.symm))
  have hn5 : Blk w' gn 32 #[vw, vr] := C.n.same (hs gn C.n.lt (own_ne_blk C.ow C.n (by decide)))
  have hset : ∀ q, q ≠ gn → (w'.setCell ⟨gn, 0, none⟩ v5).heap[q]? = w'.heap[q]? := fun q hq => Below.heap_setCell w' ⟨gn, 0, none⟩ v5 q hq
  have htn : vw.ownBlock ≠ some gt := by obtain ⟨cur, hcb, _⟩ := C.t; exact own_ne_blk C.ow hcb (by decide)
  have ht5 := C.t.same (hs gt C.t.lt htn)
  have hc5 := C.c.same (hs gc C.c.lt (own_ne_blk C.ow C.c (by decide)))
  have ho5 := own_keep C.or (fun q hq => hs q (C.or.lt q hq).2 (fun e => own_ne_own C.ow C.or (by decide) q e hq))
  have hr5 : w'.ownsRow M 24 1 v5 (ws ++ ns).length (u32s (ws ++ ns)) := by rw [u32s_app, List.length_append]; exact hown
  refine ⟨⟨ht5.same (hset _ (ht5.ne_blk hn5 (by decide))), hc5.same (hset _ (hc5.ne_ hn5 (by decide))), hn5.set_ 0 v5, own_keep hr5 (fun q hq => hset q (fun e => own_ne_blk hr5 hn5 (by decide) (e ▸ hq))), own_keep ho5 (fun q hq => hset q (fun e => own_ne_blk ho5 hn5 (by decide) (e ▸ hq))), C.ht, C.hc, C.hn, C.nt⟩, ?_, hn5.frozen 0, hn5.cell 0⟩
  refine hb.trans ⟨hg.os, hg.tape, hg.output, by simp [World.setCell]; exact hg.size, fun q hq => ?_⟩
  exact (hset q (by have := C.hn; omega)).trans (hs q (by omega) (fun e => by have := (C.ow.lt q e).1; omega))
end
section
variable {w w0 : World} {M gt gc gn N : Nat} {pl : List (Nat × Nat)} {vw vr : Value} {ws rs : List Nat} {a0 a1 a3 clr : Nat}
theorem CoS.own (C : CoS w M gt gc gn N pl vw vr ws rs a0 a1 a3 clr) {go co g6 c6 ps : Nat} {os ns : List Nat} (R : Row w go 24 co (u32s os)) (R6 : Row w g6 3 c6 (ints ns)) (hv : vw.ownBlock ≠ some go) (hb : Below M w0 w) (hM : M ≤ go) (x : Nat) :
    CoS (w.setCell ⟨go, ps, none⟩ (.int .u32 (x : Int))) M gt gc gn N pl vw vr ws rs a0 a1 a3 clr ∧ Row (w.setCell ⟨go, ps, none⟩ (.int .u32 (x : Int))) go 24 co (u32s (os.set ps x)) ∧ Row (w.setCell ⟨go, ps, none⟩ (.int .u32 (x : Int))) g6 3 c6 (ints ns) ∧ Below M w0 (w.setCell ⟨go, ps, none⟩ (.int .u32 (x : Int))) := by
  have hs : ∀ q, q ≠ go → (w.setCell ⟨go, ps, none⟩ (.int .u32 (x : Int))).heap[q]? = w.heap[q]? := fun q hq => Below.heap_setCell w ⟨go, ps, none⟩ _ q hq
  refine ⟨C.far ⟨R.ne_ C.t (by decide), R.ne_blk C.c (by decide), R.ne_blk C.n (by decide), hv, by obtain ⟨cur, hcb, _⟩ := R; exact own_ne_blk C.or hcb (by decide)⟩ hs, ?_, R6.same (hs _ (R6.ne_ R (by decide))), hb.setCell (p := ⟨go, ps, none⟩) hM _⟩
  have := R.set ps (.int .u32 (x : Int))
  unfold u32s at this ⊢
  rw [List.map_set]
  exact this
end
theorem ws_sub {h : HM} {l : List Ob} (G : h.Good l) {k : Nat} (hk : k < l.length) : (h.words.drop (posOf (l.take k))).take (3 + (l[k]).fs.length) = (l[k]).ws := by
  have e := split_at l k hk
  have h1 : h.words = 0 :: (wsOf (l.take k) ++ ((l[k]).ws ++ wsOf (l.drop (k + 1)))) := by
    rw [G.laid.words]
    conv => lhs; rw [e]
    rw [wsOf_app, wsOf_cons]
  rw [h1]
  unfold posOf
  rw [show 1 + (wsOf (l.take k)).length = (wsOf (l.take k)).length + 1 by omega, List.drop_succ_cons, List.drop_left, List.take_append_of_le_length (by rw [Ob.ws_len]; omega), List.take_of_length_le (by rw [Ob.ws_len]; omega)]
theorem wrQ3 {q : Nat} (h : q ≤ 1048576) : IntKind.i64.wrap ((q : Int) + 3) = (q : Int) + 3 := IntWalk.i64_in _ (by omega)
theorem wrQ4 {q f : Nat} (h : q + 3 + f ≤ 1048576) : IntKind.i64.wrap ((q : Int) + 3 + (f : Int)) = (q : Int) + 3 + (f : Int) := IntWalk.i64_in _ (by omega)
theorem reads_sub {w : World} {B n k m : Nat} {A : Option Addr} {ws : List Nat} (h : Reads w B 1 A n (u32s ws)) (hk : k + m ≤ n) (hm : 0 < m) : ∃ ad, A = some ad ∧ Reads w B 1 (some (ad.add k)) m (u32s ((ws.drop k).take m)) := by
  have hl : ws.length = n := by have := h.1; rw [u32s_len] at this; omega
  obtain ⟨ad, hA, hb, hc⟩ := h.2 (by omega)
  refine ⟨ad, hA, by rw [u32s_len, List.length_take, List.length_drop]; omega, fun _ => ⟨_, rfl, by rw [block_of_add]; exact hb, fun j u hu => ?_⟩⟩
  have hu' : (u32s ws)[k + j]? = some u := by
    unfold u32s at hu ⊢
    rw [List.getElem?_map, List.getElem?_take] at hu
    split at hu
    · rw [List.getElem?_drop] at hu
      rw [List.getElem?_map]
      exact hu
    · cases hu
  have := hc (k + j) u hu'
  rw [Addr.add_add]
  exact this
theorem slice_mid (wx : World) (ad : Addr) (n c q m : Nat) (hh : q + 3 + m ≤ c) :
    (Instr.sliceAt 22 (.slice (some ad) n c) (some (.int .i64 (q : Int))) (some (.int .i64 ((q : Int) + 3 + (m : Int)))) none).run Tryz.prog wx = .ok (.slice (some (ad.add q)) (3 + m) (c - q)) wx := by
  obtain ⟨i0, hi0, hz0, hz1, hz2⟩ := info_parts info_u32
  have he : Program.elem Tryz.prog 22 = 24 := by simp [Program.elem, Tryz.underlying22]
  have hz : ∀ w, (Go.sizeOf 24).run Tryz.prog w = .ok 1 w := fun w => by go_simp
  rw [run_sliceAt_slice (P := Tryz.prog) wx 22 _ _ _ _ (by rw [he]; exact Tryz.underlying22), run_slice_lh (P := Tryz.prog) wx 22 (some ad) n c (by rw [he]; exact Tryz.underlying22) .i64 .i64 (q : Int) ((q : Int) + 3 + (m : Int)) (by omega) (by omega) (by omega), he, hz]
  simp only [Result.andThen, sliced]
  rw [show ((q : Int)).toNat = q by omega, show ((q : Int) + 3 + (m : Int)).toNat = q + 3 + m by omega, if_neg (by omega), show q + 3 + m - q = 3 + m by omega, Nat.mul_one]
  rfl
theorem exec_slice {P : Program} {ρ : Operand → Value} {o : Oper} {t : TypeId} {x lo hi : Operand} {w : World} {v a b d : Value} (ho : o.op = .slice t x (some lo) (some hi) none) (ha : ρ x = a) (hb : ρ lo = b) (hd : ρ hi = d) (h : (Instr.sliceAt t a (some b) (some d) none).run P w = .ok v w) : (execOp ρ o).run P w = .ok (.value v) w := by
  subst ha hb hd
  unfold execOp
  simp only [ho, Option.map_some, Option.map_none, Sem.run_bind, Sem.run_pure, h, Result.andThen_ok]
theorem subK {a b : Nat} (h1 : b ≤ a) (h2 : a ≤ 1048576) : wrap64 ((a : Int) - (b : Int)) = ((a - b : Nat) : Int) := by
  rw [IntWalk.wrap64_in _ (by omega)]
  omega
theorem mvd_snoc (pl : List (Nat × Nat)) (p : Nat × Nat) : mvd (pl ++ [p]) = mvd pl + (if p.1 = p.2 then 0 else 1) := by
  unfold mvd
  rw [List.filter_append, List.length_append]
  by_cases h : p.1 = p.2
  · simp [h]
  · simp [h]
theorem mvd_le (pl : List (Nat × Nat)) : mvd pl ≤ pl.length := List.length_filter_le _ _
section
variable {w : World} {h : HM} {l : List Ob} {A A' : Option Addr} {n c n' c' : Nat}
/-- What Collect answers. -/
def RColP (h : HM) (l : List Ob) (w : World) (e : Ending) (w' : World) : Prop :=
  ∃ vw vr, e = .returned (.tuple #[.agg #[vw, vr], colV h l]) ∧ w'.ownsRow w.heap.size 24 1 vw (colH h l).words.length (u32s (colH h l).words) ∧ w'.ownsRow w.heap.size 43 1 vr (colH h l).roots.length (u32s (colH h l).roots) ∧ Below w.heap.size w w'
end
end Go.Proofs.YtblekggklimpeaaGreatDoor

namespace Go.Proofs.YtblekggklimpeaaGreatDoor
open Go.RowKit Go.Sort
attribute [local go_sem] Oper.semAt_some
def Cs.cells (k : Cs) : Array Value := #[.int .i64 k.size, .slice k.A k.n k.c, .slice k.A' k.n' k.c', .int .u32 (k.last : Nat)]
theorem cells4K {w : World} {g : Nat} {t : TypeId} {a b c d : Value} (h : Blk w g t #[a, b, c, d]) : w.cell? ⟨g, 0, none⟩ = some a ∧ w.cell? ⟨g, 1, none⟩ = some b ∧ w.cell? ⟨g, 2, none⟩ = some c ∧ w.cell? ⟨g, 3, none⟩ = some d := ⟨h.cell 0, h.cell 1, h.cell 2, h.cell 3⟩
theorem own_readsN {w : World} {base n : Nat} {v : Value} {xs : List Nat} {e : TypeId} (h : w.ownsRow base e 1 v n (u32s xs)) : ∃ A c, v = .slice A n c ∧ Reads w w.heap.size 1 A n (u32s xs) ∧ n ≤ 9223372036854775807 := by
  by_cases h0 : 0 < n
  · obtain ⟨A, c, hv, hr⟩ := own_readsK h h0
    refine ⟨A, c, hv, hr, ?_⟩
    rcases h.2 with ⟨rfl, h2⟩ | ⟨g, cap, cur, _, _, _, h4, h5, _⟩
    · omega
    · simp only [maxLen] at h5
      omega
  · obtain ⟨A, c, hv⟩ := own_val h
    have h1 := h.1
    refine ⟨A, c, hv, ⟨by omega, fun h2 => absurd h2 h0⟩, by omega⟩
section
variable {W : World}
end
end Go.Proofs.YtblekggklimpeaaGreatDoor

namespace Go.Proofs.YtblekggklimpeaaGreatDoor
open Go.RowKit Go.Sort
attribute [local go_sem] Oper.semAt_some
theorem own_readsV {w : World} {base n c : Nat} {A : Option Addr} {xs : List Nat} {e : TypeId} (h : w.ownsRow base e 1 (.slice A n c) n (u32s xs)) : Reads w w.heap.size 1 A n (u32s xs) ∧ n ≤ 9223372036854775807 := by
  obtain ⟨A', c', hv, hr, hn⟩ := own_readsN h
  injection hv with h1 h2 h3
  subst h1
  exact ⟨hr, hn⟩
theorem colV_ints (h : HM) (l : List Ob) : ∃ x0 x1 x2 x3 x4 : Int, colV h l = .agg #[.int .i64 x0, .int .i64 x1, .int .i64 x2, .int .i64 x3, .int .i64 x4] := ⟨_, _, _, _, _, rfl⟩
theorem cells2K {w : World} {g : Nat} {t : TypeId} {a b : Value} (h : Blk w g t #[a, b]) : w.cell? ⟨g, 0, none⟩ = some a ∧ w.cell? ⟨g, 1, none⟩ = some b := ⟨h.cell 0, h.cell 1⟩
end Go.Proofs.YtblekggklimpeaaGreatDoor

namespace Go.Proofs.YtblekggklimpeaaGreatDoor
open Go.RowKit Go.Sort
attribute [local go_sem] Oper.semAt_some
/-- The oops of those of the first k that are picked. -/
def selL (P : Nat → Bool) (l : List Ob) (k : Nat) : List Nat := ((List.range k).filter P).map (fun i => 2 * posOf (l.take i))
theorem selL_zero (P : Nat → Bool) (l : List Ob) : selL P l 0 = [] := rfl
theorem selL_yes {P : Nat → Bool} {l : List Ob} {k : Nat} (h : P k = true) : selL P l (k + 1) = selL P l k ++ [2 * posOf (l.take k)] := by
  unfold selL
  rw [List.range_succ, List.filter_append, List.map_append, List.filter_cons, if_pos h]
  rfl
theorem selL_no {P : Nat → Bool} {l : List Ob} {k : Nat} (h : P k = false) : selL P l (k + 1) = selL P l k := by
  unfold selL
  rw [List.range_succ, List.filter_append, List.map_append, List.filter_cons, if_neg (by rw [h]; decide)]
  simp
theorem selL_len (P : Nat → Bool) (l : List Ob) (k : Nat) : (selL P l k).length ≤ k := by
  unfold selL
  rw [List.length_map]
  have := List.length_filter_le P (List.range k)
  rw [List.length_range] at this
  exact this
def instP (h : HM) (l : List Ob) (o : Nat) (k : Nat) : Bool := decide (h.words.getD (posOf (l.take k) + 1) 0 = o)
def refP (h : HM) (l : List Ob) (o : Nat) (k : Nat) : Bool := decide (o ∈ namesM h (2 * posOf (l.take k)))
theorem wrP1 {q : Nat} (h : q ≤ 1048576) : wrap64 ((q : Int) + 1) = (q : Int) + 1 := IntWalk.wrap64_in _ (by omega)
section
variable {w : World} {h : HM} {l : List Ob} {A A' : Option Addr} {n c n' c' : Nat}
end
end Go.Proofs.YtblekggklimpeaaGreatDoor

namespace Go.Proofs.YtblekggklimpeaaGreatDoor
open Go.RowKit
attribute [local go_sem] Oper.semAt_some
set_option maxRecDepth 100000 in
set_option maxHeartbeats 4000000 in
theorem inst_any {w : World} {p : HP} {h : HM} {l : List Ob} (H : HAt w p h) (G : h.Good l) (hs : Spares w) (o : Nat) (ho : o < 4294967296) :
    Calls Tryz.prog 20 #[ptr p.g, .int .u32 o] w (OopsP (selL (instP h l o) l l.length) w) := by
  refine (callsIn_wide (n := 6)).1 ?_
  refine callsIn_of_wp_marks Tryz.func20 rfl trivial ?_ rfl
  simp only [Tryz.ntmps20, List.size_toArray, List.length_cons, List.length_nil, Nat.reduceAdd, Nat.reduceSub, Array.replicate_succ, Array.replicate_zero, List.push_toArray, List.append_toArray, List.nil_append, List.cons_append]
  have HPA := Lib.hid (fun W => all_any p.g W)
  unfold ptr at HPA ⊢
  gi_wp2_with fail
  refine ⟨trivial, (callsIn_wide.2 (HPA.out _)).mono ?_⟩
  rintro e W2 ⟨rfl, rfl⟩
  have bo := ((Blk.new w 43 #[.int .u32 (o : Int)]).alloc (.cells #[.slice none 0 0] 23)).alloc (.cells #[.pointer (some ⟨p.g, 0, none⟩)] 27)
  have bl := (Blk.new (w.alloc (.cells #[.int .u32 (o : Int)] 43)) 23 #[.slice none 0 0]).alloc (.cells #[.pointer (some ⟨p.g, 0, none⟩)] 27)
  have bh := Blk.new ((w.alloc (.cells #[.int .u32 (o : Int)] 43)).alloc (.cells #[.slice none 0 0] 23)) 27 #[.pointer (some ⟨p.g, 0, none⟩)]
  have hB0 : Below w.heap.size w (((w.alloc (.cells #[.int .u32 (o : Int)] 43)).alloc (.cells #[.slice none 0 0] 23)).alloc (.cells #[.pointer (some ⟨p.g, 0, none⟩)] 27)) := (((Below.refl _ w).alloc (Nat.le_refl _) _).alloc (by simp) _).alloc (by simp; omega) _
  have hsz : (((w.alloc (.cells #[.int .u32 (o : Int)] 43)).alloc (.cells #[.slice none 0 0] 23)).alloc (.cells #[.pointer (some ⟨p.g, 0, none⟩)] 27)).heap.size = w.heap.size + 3 := by simp
  simp only [World.size_alloc] at bl bh
  gi_wp2_with fail
  obtain ⟨W0, hW0⟩ : ∃ W0, ((w.alloc (.cells #[.int .u32 (o : Int)] 43)).alloc (.cells #[.slice none 0 0] 23)).alloc (.cells #[.pointer (some ⟨p.g, 0, none⟩)] 27) = W0 := ⟨_, rfl⟩
  rw [hW0] at bo bl bh hB0 hsz
  rw [hW0]
  clear hW0
  have HI := Lib.hid (show HAt W0 p h ∧ Spares W0 from ⟨H.below hB0, hs.below hB0⟩)
  have hlt := World.block_lt_of_cell? _ _ (hs 0 (by omega))
  simp only at hlt
  have hl2 : l.length ≤ 1048576 := by have h1 := oopsL_le G; rw [oopsL_len] at h1; exact h1
  have HCW := Lib.hid (fun k (hk : k < l.length) => cls_words G hk)
  obtain ⟨i0, hi0, hz0, hz1, hz2⟩ := info_parts info_oop
  have HS0 := Lib.hid (BoxR.start bl)
  have hne1 : w.heap.size ≠ w.heap.size + 1 := by omega
  have HBO := Lib.hid (fun (xs : List Nat) (v : Value) (W : World) (C : BoxR W0 (w.heap.size + 1) xs v W) => C.blk bo hne1)
  have HB0 := Lib.hid hB0
  refine wpIn_rangeFunc_ownH (F := Fence.wide) rfl (by omega) (gf := 70) (lb := #[.pointer (some ⟨w.heap.size + 1 + 1, 0, none⟩)]) rfl trivial (enters_of Tryz.func70 (by kernel_rfl) rfl)
    (all_stopsG HI.out.1 G HI.out.2 5 (w.heap.size + 1 + 1) (bh.cell 0) (KpR w.heap.size W0.heap.size (w.heap.size + 1)) (SafeR w.heap.size W0.heap.size (w.heap.size + 1))
      (fun A B k cs t fr h1 h2 h3 => h2.step h1 h3) (fun A B k h1 h2 => h2.below h1)
      (fun W W1 k h1 h2 h3 => SafeR.new bl (below_top h1 h2) (.inr (Nat.le_trans h1.size h3)))
      (fun W h1 => SafeR.new bl h1 (.inl hlt)))
    KpR.trans (fun W l o o' h0 h1 h2 _ => KpR.book W l o o' (by omega) h1 h2) (Below.refl _ _) (fun _ => rfl)
    (fun pre W => ∃ v, BoxR W0 (w.heap.size + 1) (selF (instP h l o) l pre) v W)
    (fun c pre W => False)
    (fun pre A B row hs hg hr => by obtain ⟨v, hv⟩ := hs; exact ⟨v, hv.own' hg hr⟩)
    (fun c pre A B row hs hg hr => hs.elim)
    ⟨_, HS0.out⟩
    (fun x a' W => ∃ Bx, W0.heap.size ≤ Bx ∧ Blk W Bx 102 (l[x.1]'x.2).x.cells ∧ a' = { tmps := #[.pointer (some ⟨p.g, 0, none⟩), .int .u32 (o : Int), undef, .pointer (some ⟨w.heap.size, 0, none⟩), .slice none 0 0, .pointer (some ⟨w.heap.size + 1, 0, none⟩), .int .u32 ((2 * posOf (l.take x.1) : Nat) : Int), .pointer (some ⟨Bx, 0, none⟩), .pointer (some ⟨p.g, 0, none⟩), .func (.func 70) #[] #[.pointer (some ⟨w.heap.size + 1 + 1, 0, none⟩)], .int .u32 ((2 * posOf (l.take x.1) : Nat) : Int), (l[x.1]'x.2).x.val, undef, undef, undef, undef, undef, undef, undef, undef, undef], defers := [] })
    (fun x a' _ X Y row hs hg hr => by
      obtain ⟨Bx, h1, h2, h3⟩ := hs
      refine ⟨Bx, h1, h2.same (hg.block Bx h2.lt (fun e => ?_)), h3⟩
      obtain ⟨_, o, ho, hc⟩ := hr Bx e.symm
      unfold Blk at h2
      rw [h2] at ho
      injection ho with ho
      subst ho
      simp [Obj.isCells] at hc)
    ?assign ?body ?done ?stop
  case assign =>
    rintro lp pre x W K ⟨v, C⟩ hK
    rw [show allV l x = #[.int .u32 ((2 * posOf (l.take x.1) : Nat) : Int), .agg #[.int .i64 ((l[x.1]'x.2).x.size : Nat), .int .i64 ((l[x.1]'x.2).x.fmt : Nat), .int .i64 ((l[x.1]'x.2).x.spare : Nat), .int .u32 ((l[x.1]'x.2).x.cls : Nat), .int .u32 ((l[x.1]'x.2).x.ser : Nat)]] from rfl]
    have HC := Lib.hid C
    have HK := Lib.hid hK
    have hsW := C.size
    clear hK C
    unfold Hd.val Hd.cells at HK
    generalize (l[x.1]'x.2).x = X at *
    generalize 2 * posOf (l.take x.1) = o at *
    gi_wp2_with fail
    have hb5 : Below W.heap.size W (W.alloc (.cells #[.int .i64 (X.size : Int), .int .i64 (X.fmt : Int), .int .i64 (X.spare : Int), .int .u32 (X.cls : Int), .int .u32 (X.ser : Int)] 102)) := (Below.refl _ _).alloc (Nat.le_refl _) _
    exact HK.out _ _ ((KeepsOthers.alloc _ _).from _) (HC.out.kp_refl hb5 _) ⟨_, HC.out.below hb5⟩ ⟨W.heap.size, hsW, Blk.new W _ _, rfl⟩
  case body =>
    rintro lp pre x a' W hl ⟨r, hr⟩ ⟨v, C⟩ ⟨Bx, hBx, bX, rfl⟩ hltx
    have cO := (HBO.out _ _ _ C).cell 0
    have cL : W.cell? ⟨w.heap.size + 1, 0, none⟩ = some v := C.box.cell 0
    have fL := C.box.frozen
    unfold Hd.cells at bX
    unfold Hd.val
    obtain ⟨d0, d1, d2, d3, d4⟩ := bX.cells5
    obtain ⟨Av, cv, rfl⟩ := own_val C.own
    have HC := Lib.hid C
    have hsl := selF_len (instP h l o) l pre
    have hsW := C.size
    have HYES := Lib.hid (fun hm => selF_yes (P := instP h l o) (l := l) (pre := pre) (x := x) hm)
    have HNO := Lib.hid (fun hm => selF_no (P := instP h l o) (l := l) (pre := pre) (x := x) hm)
    have HPD := Lib.hid (show instP h l o x.1 = decide ((l[x.1]'x.2).x.cls = o) from by unfold instP; rw [HCW.out _ x.2])
    clear C bX
    generalize selF (instP h l o) l pre = xs at *
    by_cases hcl : (l[x.1]'x.2).x.cls = o
    · have hq : (((l[x.1]'x.2).x.cls : Int) == (o : Int)) = true := by simp; omega
      have HS := Lib.hid (HYES.out (by rw [HPD.out]; exact decide_eq_true hcl))
      clear hcl HYES HNO HPD
      generalize (l[x.1]'x.2).x = X at *
      generalize 2 * posOf (l.take x.1) = y at *
      gi_wp2_with (gi_at_builtin; refine wpListIn_app_any _ rfl (.tmp 16) (.tmp 18) _ rfl W0.heap.size 43 i0 _ 1 4 Tryz.underlying23 hi0 hz0 hz1 hz2 rfl (by omega) (.slice Av xs.length cv) xs.length _ rfl (HC.out.own.alloc _) (W.heap.size + 1) (some ⟨W.heap.size, 0, none⟩) 1 1 [.int .u32 (y : Int)] rfl ⟨rfl, fun _ => ⟨_, rfl, by first | exact Nat.zero_lt_one | decide | simp, cell_one_new _ _ _⟩⟩ (fun u hu => by rcases List.mem_singleton.1 hu with rfl; rfl) (by simp only [maxLen]; omega) (by omega) (by first | omega | (simp; omega)) ?_; intro v1 w7 hown7 hgrow hat7; obtain ⟨A7, c7, rfl⟩ := own_val hown7; obtain ⟨cB7, fB7⟩ := HC.out.box_app ((Below.refl _ _).alloc (Nat.le_refl _) _) hgrow)
      obtain ⟨r1, r2, r3⟩ := HC.out.app (m0 := w.heap.size) ((Below.refl _ _).alloc (Nat.le_refl _) _) hown7 hgrow hat7 (by omega)
      exact ⟨r1, r2, _, by rw [HS.out]; exact r3⟩
    · have hq : (((l[x.1]'x.2).x.cls : Int) == (o : Int)) = false := by simp; omega
      have HS := Lib.hid (HNO.out (by rw [HPD.out]; exact decide_eq_false hcl))
      clear hcl HYES HNO HPD
      generalize (l[x.1]'x.2).x = X at *
      generalize 2 * posOf (l.take x.1) = y at *
      gi_wp2_with fail
      exact ⟨(KeepsOthers.refl _).from _, HC.out.kp_refl (Below.refl _ _) _, _, by rw [HS.out]; exact HC.out⟩
  case done =>
    rintro D xs W hD rfl ⟨v, C⟩ hK
    have cL : W.cell? ⟨w.heap.size + 1, 0, none⟩ = some v := C.box.cell 0
    have HC := Lib.hid C
    clear C
    gi_wp2_with fail
    refine ⟨by simp, .inl ⟨_, _, rfl, run_takeDeferred hK, ?_⟩⟩
    have hc := HC.out.own' (grownBy_putObj' W D (.deferred none)) (fun r e => by cases e; exact ⟨hD, _, hK, rfl⟩)
    refine ⟨v, by simp [results, Tryz.results20, go_sem], ?_⟩
    rw [selF_all] at hc
    exact ⟨v, rfl, own_base hc.own HB0.out.size, hc.toBelow HB0.out (by omega)⟩
  case stop =>
    rintro D c pre W hD hp hx hK
    exact hx.elim
end Go.Proofs.YtblekggklimpeaaGreatDoor
