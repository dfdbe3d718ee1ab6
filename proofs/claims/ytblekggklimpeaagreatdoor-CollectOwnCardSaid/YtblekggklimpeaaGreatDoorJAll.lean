/- The iterator All of the program's heap: its contract, for every body that keeps what it did not make ahead of the loop. -/
/- A map of the call's own from oops to words, as a function on numbers; numbers of things in a list. -/
/- What is held from beginnings on, the nearest ahead; the live objects, as they lie. Plain data. -/
/- Those oops that name objects: only, by slices.DeleteFunc. -/
import Derived.Test.YtblekggklimpeaaGreatDoorJCloneH
import Derived.Test.YtblekggklimpeaaGreatDoorJLoad1
import Derived.Test.YtblekggklimpeaaGreatDoorJLive
import Derived.Test.YtblekggklimpeaaGreatDoorJMapIs
import Derived.Test.YtblekggklimpeaaGreatDoorJIApp
import Derived.Test.YtblekggklimpeaaGreatDoorJLook
import Derived.RangeFuncNested
import Derived.RangeFuncBound
import Derived.RangeFuncCalls
import Derived.RangeFuncLeaves
import Derived.Shelf.Abstract
import Derived.Shelf.RegionOpen
import Derived.WalkKit
import Derived.OwnWalkIn
import Derived.TacticsInMore
import Derived.LoopNIn
import Derived.LoopIn
import Derived.Maps.OwnSet
import Derived.Lib.SliceRun
set_option linter.unusedVariables false
set_option linter.unusedSimpArgs false
set_option linter.unusedSectionVars false
namespace Go.Proofs.YtblekggklimpeaaGreatDoor
open Go.RowKit
attribute [local go_sem] Oper.semAt_some

/-- What a round keeps: every block of cells but those from m0 to n0 (the caller's own variables). -/
structure KpB (m0 n0 : Nat) (w w' : World) : Prop where
  os : w'.os = w.os
  tape : w'.tape = w.tape
  output : w'.output = w.output
  size : w.heap.size ≤ w'.heap.size
  cells : ∀ k cs t fr, k < m0 ∨ n0 ≤ k → w.heap[k]? = some (.cells cs t fr) → w'.heap[k]? = some (.cells cs t fr)
theorem KpB.refl (m0 n0 : Nat) (w : World) : KpB m0 n0 w w := ⟨rfl, rfl, rfl, Nat.le_refl _, fun _ _ _ _ _ h => h⟩
theorem KpB.trans {m0 n0 : Nat} {a b c : World} (h : KpB m0 n0 a b) (k : KpB m0 n0 b c) : KpB m0 n0 a c :=
  ⟨k.os.trans h.os, k.tape.trans h.tape, k.output.trans h.output, Nat.le_trans h.size k.size, fun j cs t fr hj h1 => k.cells j cs t fr hj (h.cells j cs t fr hj h1)⟩
theorem lt_of_get {w : World} {k : Nat} {o : Obj} (h : w.heap[k]? = some o) : k < w.heap.size := by
  rcases Nat.lt_or_ge k w.heap.size with h1 | h1
  · exact h1
  · rw [Array.getElem?_eq_none h1] at h; cases h
theorem KpB.of_below {m0 n0 : Nat} {w w' : World} (h : Below w.heap.size w w') : KpB m0 n0 w w' :=
  ⟨h.os, h.tape, h.output, h.size, fun k cs t fr _ hk => (h.block k (lt_of_get hk)).trans hk⟩
theorem KpB.drew {m0 n0 : Nat} {w w' : World} (h : KpB m0 n0 w w') : KpB m0 n0 w w'.drew := ⟨h.os, h.tape, h.output, h.size, h.cells⟩
theorem KpB.alloc {m0 n0 : Nat} {w w' : World} (h : KpB m0 n0 w w') (o : Obj) : KpB m0 n0 w (w'.alloc o) := h.trans (.of_below (below_alloc1' (Below.refl _ _)))
where below_alloc1' {W w : World} {o : Obj} (h : Below W.heap.size W w) : Below W.heap.size W (w.alloc o) := h.alloc h.size o
theorem KpB.setCell {m0 n0 : Nat} {w w' : World} (h : KpB m0 n0 w w') {a : Addr} (h1 : m0 ≤ a.block) (h2 : a.block < n0) (u : Value) : KpB m0 n0 w (w'.setCell a u) :=
  ⟨h.os, h.tape, h.output, by simpa [World.setCell] using h.size, fun k cs t fr hk hh => (Below.heap_setCell w' a u k (fun e => by omega)).trans (h.cells k cs t fr hk hh)⟩
theorem KpB.book {m0 n0 : Nat} (W : World) (l : Nat) (o o' : Obj) (h : W.heap[l]? = some o) (hc : o.isCells = false) : KpB m0 n0 W (W.putObj l o') :=
  ⟨rfl, rfl, rfl, by simp, fun k cs t fr _ hk => by
    have hne : k ≠ l := by rintro rfl; rw [hk] at h; injection h with h; subst h; simp [Obj.isCells] at hc
    exact ((grownBy_putObj' W l o').block k (lt_of_get hk) (fun e => hne (by injection e))).trans hk⟩
theorem Blk.kept {m0 n0 : Nat} {w w' : World} {g : Nat} {t : TypeId} {cs : Array Value} (h : Blk w g t cs) (k : KpB m0 n0 w w') (hg : g < m0 ∨ n0 ≤ g) : Blk w' g t cs := k.cells g cs t (0, 0) hg h
theorem Row.kept {m0 n0 : Nat} {w w' : World} {g c : Nat} {e : TypeId} {xs : List Value} (h : Row w g e c xs) (k : KpB m0 n0 w w') (hg : g < m0 ∨ n0 ≤ g) : Row w' g e c xs := by
  obtain ⟨cur, h, r⟩ := h
  exact ⟨cur, h.kept k hg, r⟩
theorem HAt.kept {m0 n0 : Nat} {w w' : World} {p : HP} {h : HM} (H : HAt w p h) (k : KpB m0 n0 w w') (hp : ∀ j, p.has j → j < m0 ∨ n0 ≤ j) : HAt w' p h :=
  ⟨H.1.kept k (hp _ (.inl rfl)), H.2.1.kept k (hp _ (.inr (.inl rfl))), H.2.2.1.kept k (hp _ (.inr (.inr (.inl rfl)))), H.2.2.2.kept k (hp _ (.inr (.inr (.inr rfl))))⟩

/-- The k-th object's oop; 0 behind the last one. -/
def oopI (l : List Ob) (k : Nat) : Nat := if k < l.length then 2 * posOf (l.take k) else 0
/-- What All hands out of the k-th object. -/
def allV (l : List Ob) (i : Fin l.length) : Array Value := #[.int .u32 ((2 * posOf (l.take i.1) : Nat) : Int), (l[i.1]'i.2).x.val]

def mesO (v : Value) : Nat := if intOf v = 0 then 0 else 4294967296 - (intOf v).toNat
theorem mesO_nat (n : Nat) : mesO (.int .u32 (n : Int)) = if n = 0 then 0 else 4294967296 - n := by
  show (if ((n : Int)) = 0 then 0 else 4294967296 - ((n : Int)).toNat) = _
  by_cases h : n = 0
  · subst h; rfl
  · rw [if_neg (by omega), if_neg h, Int.toNat_natCast]
theorem mesO_lt {o no : Nat} (h : no = 0 ∨ o < no) (h0 : 0 < o) (h1 : o < 4294967296) (h2 : no < 4294967296) : mesO (.int .u32 (no : Int)) < mesO (.int .u32 (o : Int)) := by
  rw [mesO_nat, mesO_nat]
  rcases h with h | h
  · rw [if_pos h, if_neg (by omega)]; omega
  · rw [if_neg (by omega), if_neg (by omega)]; omega
theorem posOf_take_lt {h : HM} {l : List Ob} (G : h.Good l) (k : Nat) (hk : k < l.length) : posOf (l.take k) + 3 ≤ h.words.length := by
  have L := G.laid
  have e : l = l.take k ++ l[k] :: l.drop (k + 1) := by rw [List.getElem_cons_drop, List.take_append_drop]
  have L' := L
  rw [e] at L'
  have := L'.words_len
  omega
theorem posOf_pos (a : List Ob) : 1 ≤ posOf a := by unfold posOf; omega
theorem posOf_take_succ {l : List Ob} (k : Nat) (hk : k < l.length) : posOf (l.take k) < posOf (l.take (k + 1)) := by
  have et : l.take (k + 1) = l.take k ++ [l[k]] := by rw [List.take_add_one, List.getElem?_eq_getElem hk]; rfl
  rw [et, posOf_snoc]
  omega
section
variable {w : World} {p : HP} {h : HM} {l : List Ob}
theorem split_at (l : List Ob) (k : Nat) (hk : k < l.length) : l = l.take k ++ l[k] :: l.drop (k + 1) := by
  rw [List.getElem_cons_drop, List.take_append_drop]
theorem first_oopI (G : h.Good l) : h.objM 1 = oopI l 0 := by
  have : h.objM (posOf []) = oopAt [] l := HM.Laid.objM_at (a := []) G.laid
  change h.objM 1 = _ at this
  rw [this]
  unfold oopI oopAt
  cases l with
  | nil => rfl
  | cons b l => simp
theorem next_oopI (G : h.Good l) (k : Nat) (hk : k < l.length) : h.nextO (2 * posOf (l.take k)) = oopI l (k + 1) := by
  have L := G.laid
  have e := split_at l k hk
  have L' := L
  rw [e] at L'
  rw [L'.nextO_at]
  have et : l.take k ++ [l[k]] = l.take (k + 1) := by rw [List.take_add_one, List.getElem?_eq_getElem hk]; rfl
  rw [et]
  unfold oopI oopAt
  rcases Nat.lt_or_ge (k + 1) l.length with h1 | h1
  · rw [if_pos h1]
    cases hd : l.drop (k + 1) with
    | nil => have := congrArg List.length hd; simp at this; omega
    | cons b c => rfl
  · rw [List.drop_of_length_le h1, if_pos rfl, if_neg (by omega)]
theorem isB_at (G : h.Good l) (k : Nat) (hk : k < l.length) : h.isB (2 * posOf (l.take k)) = true :=
  (G.laid.isB_iff _).2 ⟨_, _, _, split_at l k hk, rfl⟩
theorem hd_at' (G : h.Good l) (k : Nat) (hk : k < l.length) : h.hd (posOf (l.take k)) = (l[k]).x := by
  have L := G.laid
  have e := split_at l k hk
  have L' := L
  rw [e] at L'
  have := L'.hd_at
  exact this
end

set_option maxRecDepth 100000 in
set_option maxHeartbeats 4000000 in
/-- All hands out the objects as they lie, whatever the body does that keeps them. -/
theorem all_stops {w : World} {p : HP} {h : HM} {l : List Ob} (H : HAt w p h) (G : h.Good l) (hs : Spares w) (n Bh m0 : Nat) (hbox : w.cell? ⟨Bh, 0, none⟩ = some (ptr p.g)) (hsp : 0 < m0) :
    SeqStopsK Fence.wide n Tryz.prog 70 #[.pointer (some ⟨Bh, 0, none⟩)] (allV l) (KpB m0 w.heap.size) (fun xs => xs = List.finRange l.length) (fun pre => pre <+: List.finRange l.length) l.length w :=
  fun lp J Jx W hW hJ hJx hY h0 => by
  have hBh := World.block_lt_of_cell? _ _ hbox
  have HW := H.below hW
  have hbW : W.cell? ⟨Bh, 0, none⟩ = some (ptr p.g) := (hW.cell (p := ⟨Bh, 0, none⟩) hBh).trans hbox
  have HC := Lib.hid (Clone_any HW G.fit)
  have HsW := hs.below hW
  refine callsIn_of_wp Tryz.func70 rfl trivial ?_ rfl
  simp only [Tryz.ntmps70, List.size_toArray, List.length_cons, List.length_nil, Nat.reduceAdd, Nat.reduceSub, Array.replicate_succ, Array.replicate_zero, List.push_toArray, List.append_toArray, List.nil_append, List.cons_append]
  unfold ptr at hbW HC
  have HY := Lib.hid hY
  have HJ := Lib.hid (show ∀ s A B, J s A → Below A.heap.size A B → J s B from fun s A B hs hb => hJ s A B none hs ⟨hb.os, hb.tape, hb.output, hb.size, fun k hk _ => hb.block k hk⟩ (fun r e => by cases e))
  have HJ0 := Lib.hid h0
  have HWD := Lib.hid hW
  clear hY hJ hJx h0 hW
  gi_wp2_with fail
  refine ⟨trivial, fun hh => (by cases hh), (callsIn_wide.2 HC.out).mono ?_⟩
  rintro e W1 ⟨pc, rfl, Hc, hnew, hb1⟩
  have HJ1 := HJ.out _ _ _ HJ0.out hb1
  have Hs1 := HsW.below hb1
  have HN := Lib.hid hnew
  have HF := Lib.hid (first_any Hc G.fit)
  rw [first_oopI G] at HF
  unfold ptr at HF
  clear hbW hnew
  gi_wp2_with fail
  refine ⟨trivial, fun hh => (by cases hh), (callsIn_wide.2 HF.out).mono ?_⟩
  rintro e W2 ⟨rfl, rfl⟩
  have HH := Lib.hid (show HAt W1 pc h ∧ Spares W1 ∧ J ((List.finRange l.length).take 0) W1 from ⟨Hc, Hs1, HJ1⟩)
  clear Hc Hs1 HJ1 hb1
  gi_wp2_with fail
  gi_loopw [4] (fun o wr => ∃ k : Nat, k ≤ l.length ∧ o = .int .u32 ((oopI l k : Nat) : Int) ∧ HAt wr pc h ∧ Spares wr ∧ J ((List.finRange l.length).take k) wr) (fun o wr => mesO o)
  case atStart => exact ⟨0, by omega, rfl, HH.out.1, HH.out.2.1, HH.out.2.2⟩
  case round =>
    obtain ⟨k, hk, rfl, Hk, hsk, hjk⟩ := hrel
    by_cases hlt : k < l.length
    · have hroom := G.fit.room
      have hhi := G.fit.hi
      have hpl := posOf_take_lt G k hlt
      have hpp := posOf_pos (l.take k)
      have hO := Lib.hid (show oopI l k = 2 * posOf (l.take k) by unfold oopI; rw [if_pos hlt])
      have hN := Lib.hid (next_oopI G k hlt)
      have hB := isB_at G k hlt
      have HX := Lib.hid (hd_at' G k hlt)
      have HAT := Lib.hid (fun w => at_any pc.g (2 * posOf (l.take k)) (by omega) (objB_pos _) w)
      have HHD := Lib.hid (fun w' (H : HAt w' pc h) (hs : Spares w') => header_any H G.fit hs (posOf (l.take k)) (G.laid.heads _ (by unfold HM.isB at hB; simp only [Bool.and_eq_true, half_pos] at hB; exact hB.2)))
      have HNX := Lib.hid (fun w' (H : HAt w' pc h) (hs : Spares w') => next_any H G.fit G.laid.heads hs (2 * posOf (l.take k)) (by omega))
      have HNV := Lib.hid (show h.nextV (2 * posOf (l.take k)) = .tuple #[.int .u32 (oopI l (k + 1) : Nat), .int .i64 0] by unfold HM.nextV; rw [if_pos hB, hN.out])
      have HME := Lib.hid (show oopI l (k + 1) = 0 ∨ 2 * posOf (l.take k) < oopI l (k + 1) by
        unfold oopI
        split
        · have := posOf_take_succ k hlt; right; omega
        · exact .inl rfl)
      have HMX := Lib.hid (show oopI l (k + 1) < 4294967296 by
        unfold oopI
        split
        · rename_i h1; have := posOf_take_lt G (k + 1) h1; omega
        · omega)
      have HTK := Lib.hid (show (List.finRange l.length).take k ++ [⟨k, hlt⟩] = (List.finRange l.length).take (k + 1) by
        rw [List.take_add_one, List.getElem?_eq_getElem (by simpa using hlt)]; simp)
      have HPL := Lib.hid (show ((List.finRange l.length).take k).length < l.length by simp; omega)
      have HAV := Lib.hid (show allV l ⟨k, hlt⟩ = #[.int .u32 ((2 * posOf (l.take k) : Nat) : Int), .agg #[.int .i64 (l[k].x.size : Nat), .int .i64 (l[k].x.fmt : Nat), .int .i64 (l[k].x.spare : Nat), .int .u32 (l[k].x.cls : Nat), .int .u32 (l[k].x.ser : Nat)]] from rfl)
      have HXV := Lib.hid (show (h.hd (posOf (l.take k))).val = .agg #[.int .i64 (l[k].x.size : Nat), .int .i64 (l[k].x.fmt : Nat), .int .i64 (l[k].x.spare : Nat), .int .u32 (l[k].x.cls : Nat), .int .u32 (l[k].x.ser : Nat)] by rw [HX.out]; rfl)
      have HK := Lib.hid (show HAt wr pc h ∧ Spares wr ∧ J ((List.finRange l.length).take k) wr from ⟨Hk, hsk, hjk⟩)
      have HYk := Lib.hid (fun W1 hj => HY.out ((List.finRange l.length).take k) ⟨k, hlt⟩ W1 hj HPL.out)
      rw [HAV.out] at HYk
      rw [hO.out]
      rw [HXV.out] at HHD
      rw [HNV.out] at HNX
      rw [half_pos] at HAT
      clear Hk hsk hjk hB hO HX hN HXV HNV HAV HPL HH
      generalize (⟨k, hlt⟩ : Fin l.length) = xk at *
      generalize l[k].x = X at *
      have ho : (((2 * posOf (l.take k) : Nat) : Int) != 0) = true := by simp; omega
      have HO32 := Lib.hid (show 2 * posOf (l.take k) < 4294967296 ∧ 0 < 2 * posOf (l.take k) by omega)
      generalize hq : 2 * posOf (l.take k) = o at *
      clear hq
      generalize posOf (l.take k) = q at *
      unfold ptr at HAT HHD HNX
      gi_wp2_with fail
      refine ⟨trivial, fun hh => (by cases hh), (callsIn_wide.2 (HAT.out _)).mono ?_⟩
      rintro e W3 ⟨rfl, rfl⟩
      gi_wp2_with fail
      refine ⟨trivial, fun hh => (by cases hh), (callsIn_wide.2 (HHD.out _ HK.out.1 HK.out.2.1)).mono ?_⟩
      rintro e W4 ⟨rfl, hb4⟩
      have HK4 := Lib.hid (show HAt W4 pc h ∧ Spares W4 ∧ J ((List.finRange l.length).take k) W4 from ⟨HK.out.1.below hb4, HK.out.2.1.below hb4, HJ.out _ _ _ HK.out.2.2 hb4⟩)
      clear hb4 HK
      obtain ⟨fn, tmps, assign, body, hy, hR⟩ := HYk.out W4 HK4.out.2.2
      gi_wp2_with fail
      refine ⟨fun hh => (by cases hh), hR.mono ?_⟩
      rintro e W5 (⟨rfl, hJ5, hk5⟩ | ⟨rfl, hx5⟩)
      · have HK5 := Lib.hid (show HAt W5 pc h ∧ Spares W5 ∧ J ((List.finRange l.length).take (k + 1)) W5 from
          ⟨HK4.out.1.kept hk5 (fun j hj => .inr (Nat.le_trans HWD.out.size (HN.out j hj))), (fun i hi => by
            have hc := HK4.out.2.1 i hi
            have hb := World.block_lt_of_cell? _ _ hc
            cases ho : W4.heap[0]? with
            | none => simp [World.cell?, ho] at hc
            | some ob =>
              cases ob with
              | cells cs t fr => exact (World.cell?_of_block (a := ⟨0, i, none⟩) ((hk5.cells _ cs t fr (.inl hsp) ho).trans ho.symm)).trans hc
              | _ => simp [World.cell?, ho] at hc), by rw [← HTK.out]; exact hJ5⟩)
        clear hJ5 hk5 hy hR HK4
        gi_wp2_with fail
        refine ⟨trivial, fun hh => (by cases hh), (callsIn_wide.2 (HNX.out _ HK5.out.1 HK5.out.2.1)).mono ?_⟩
        rintro e W6 ⟨rfl, hb6⟩
        have HK6 := Lib.hid (show HAt W6 pc h ∧ Spares W6 ∧ J ((List.finRange l.length).take (k + 1)) W6 from ⟨HK5.out.1.below hb6, HK5.out.2.1.below hb6, HJ.out _ _ _ HK5.out.2.2 hb6⟩)
        clear hb6 HK5
        generalize hno : oopI l (k + 1) = no at *
        have HNO := Lib.hid hno
        clear hno
        gi_wp2_with fail
        go_roundw
        case rel => exact ⟨k + 1, by omega, by rw [HNO.out], HK6.out.1, HK6.out.2.1, HK6.out.2.2⟩
        case measure => exact mesO_lt HME.out HO32.out.2 HO32.out.1 HMX.out
      · clear hy HK4
        gi_wp2_with fail
        refine bodyPost_ret (results_none rfl _ _ _) rfl ?_
        exact ⟨⟨_, rfl⟩, .inr ⟨_, ⟨(List.finRange l.length).drop (k + 1), by rw [HTK.out, List.take_append_drop]⟩, hx5⟩⟩
    · obtain rfl : k = l.length := by omega
      have hO := Lib.hid (show oopI l l.length = 0 by unfold oopI; rw [if_neg hlt])
      have HFin := Lib.hid (show J (List.finRange l.length) wr by have := hjk; rw [List.take_of_length_le (by simp)] at this; exact this)
      rw [hO.out]
      clear Hk hsk hjk hlt hk
      gi_wp2_with fail
      go_end0
      exact ⟨⟨_, rfl⟩, .inl ⟨_, rfl, HFin.out⟩⟩
end Go.Proofs.YtblekggklimpeaaGreatDoor

namespace Go.Proofs.YtblekggklimpeaaGreatDoor
open Go.RowKit Go.Maps

/-- A thing's number in a list, from 1 on; 0: it is not in it. -/
def numL (L : List Nat) (x : Nat) : Nat := if x ∈ L then L.idxOf x + 1 else 0
theorem numL_snoc {L : List Nat} {x : Nat} (h : x ∉ L) : numL (L ++ [x]) = upd (numL L) x (L.length + 1) := by
  funext y
  unfold numL upd
  by_cases hy : y = x
  · subst hy
    rw [if_pos (by simp), if_pos rfl, List.idxOf_append, if_neg h]
    simp
  · rw [if_neg hy]
    by_cases hm : y ∈ L
    · rw [if_pos (by simp [hm]), List.idxOf_append, if_pos hm]
      show _ = if y ∈ L then _ else _
      rw [if_pos hm]
    · rw [if_neg (by simp [hm, hy])]
      show _ = if y ∈ L then _ else _
      rw [if_neg hm]
theorem numL_le (L : List Nat) (x : Nat) : numL L x ≤ L.length := by
  unfold numL
  split
  · rename_i h
    have := List.idxOf_lt_length_of_mem h
    omega
  · omega
/-- What numbering one after the other comes to, a thing twice numbered anew. -/
def stp (s : List Nat × Nat × (Nat → Nat)) (x : Nat) : List Nat × Nat × (Nat → Nat) := (s.1 ++ [x], if x ∈ s.1 then s.2.1 else s.2.1 + 1, upd s.2.2 x (s.2.1 + 1))
def stL (L : List Nat) : List Nat × Nat × (Nat → Nat) := L.foldl stp ([], 0, fun _ => 0)
theorem stL_snoc (L : List Nat) (x : Nat) : stL (L ++ [x]) = stp (stL L) x := by unfold stL; rw [List.foldl_append]; rfl
theorem stL_fst (L : List Nat) : (stL L).1 = L := by
  have h : ∀ (L : List Nat) s, (L.foldl stp s).1 = s.1 ++ L := by
    intro L
    induction L with
    | nil => intro s; simp
    | cons a L ih => intro s; rw [List.foldl_cons, ih]; simp [stp]
  have := h L ([], 0, fun _ => 0)
  simpa [stL] using this
theorem stL_le (L : List Nat) : (stL L).2.1 ≤ L.length := by
  have h : ∀ (L : List Nat) s, (L.foldl stp s).2.1 ≤ s.2.1 + L.length := by
    intro L
    induction L with
    | nil => intro s; simp
    | cons a L ih =>
      intro s
      rw [List.foldl_cons]
      refine Nat.le_trans (ih _) ?_
      have : (stp s a).2.1 ≤ s.2.1 + 1 := by unfold stp; simp only; split <;> omega
      simp; omega
  have := h L ([], 0, fun _ => 0)
  simpa [stL] using this
theorem snoc_ind {P : List Nat → Prop} (h0 : P []) (h1 : ∀ L x, P L → P (L ++ [x])) : ∀ L, P L := by
  intro L
  rw [← List.reverse_reverse L]
  generalize L.reverse = R
  induction R with
  | nil => exact h0
  | cons a R ih => rw [List.reverse_cons]; exact h1 _ _ ih
theorem stL_nodup : ∀ L : List Nat, L.Nodup → (stL L).2.1 = L.length ∧ (stL L).2.2 = numL L :=
  snoc_ind (fun _ => ⟨rfl, by funext y; simp [stL, numL]⟩) (fun L x ih hnd => by
    rw [List.nodup_append] at hnd
    have hx : x ∉ L := fun hm => hnd.2.2 x hm x (by simp) rfl
    obtain ⟨h1, h2⟩ := ih hnd.1
    rw [stL_snoc, numL_snoc hx]
    refine ⟨?_, ?_⟩
    · show (if x ∈ (stL L).1 then _ else _) = _
      rw [stL_fst, if_neg hx, h1, List.length_append]; rfl
    · show upd _ _ _ = _
      rw [h1, h2])
structure MapTyU (T K : TypeId) : Prop where
  ht : Tryz.prog.underlying T = some (.map K 24)
  hk : Tryz.prog.underlying K = some (.int .u32)
def MapU (K : TypeId) (w : World) (b : Nat) (L : List Nat) : Prop :=
  ∃ D : DataW Unit, Tidy D ∧ w.ownsMap Tryz.prog K (plainElem Tryz.prog 24) b L.length D ∧ (∀ x : Nat, x < 4294967296 → D.atKey (.int .u32 (x : Int)) (.lit (.int .u32 0)) = .lit (.int .u32 ((stL L).2.2 x : Nat))) ∧
    (∀ x : Nat, x < 4294967296 → Maps.has D (.int .u32 (x : Int)) = decide (x ∈ L)) ∧ Maps.size D = (stL L).2.1
theorem zeroU (w : World) : (zeroValue 24).run Tryz.prog w = .ok (.int .u32 0) w := by kernel_rfl
section
variable {T K : TypeId} {w w' : World} {b : Nat} {L : List Nat}
theorem MapU.made (w : World) (K : TypeId) : MapU K (w.alloc (.map #[] 0)) w.heap.size [] :=
  ⟨.map [], tidy_empty, World.ownsMap_made _ _ _ _, fun x _ => rfl, fun x _ => rfl, rfl⟩
theorem MapU.lt (h : MapU K w b L) : b < w.heap.size := by obtain ⟨D, _, h, _⟩ := h; exact h.lt
theorem MapU.obj (h : MapU K w b L) : ∃ es c, w.heap[b]? = some (.map es c) := by obtain ⟨D, _, ⟨es, clock, hb, r⟩, _⟩ := h; exact ⟨es, clock, hb⟩
theorem MapU.same (h : MapU K w b L) (hs : w'.heap[b]? = w.heap[b]?) : MapU K w' b L := by
  obtain ⟨D, hD, ⟨es, clock, hb, r⟩, hf⟩ := h
  exact ⟨D, hD, ⟨es, clock, hs.trans hb, r⟩, hf⟩
theorem MapU.below (h : MapU K w b L) (hb : Below w.heap.size w w') : MapU K w' b L := h.same (hb.block b h.lt)
set_option maxRecDepth 100000 in
theorem MapU.look (h : MapU K w b L) (hnd : L.Nodup) (M : MapTyU T K) {x : Nat} (hx : x < 4294967296) : (Instr.lookup T (.map (some b)) (.int .u32 (x : Int)) false).run Tryz.prog w = .ok (.int .u32 (numL L x : Nat)) w := by
  obtain ⟨D, hD, ho, hf, _⟩ := h
  obtain ⟨c, hrun, hat, _⟩ := ho.lookup_int (int_keyed M.hk) M.ht Tryz.underlying24 (zeroU w) (keyOf_int_mk M.hk (wf_u32 hx))
  rw [hf x hx, (stL_nodup L hnd).2] at hat
  have e : c = (numL L x : Nat) := by
    simp only [DataW.lit.injEq, Lit.int.injEq, true_and] at hat
    exact hat.symm
  subst e
  exact hrun
theorem MapU.len (h : MapU K w b L) (M : MapTyU T K) (ty : TypeId) : (Builtin.len_ #[T] ty #[.map (some b)]).run Tryz.prog w = .ok (.int .i64 ((stL L).2.1 : Nat)) w := by
  obtain ⟨D, hD, ho, hf, hh, hs⟩ := h
  rw [← hs]
  exact ho.len M.ht ty
set_option maxRecDepth 100000 in
theorem MapU.put (h : MapU K w b L) (M : MapTyU T K) {x : Nat} (hx : x < 4294967296) (hn : L.length < 4294967295) :
    ∃ w', (Instr.mapUpdate T (.map (some b)) (.int .u32 (x : Int)) (.int .u32 (((stL L).2.1 : Nat) + 1 : Int))).run Tryz.prog w = .ok () w' ∧ MapU K w' b (L ++ [x]) ∧ w.grownBy w' (some b) := by
  obtain ⟨D, hD, ho, hf, hh, hs⟩ := h
  have hle := stL_le L
  obtain ⟨w', hrun, ho', hg⟩ := ho.update (int_keyed M.hk) M.ht (by unfold maxLen; omega) (keyOf_int_mk M.hk (wf_u32 hx)) (plainElem_int Tryz.underlying24 (wf_u32 (x := (stL L).2.1 + 1) (by omega)))
  refine ⟨w', hrun, ⟨_, hD.put (show WideAt.IsKeyLit (.int .u32 (x : Int)) from trivial) _, by rw [List.length_append]; exact ho', fun y hy => ?_, fun y hy => ?_, ?_⟩, hg⟩
  · rw [stL_snoc]
    show _ = DataW.lit (.int .u32 ((upd (stL L).2.2 x ((stL L).2.1 + 1) y : Nat) : Int))
    unfold upd
    by_cases hyx : y = x
    · subst hyx
      rw [if_pos rfl]
      exact atKey_put_same hD.isMap (show WideAt.IsKeyLit (.int .u32 (y : Int)) from trivial) _ _
    · rw [if_neg hyx, atKey_put_other (by intro e; injection e with _ e; omega)]
      exact hf y hy
  · by_cases hyx : y = x
    · subst hyx
      rw [has_put_same hD.isMap (show WideAt.IsKeyLit (.int .u32 (y : Int)) from trivial) _]
      simp
    · rw [has_put_other (by intro e; injection e with _ e; omega), hh y hy]
      simp [hyx]
  · rw [Maps.size_put hD, hh x hx, hs, stL_snoc]
    show _ = if x ∈ (stL L).1 then _ else _
    rw [stL_fst]
    by_cases hm : x ∈ L
    · rw [if_pos (by simpa using hm), if_pos hm]
    · rw [if_neg (by simpa using hm), if_neg hm]
end
/-- The objects' oops, as they lie. -/
def oopsL (l : List Ob) : List Nat := (List.range l.length).map fun j => 2 * posOf (l.take j)
theorem oopsL_len (l : List Ob) : (oopsL l).length = l.length := by simp [oopsL]
theorem oopsL_take1 {l : List Ob} {k : Nat} (hk : k < l.length) : (oopsL l).take (k + 1) = (oopsL l).take k ++ [2 * posOf (l.take k)] := by
  rw [List.take_add_one, List.getElem?_eq_getElem (by rw [oopsL_len]; exact hk)]
  simp [oopsL]
theorem oopsL_get {l : List Ob} {k : Nat} (hk : k < l.length) : (oopsL l)[k]? = some (2 * posOf (l.take k)) := by
  rw [List.getElem?_eq_getElem (by rw [oopsL_len]; exact hk)]
  simp [oopsL]
theorem posOf_take_mono {l : List Ob} {j k : Nat} (hjk : j < k) (hk : k ≤ l.length) : posOf (l.take j) < posOf (l.take k) := by
  induction k with
  | zero => omega
  | succ k ih =>
    have h1 := posOf_take_succ (l := l) k (by omega)
    rcases Nat.lt_or_ge j k with h | h
    · have := ih h (by omega); omega
    · have : j = k := by omega
      subst this; exact h1
theorem oopsL_new {l : List Ob} {k : Nat} (hk : k < l.length) : 2 * posOf (l.take k) ∉ (oopsL l).take k := by
  intro hm
  obtain ⟨j, hj, he⟩ := List.getElem_of_mem hm
  rw [List.length_take, oopsL_len] at hj
  have h1 : (oopsL l)[j]? = some (2 * posOf (l.take j)) := oopsL_get (by omega)
  rw [List.getElem_take] at he
  rw [List.getElem?_eq_getElem (by rw [oopsL_len]; omega)] at h1
  injection h1 with h1
  rw [h1] at he
  have := posOf_take_mono (l := l) (j := j) (k := k) (by omega) (by omega)
  omega
theorem oopsL_nodup (l : List Ob) : (oopsL l).Nodup := by
  unfold oopsL
  rw [List.nodup_iff_pairwise_ne, List.pairwise_map]
  refine List.Pairwise.imp_of_mem ?_ (List.pairwise_lt_range (n := l.length))
  intro a b ha hb hlt he
  have := posOf_take_mono (l := l) (j := a) (k := b) hlt (by have := List.mem_range.1 hb; omega)
  omega
theorem oopsL_zero (l : List Ob) : 0 ∉ oopsL l := by
  unfold oopsL
  simp
  intro j _
  have := posOf_pos (l.take j)
  omega
theorem oopsL_eq (l : List Ob) : (List.finRange l.length).map (fun i => 2 * posOf (l.take i.1)) = oopsL l := by
  apply List.ext_getElem
  · simp [oopsL]
  · intro i h1 h2
    simp [oopsL]
theorem oopsL_le {h : HM} {l : List Ob} (G : h.Good l) : (oopsL l).length ≤ 1048576 := by
  rw [oopsL_len]
  have hroom := G.fit.room
  have hhi := G.fit.hi
  rcases Nat.eq_zero_or_pos l.length with h0 | h0
  · omega
  · have h1 := posOf_take_lt G (l.length - 1) (by omega)
    have h2 : ∀ k, k ≤ l.length → k ≤ posOf (l.take k) := fun k => by
      induction k with
      | zero => intro _; omega
      | succ k ih => intro hk; have := ih (by omega); have := posOf_take_succ (l := l) k (by omega); omega
    have := h2 (l.length - 1) (by omega)
    omega
end Go.Proofs.YtblekggklimpeaaGreatDoor

namespace Go.Proofs.YtblekggklimpeaaGreatDoor
open Go.RowKit

/-- What was met, and the number of what each was met from. -/
abbrev Wk := List (Nat × Int)
def metO (l : Wk) : List Nat := l.map (·.1)
def putW (l : Wk) (o : Nat) (by_ : Int) : Wk := if kindM o = 2 ∧ o ∉ metO l then l ++ [(o, by_)] else l
def putsW (l : Wk) (os : List Nat) (by_ : Int) : Wk := os.foldl (fun l o => putW l o by_) l
def walkF (nm : Nat → List Nat) : Nat → Nat → Wk → Wk
  | 0, _, l => l
  | f + 1, i, l => if i < l.length then walkF nm f (i + 1) (putsW l (nm (l.getD i (0, 0)).1) (i : Int)) else l
def walkM (nm : Nat → List Nat) (fr : List Nat) : Wk := walkF nm 2097152 0 (putsW [] fr (-1))
/-- From what one was met; 0: it was not. -/
def byOf (l : Wk) (x : Nat) : Int := ((l.find? (fun p => p.1 == x)).map (·.2)).getD 0
theorem metO_len (l : Wk) : (metO l).length = l.length := by simp [metO]
theorem metO_snoc (l : Wk) (o : Nat) (b : Int) : metO (l ++ [(o, b)]) = metO l ++ [o] := by simp [metO]
theorem putW_new {l : Wk} {o : Nat} {b : Int} (h1 : kindM o = 2) (h2 : o ∉ metO l) : putW l o b = l ++ [(o, b)] := by unfold putW; rw [if_pos ⟨h1, h2⟩]
theorem putW_old {l : Wk} {o : Nat} {b : Int} (h : ¬ (kindM o = 2 ∧ o ∉ metO l)) : putW l o b = l := by unfold putW; rw [if_neg h]
theorem putW_pre (l : Wk) (o : Nat) (b : Int) : l <+: putW l o b := by
  unfold putW; split
  · exact List.prefix_append _ _
  · exact List.prefix_refl _
theorem putsW_nil (l : Wk) (b : Int) : putsW l [] b = l := rfl
theorem putsW_cons (l : Wk) (o : Nat) (os : List Nat) (b : Int) : putsW l (o :: os) b = putsW (putW l o b) os b := rfl
theorem putsW_snoc (l : Wk) (o : Nat) (os : List Nat) (b : Int) : putsW l (os ++ [o]) b = putW (putsW l os b) o b := by unfold putsW; rw [List.foldl_append]; rfl
theorem putsW_pre (l : Wk) (os : List Nat) (b : Int) : l <+: putsW l os b := by
  induction os generalizing l with
  | nil => exact List.prefix_refl _
  | cons o os ih => exact (putW_pre l o b).trans (ih _)
/-- Those that name no object may be left out. -/
theorem putsW_only (l : Wk) (os : List Nat) (b : Int) : putsW l (os.filter (fun o => decide (kindM o = 2))) b = putsW l os b := by
  induction os generalizing l with
  | nil => rfl
  | cons o os ih =>
    rw [List.filter_cons]
    by_cases h : kindM o = 2
    · rw [if_pos (by simpa using h), putsW_cons, putsW_cons, ih]
    · rw [if_neg (by simpa using h), putsW_cons, ih, putW_old (fun k => h k.1)]
theorem putW_nodup {l : Wk} (h : (metO l).Nodup) (o : Nat) (b : Int) : (metO (putW l o b)).Nodup := by
  unfold putW; split
  · rename_i hc
    rw [metO_snoc, List.nodup_append]
    exact ⟨h, by simp, fun a ha c hc' => by rintro rfl; simp at hc'; subst hc'; exact hc.2 ha⟩
  · exact h
theorem putsW_nodup {l : Wk} (h : (metO l).Nodup) (os : List Nat) (b : Int) : (metO (putsW l os b)).Nodup := by
  induction os generalizing l with
  | nil => exact h
  | cons o os ih => exact ih (putW_nodup h o b)
theorem putW_mem {l : Wk} {o x : Nat} {b : Int} : x ∈ metO (putW l o b) ↔ x ∈ metO l ∨ (x = o ∧ kindM o = 2) := by
  unfold putW; split
  · rename_i hc
    rw [metO_snoc, List.mem_append, List.mem_singleton]
    exact ⟨fun h => h.imp_right fun e => ⟨e, hc.1⟩, fun h => h.imp_right fun e => e.1⟩
  · rename_i hc
    refine ⟨.inl, fun h => h.elim id fun e => ?_⟩
    obtain ⟨rfl, hk⟩ := e
    exact Classical.byContradiction fun hn => hc ⟨hk, hn⟩
theorem putsW_mem {l : Wk} {os : List Nat} {x : Nat} {b : Int} : x ∈ metO (putsW l os b) ↔ x ∈ metO l ∨ (x ∈ os ∧ kindM x = 2) := by
  induction os generalizing l with
  | nil => simp [putsW_nil]
  | cons o os ih =>
    rw [putsW_cons, ih, putW_mem, List.mem_cons]
    constructor
    · rintro ((h | ⟨rfl, h⟩) | ⟨h1, h2⟩)
      · exact .inl h
      · exact .inr ⟨.inl rfl, h⟩
      · exact .inr ⟨.inr h1, h2⟩
    · rintro (h | ⟨rfl | h1, h2⟩)
      · exact .inl (.inl h)
      · exact .inl (.inr ⟨rfl, h2⟩)
      · exact .inr ⟨h1, h2⟩
theorem byOf_nil (x : Nat) : byOf [] x = 0 := rfl
theorem byOf_snoc {l : Wk} {o : Nat} (b : Int) (hn : o ∉ metO l) (x : Nat) : byOf (l ++ [(o, b)]) x = if x = o then b else byOf l x := by
  unfold byOf
  rw [List.find?_append]
  by_cases hx : x = o
  · subst hx
    have h0 : l.find? (fun p => p.1 == x) = none := by
      rw [List.find?_eq_none]
      intro p hp he
      exact hn (List.mem_map.2 ⟨p, hp, by simpa using he⟩)
    rw [if_pos rfl, h0]
    simp
  · rw [if_neg hx]
    have h1 : ([(o, b)] : Wk).find? (fun p => p.1 == x) = none := by simp; omega
    rw [h1, Option.or_none]
/-- The k-th's. -/
theorem byOf_at {l : Wk} (hd : (metO l).Nodup) {k : Nat} (hk : k < l.length) : byOf l (l[k]).1 = (l[k]).2 := by
  induction l generalizing k with
  | nil => simp at hk
  | cons p l ih =>
    have hd2 : p.1 ∉ metO l ∧ (metO l).Nodup := by simpa [metO] using hd
    cases k with
    | zero => simp [byOf]
    | succ k =>
      have hk' : k < l.length := by simpa using hk
      have hne : (p.1 == (l[k]).1) = false := by
        simp
        intro e
        exact hd2.1 (e ▸ List.mem_map.2 ⟨l[k], List.getElem_mem hk', rfl⟩)
      have := ih hd2.2 hk'
      unfold byOf at this ⊢
      simp only [List.getElem_cons_succ, List.find?_cons, hne]
      exact this
theorem len_of_sub : ∀ (a b : List Nat), a.Nodup → (∀ x ∈ a, x ∈ b) → a.length ≤ b.length
  | [], _, _, _ => Nat.zero_le _
  | x :: a, b, hd, hs => by
    rw [List.nodup_cons] at hd
    have hx := hs x (by simp)
    have := len_of_sub a (b.erase x) hd.2 (fun y hy => (List.mem_erase_of_ne (show y ≠ x by rintro rfl; exact hd.1 hy)).2 (hs y (by simp [hy])))
    rw [List.length_erase_of_mem hx] at this
    have := List.length_pos_of_mem hx
    simp
    omega
section
variable (nm : Nat → List Nat)
/-- Going through what was met. -/
structure GoW (fr : List Nat) (i : Nat) (l : Wk) : Prop where
  nodup : (metO l).Nodup
  le : i ≤ l.length
  rest : walkM nm fr = walkF nm (2097152 - i) i l
theorem GoW.start (fr : List Nat) : GoW nm fr 0 (putsW [] fr (-1)) := ⟨putsW_nodup (by simp [metO]) _ _, Nat.zero_le _, rfl⟩
variable {nm} {fr : List Nat} {i : Nat} {l : Wk}
theorem GoW.next (G : GoW nm fr i l) (hi : i < l.length) (hl : l.length ≤ 1048576) : GoW nm fr (i + 1) (putsW l (nm (l.getD i (0, 0)).1) (i : Int)) := by
  refine ⟨putsW_nodup G.nodup _ _, by have := (putsW_pre l (nm (l.getD i (0, 0)).1) (i : Int)).length_le; omega, ?_⟩
  rw [G.rest, show 2097152 - i = (2097152 - (i + 1)) + 1 by omega]
  conv => lhs; unfold walkF
  rw [if_pos hi]
theorem GoW.done (G : GoW nm fr i l) (hi : ¬ i < l.length) (hl : l.length ≤ 1048576) : walkM nm fr = l := by
  have := G.le
  rw [G.rest, show 2097152 - i = (2097152 - (i + 1)) + 1 by omega]
  unfold walkF
  rw [if_neg hi]
end
/-- What is kept for all that is met. -/
theorem walkF_all {P : Nat → Prop} (nm : Nat → List Nat) (hn : ∀ o, P o → ∀ x ∈ nm o, kindM x = 2 → P x) : ∀ (f i : Nat) (l : Wk), (∀ o ∈ metO l, P o) → ∀ o ∈ metO (walkF nm f i l), P o
  | 0, _, l, h => h
  | f + 1, i, l, h => by
    unfold walkF
    split
    · rename_i hi
      refine walkF_all nm hn f (i + 1) _ (fun o ho => ?_)
      rcases putsW_mem.1 ho with ho | ⟨h1, h2⟩
      · exact h o ho
      · refine hn _ (h _ ?_) o h1 h2
        rw [List.getD_eq_getElem?_getD, List.getElem?_eq_getElem hi]
        exact List.mem_map.2 ⟨l[i], List.getElem_mem hi, rfl⟩
    · exact h
theorem walkM_all {P : Nat → Prop} {nm : Nat → List Nat} {fr : List Nat} (hf : ∀ x ∈ fr, kindM x = 2 → P x) (hn : ∀ o, P o → ∀ x ∈ nm o, kindM x = 2 → P x) : ∀ o ∈ metO (walkM nm fr), P o :=
  walkF_all nm hn _ _ _ (fun o ho => by
    rcases putsW_mem.1 ho with ho | ⟨h1, h2⟩
    · simp [metO] at ho
    · exact hf o h1 h2)
theorem walkF_nodup (nm : Nat → List Nat) : ∀ (f i : Nat) (l : Wk), (metO l).Nodup → (metO (walkF nm f i l)).Nodup
  | 0, _, l, h => h
  | f + 1, i, l, h => by
    unfold walkF
    split
    · exact walkF_nodup nm f (i + 1) _ (putsW_nodup h _ _)
    · exact h
theorem walkM_nodup (nm : Nat → List Nat) (fr : List Nat) : (metO (walkM nm fr)).Nodup := walkF_nodup nm _ _ _ (putsW_nodup (by simp [metO]) _ _)
theorem walkF_pre (nm : Nat → List Nat) : ∀ (f i : Nat) (l : Wk), l <+: walkF nm f i l
  | 0, _, l => List.prefix_refl _
  | f + 1, i, l => by
    unfold walkF
    split
    · exact (putsW_pre l _ _).trans (walkF_pre nm f (i + 1) _)
    · exact List.prefix_refl _
/-- What an object names that holds; weak fields don't. -/
def heldM (h : HM) (o : Nat) : List Nat := (h.hd (o / 2)).cls :: (if (h.hd (o / 2)).fmt = 1 then h.fields o else [])
/-- What it names, weak fields too. -/
def namesM (h : HM) (o : Nat) : List Nat := (h.hd (o / 2)).cls :: (if (h.hd (o / 2)).ptrB = true then h.fields o else [])
section
variable {h : HM} {l : List Ob}
theorem isB_mem (G : h.Good l) {o : Nat} (hi : h.isB o = true) : o ∈ oopsL l := by
  obtain ⟨a, b, c, rfl, rfl⟩ := (G.laid.isB_iff o).1 hi
  have hk : a.length < (a ++ b :: c).length := by simp
  have := oopsL_get hk
  rw [List.take_left] at this
  exact List.mem_of_getElem? this
theorem mem_isB (G : h.Good l) {o : Nat} (ho : o ∈ oopsL l) : h.isB o = true := by
  unfold oopsL at ho
  obtain ⟨j, hj, rfl⟩ := List.mem_map.1 ho
  exact isB_at G j (by simpa using hj)
theorem isB_kind {o : Nat} (hi : h.isB o = true) : kindM o = 2 := by
  unfold HM.isB at hi
  simp only [Bool.and_eq_true] at hi
  unfold objB at hi
  simpa using hi.1
theorem names_isB (G : h.Good l) {o : Nat} (hi : h.isB o = true) {x : Nat} (hx : x ∈ namesM h o) (hk : kindM x = 2) : h.isB x = true := by
  obtain ⟨a, b, c, rfl, rfl⟩ := (G.laid.isB_iff o).1 hi
  unfold namesM at hx
  rw [half_pos, G.laid.hd_at, G.laid.fields_at] at hx
  have ho : objB x = true := by unfold objB; simpa using hk
  rcases List.mem_cons.1 hx with rfl | hx
  · have := G.sound.cls b (by simp)
    unfold HM.clsB at this
    rw [Bool.or_eq_true] at this
    rcases this with h0 | h1
    · have h0 : b.x.cls = 0 := by simpa using h0
      rw [h0] at hk
      simp [kindM] at hk
    · exact h1
  · split at hx
    · rename_i hp
      have := G.sound.flds b (by simp) hp x hx
      unfold HM.valB at this
      rw [ho] at this
      simpa using this
    · cases hx
theorem held_names {o x : Nat} (hx : x ∈ heldM h o) : x ∈ namesM h o := by
  unfold heldM at hx
  unfold namesM
  rcases List.mem_cons.1 hx with h1 | h1
  · exact List.mem_cons.2 (.inl h1)
  · split at h1
    · rename_i h2
      refine List.mem_cons.2 (.inr ?_)
      rw [if_pos (by unfold Hd.ptrB; simp [h2])]
      exact h1
    · cases h1
theorem walk_isB (G : h.Good l) {fr : List Nat} (hf : ∀ x ∈ fr, h.valB x = true) : ∀ o ∈ metO (walkM (heldM h) fr), h.isB o = true :=
  walkM_all (P := fun o => h.isB o = true) (fun x hx hk => by
    have := hf x hx
    unfold HM.valB objB at this
    simpa [hk] using this) (fun o ho x hx hk => names_isB G ho (held_names hx) hk)
theorem wk_len (G : h.Good l) {w : Wk} (hd : (metO w).Nodup) (hi : ∀ o ∈ metO w, h.isB o = true) : w.length ≤ 1048576 := by
  have := len_of_sub (metO w) (oopsL l) hd (fun o ho => isB_mem G (hi o ho))
  have := oopsL_le G
  rw [metO_len] at *
  omega
/-- The live objects, as they lie. -/
def liveO (h : HM) (l : List Ob) : List Nat := (oopsL l).filter (fun o => decide (o ∈ metO (walkM (heldM h) h.roots)))
theorem oopsL_lt (l : List Ob) : (oopsL l).Pairwise (· < ·) := by
  unfold oopsL
  rw [List.pairwise_map]
  refine List.Pairwise.imp_of_mem ?_ (List.pairwise_lt_range (n := l.length))
  intro a b ha hb hlt
  have := posOf_take_mono (l := l) (j := a) (k := b) hlt (by have := List.mem_range.1 hb; omega)
  omega
theorem liveO_lt (h : HM) (l : List Ob) : (liveO h l).Pairwise (· < ·) := (oopsL_lt l).filter _
theorem mem_liveO (G : h.Good l) {o : Nat} : o ∈ liveO h l ↔ o ∈ metO (walkM (heldM h) h.roots) := by
  unfold liveO
  rw [List.mem_filter]
  refine ⟨fun hh => by simpa using hh.2, fun hh => ⟨isB_mem G (walk_isB G G.sound.roots o hh), by simpa using hh⟩⟩
theorem lt_unique : ∀ (a b : List Nat), a.Pairwise (· < ·) → b.Pairwise (· < ·) → (∀ x, x ∈ a ↔ x ∈ b) → a = b
  | [], [], _, _, _ => rfl
  | [], y :: b, _, _, h => by have := (h y).2 (by simp); cases this
  | x :: a, [], _, _, h => by have := (h x).1 (by simp); cases this
  | x :: a, y :: b, ha, hb, h => by
    rw [List.pairwise_cons] at ha hb
    have hxy : x = y := by
      rcases List.mem_cons.1 ((h x).1 (by simp)) with h1 | h1
      · exact h1
      · rcases List.mem_cons.1 ((h y).2 (by simp)) with h2 | h2
        · exact h2.symm
        · have := hb.1 x h1; have := ha.1 y h2; omega
    subst hxy
    rw [lt_unique a b ha.2 hb.2 (fun z => ?_)]
    have hz := h z
    rw [List.mem_cons, List.mem_cons] at hz
    constructor
    · intro h1
      rcases hz.1 (.inr h1) with rfl | h2
      · have := ha.1 z h1; omega
      · exact h2
    · intro h1
      rcases hz.2 (.inr h1) with rfl | h2
      · have := hb.1 z h1; omega
      · exact h2
/-- What was met, sorted, is what is live. -/
theorem sorted_live (G : h.Good l) {s : List Nat} (hp : s.Perm (metO (walkM (heldM h) h.roots))) (hs : s.Pairwise (· ≤ ·)) : s = liveO h l := by
  refine lt_unique s (liveO h l) ?_ (liveO_lt h l) (fun x => by rw [hp.mem_iff, mem_liveO G])
  have hd : s.Nodup := hp.nodup_iff.2 (walkM_nodup _ _)
  rw [List.nodup_iff_pairwise_ne] at hd
  exact (hs.and hd).imp (fun h => by omega)
end
end Go.Proofs.YtblekggklimpeaaGreatDoor

namespace Go.Proofs.YtblekggklimpeaaGreatDoor
open Go.RowKit
attribute [local go_sem] Oper.semAt_some
/-- Only one block is another. -/
structure Frb (rg : Nat) (w w' : World) : Prop where
  os : w'.os = w.os
  tape : w'.tape = w.tape
  output : w'.output = w.output
  size : w.heap.size ≤ w'.heap.size
  same : ∀ k, k < w.heap.size → k ≠ rg → w'.heap[k]? = w.heap[k]?
theorem Frb.refl (rg : Nat) (w : World) : Frb rg w w := ⟨rfl, rfl, rfl, Nat.le_refl _, fun _ _ _ => rfl⟩
theorem Frb.trans {rg : Nat} {w w' w'' : World} (h : Frb rg w w') (k : Frb rg w' w'') : Frb rg w w'' :=
  ⟨k.os.trans h.os, k.tape.trans h.tape, k.output.trans h.output, Nat.le_trans h.size k.size, fun i hi hne => (k.same i (Nat.lt_of_lt_of_le hi h.size) hne).trans (h.same i hi hne)⟩
theorem Frb.set (rg i : Nat) (w : World) (v : Value) : Frb rg w (w.setCell ⟨rg, i, none⟩ v) :=
  ⟨rfl, rfl, rfl, by simp [World.setCell], fun k _ hne => Below.heap_setCell w ⟨rg, i, none⟩ v k hne⟩
theorem Frb.of_below {rg : Nat} {w w' : World} (h : Below w.heap.size w w') : Frb rg w w' := ⟨h.os, h.tape, h.output, h.size, fun k hk _ => h.block k hk⟩
theorem Frb.below {rg B : Nat} {w w' : World} (h : Frb rg w w') (hB : B ≤ rg) (hw : B ≤ w.heap.size) : Below B w w' := ⟨h.os, h.tape, h.output, h.size, fun k hk => h.same k (by omega) (by omega)⟩
theorem Frb.setCells (rg : Nat) : ∀ (vs : List Value) (o : Nat) (w : World), Frb rg w (w.setCells rg o vs)
  | [], _, w => Frb.refl _ _
  | v :: vs, o, w => (Frb.set rg o w v).trans (Frb.setCells rg vs (o + 1) _)
theorem Row.setCells {g c : Nat} {e : TypeId} {xs : List Value} : ∀ (vs : List Value) (o : Nat) (w : World), Row w g e c xs → xs.length ≤ o → Row (w.setCells g o vs) g e c xs
  | [], _, w, h, _ => h
  | v :: vs, o, w, h, ho => Row.setCells vs (o + 1) _ (by have := h.set o v; rwa [List.set_eq_of_length_le ho] at this) (by omega)
theorem Row.short {w : World} {g c : Nat} {e : TypeId} {xs : List Value} (h : Row w g e c xs) (i : Nat) : Row w g e c (xs.take i) := by
  obtain ⟨cur, hb, hl, hm, hc, hx⟩ := h
  refine ⟨cur, hb, by rw [List.length_take]; omega, hm, hc, ?_⟩
  rw [← hx, List.take_take, List.length_take]
  congr 1
  have : cur.toList.length = c := by simpa using hc
  have := congrArg List.length hx
  simp only [List.length_take] at this ⊢
  omega
theorem Row.len_le {w : World} {g c : Nat} {e : TypeId} {xs : List Value} (h : Row w g e c xs) : xs.length ≤ c := by obtain ⟨_, _, h1, _⟩ := h; exact h1
def k2 (o : Nat) : Bool := decide (kindM o = 2)
theorem cobject_any (o : Nat) (ho : o < 4294967296) (w : World) :
    Calls Tryz.prog 69 #[.int .u32 o] w fun e w' => e = .returned (.bool (k2 o)) ∧ w = w' := by
  have HK := Lib.hid (kind_any o ho w)
  have HD := Lib.hid (show ((kindM o : Int) == 2) = k2 o by unfold k2; rw [Bool.eq_iff_iff]; simp; omega)
  generalize kindM o = kk at *
  generalize k2 o = b at *
  go_enter Tryz.func69, Tryz.ntmps69
  go_wp2_with fail
  refine HK.out.mono ?_
  rintro e w' ⟨rfl, rfl⟩
  go_wp2_with fail
  go_ret
  exact ⟨by rw [← HD.out]; rfl, rfl⟩
theorem onlyF_any (o : Nat) (ho : o < 4294967296) (w : World) :
    Calls Tryz.prog 68 #[.int .u32 o] w fun e w' => e = .returned (.bool (!k2 o)) ∧ w = w' := by
  have HK := Lib.hid (cobject_any o ho w)
  generalize k2 o = b at *
  go_enter Tryz.func68, Tryz.ntmps68
  go_wp2_with fail
  refine HK.out.mono ?_
  rintro e w' ⟨rfl, rfl⟩
  go_wp2_with fail
  go_ret
  exact ⟨rfl, rfl⟩
/-- The literal's value. -/
def onlyFn : Value := .func (.func 68) #[] #[]
/-- The first oop that names none, or -1. -/
def IdxOP (xs : List Nat) (w : World) (e : Ending) (w' : World) : Prop :=
  w = w' ∧ ((e = .returned (.int .i64 (-1)) ∧ ∀ x ∈ xs, k2 x = true) ∨ ∃ j, e = .returned (.int .i64 (j : Nat)) ∧ j < xs.length ∧ k2 (xs.getD j 0) = false ∧ ∀ i, i < j → k2 (xs.getD i 0) = true)
theorem getD_u32 {xs : List Nat} (h : ∀ x ∈ xs, x < 4294967296) (k : Nat) : xs.getD k 0 < 4294967296 := by
  rw [List.getD_eq_getElem?_getD]
  cases hh : xs[k]? with
  | none => simp
  | some v => simp; exact h v (List.mem_of_getElem? hh)
set_option maxHeartbeats 1000000 in
theorem indexO_any {w : World} (A : Option Addr) (n c B : Nat) (xs : List Nat) (hn : n ≤ 9223372036854775807) (hr : Reads w B 1 A n (u32s xs)) (h32 : ∀ x ∈ xs, x < 4294967296) :
    Calls Tryz.prog 90 #[.slice A n c, onlyFn] w (IdxOP xs w) := by
  have hl : xs.length = n := by have := hr.1; rw [u32s_len] at this; omega
  have HL := Lib.hid hl; have HR := Lib.hid hr; have HX := Lib.hid h32
  clear hl hr h32
  unfold onlyFn
  go_enter Tryz.func90, Tryz.ntmps90
  go_wp2_with fail
  go_loop [8] (fun i => ∃ k : Nat, k ≤ n ∧ i = .int .i64 k ∧ ∀ i, i < k → k2 (xs.getD i 0) = true) (fun i => n - (intOf i).toNat)
  case atStart => exact ⟨0, by omega, rfl, fun i hi => by omega⟩
  case round =>
    obtain ⟨k, hk, rfl, hno⟩ := hrel
    have HNO := Lib.hid hno; clear hno
    by_cases hlt : k < n
    · obtain ⟨ad, u0, rfl, _, hx, hcell⟩ := HR.out.at_ hlt
      rw [u32s_get (by rw [HL.out]; exact hlt)] at hx
      injection hx with hx
      subst hx
      have HC := Lib.hid (fun w => onlyF_any (xs.getD k 0) (getD_u32 HX.out k) w)
      cases hv : k2 (xs.getD k 0)
      · have HA := Lib.hid hv
        rw [hv] at HC
        clear hv
        generalize hy : xs.getD k 0 = y at *
        have HY := Lib.hid hy
        clear hy
        go_wp2_with fail
        refine (HC.out _).mono ?_
        rintro e w' ⟨rfl, rfl⟩
        go_wp2_with fail
        go_ret
        exact ⟨rfl, .inr ⟨k, rfl, by rw [HL.out]; exact hlt, by rw [HY.out]; exact HA.out, HNO.out⟩⟩
      · have HA := Lib.hid (show ∀ i, i < k + 1 → k2 (xs.getD i 0) = true from fun i hi => by
          rcases Nat.lt_or_ge i k with h | h
          · exact HNO.out i h
          · obtain rfl : i = k := by omega
            exact hv)
        rw [hv] at HC
        clear hv
        generalize xs.getD k 0 = y at hcell HC
        go_wp2_with fail
        refine (HC.out _).mono ?_
        rintro e w' ⟨rfl, rfl⟩
        go_wp2_with fail
        go_round
        case rel => exact ⟨k + 1, by omega, by go_num, HA.out⟩
        case measure => simp [intOf]; omega
    · obtain rfl : k = n := by omega
      go_wp2_with fail
      go_ret
      refine ⟨rfl, .inl ⟨rfl, fun x hx => ?_⟩⟩
      obtain ⟨i, hi, rfl⟩ := List.getElem_of_mem hx
      have := HNO.out i (by rw [← HL.out]; exact hi)
      rw [List.getD_eq_getElem?_getD, List.getElem?_eq_getElem hi] at this
      exact this
/-- What deleting leaves: the slice is shorter, its block holds those that name objects. -/
def OnlyP (g c : Nat) (xs : List Nat) (w : World) (e : Ending) (w' : World) : Prop :=
  e = .returned (.slice (some ⟨g, 0, none⟩) (xs.filter k2).length c) ∧ Row w' g 43 c (u32s (xs.filter k2)) ∧ Frb g w w'
/-- On the way: the first j are looked at. -/
structure DelS (xs ys : List Nat) (i j : Nat) : Prop where
  len : ys.length = xs.length
  fst : ys.take i = (xs.take j).filter k2
  rest : ys.drop j = xs.drop j
  ij : i < j
  jl : j ≤ xs.length
theorem DelS.il {xs ys : List Nat} {i j : Nat} (D : DelS xs ys i j) : ((xs.take j).filter k2).length = i := by
  have := D.ij; have := D.jl; have := D.len
  rw [← D.fst, List.length_take]; omega
theorem DelS.start {xs : List Nat} {j : Nat} (hj : j < xs.length) (h0 : k2 (xs.getD j 0) = false) (h : ∀ i, i < j → k2 (xs.getD i 0) = true) : DelS xs xs j (j + 1) := by
  refine ⟨rfl, ?_, rfl, by omega, by omega⟩
  rw [List.take_add_one, List.getElem?_eq_getElem hj, List.filter_append]
  have e1 : (xs.take j).filter k2 = xs.take j := by
    rw [List.filter_eq_self]
    intro x hx
    obtain ⟨i, hi, rfl⟩ := List.getElem_of_mem hx
    rw [List.length_take] at hi
    have := h i (by omega)
    rw [List.getD_eq_getElem?_getD, List.getElem?_eq_getElem (by omega)] at this
    simpa using this
  rw [List.getD_eq_getElem?_getD, List.getElem?_eq_getElem hj] at h0
  have h0 : k2 xs[j] = false := by simpa using h0
  rw [e1]
  simp [h0]
theorem DelS.get {xs ys : List Nat} {i j : Nat} (D : DelS xs ys i j) (hj : j < xs.length) : ys.getD j 0 = xs.getD j 0 := by
  have h : (ys.drop j).getD 0 0 = (xs.drop j).getD 0 0 := by rw [D.rest]
  simpa [List.getD_eq_getElem?_getD] using h
theorem DelS.skip {xs ys : List Nat} {i j : Nat} (D : DelS xs ys i j) (hj : j < xs.length) (h : k2 (xs.getD j 0) = false) : DelS xs ys i (j + 1) := by
  have hij := D.ij
  refine ⟨D.len, ?_, ?_, by omega, by omega⟩
  · rw [D.fst, List.take_add_one, List.getElem?_eq_getElem hj, List.filter_append]
    rw [List.getD_eq_getElem?_getD, List.getElem?_eq_getElem hj] at h
    have h : k2 xs[j] = false := by simpa using h
    simp [h]
  · rw [← List.drop_drop, D.rest, List.drop_drop]
theorem DelS.keep {xs ys : List Nat} {i j : Nat} (D : DelS xs ys i j) (hj : j < xs.length) (h : k2 (xs.getD j 0) = true) : DelS xs (ys.set i (xs.getD j 0)) (i + 1) (j + 1) := by
  have hij := D.ij
  have hl := D.len
  refine ⟨by rw [List.length_set]; exact hl, ?_, ?_, by omega, by omega⟩
  · rw [List.take_add_one, List.getElem?_set_self (by omega), List.take_set_of_le (Nat.le_refl _), D.fst]
    rw [List.take_add_one, List.getElem?_eq_getElem hj, List.filter_append]
    rw [List.getD_eq_getElem?_getD, List.getElem?_eq_getElem hj] at h ⊢
    have h : k2 xs[j] = true := by simpa using h
    simp [h]
  · rw [List.drop_set, if_pos (by omega), ← List.drop_drop, D.rest, List.drop_drop]
theorem u32s_take (xs : List Nat) (i : Nat) : (u32s xs).take i = u32s (xs.take i) := by unfold u32s; rw [List.map_take]
theorem u32s_set (xs : List Nat) (i v : Nat) : u32s (xs.set i v) = (u32s xs).set i (.int .u32 (v : Nat)) := by unfold u32s; rw [List.map_set]
set_option maxRecDepth 100000 in
set_option maxHeartbeats 2000000 in
theorem deleteO_any {w : World} (g c : Nat) (xs : List Nat) (hR : Row w g 43 c (u32s xs)) (hn : xs.length ≤ 9223372036854775807) (h32 : ∀ x ∈ xs, x < 4294967296) :
    Calls Tryz.prog 67 #[.slice (some ⟨g, 0, none⟩) xs.length c, onlyFn] w (OnlyP g c xs w) := by
  have hrr := hR.reads (B := w.heap.size) hR.lt
  rw [u32s_len] at hrr
  have HI := Lib.hid (indexO_any (c := c) _ xs.length w.heap.size xs hn hrr h32)
  have HR := Lib.hid hR
  have HX := Lib.hid h32
  have hlc := hR.len_le
  rw [u32s_len] at hlc
  clear hR hrr h32
  unfold onlyFn at HI ⊢
  go_enter Tryz.func67, Tryz.ntmps67
  go_wp2_with fail
  refine HI.out.mono ?_
  rintro e w' ⟨rfl, ⟨rfl, hall⟩ | ⟨j, rfl, hj, hj0, hji⟩⟩
  · have HF := Lib.hid (show xs.filter k2 = xs from List.filter_eq_self.2 hall)
    clear hall HI
    go_wp2_with fail
    go_ret
    exact ⟨by rw [HF.out]; rfl, by rw [HF.out]; exact HR.out, Frb.refl _ _⟩
  · have HD0 := Lib.hid (DelS.start hj hj0 hji)
    have hm1 : ((j : Int) == -1) = false := by first | (simp; done) | (simp; omega)
    have hjn : j < xs.length := hj
    clear hj0 hji HI hj
    go_wp2_with fail
    go_loopw [5, 6] (fun vi vj wr => ∃ (i j' : Nat) (ys : List Nat), vi = .int .i64 i ∧ vj = .int .i64 j' ∧ DelS xs ys i j' ∧ Row wr g 43 c (u32s ys) ∧ Frb g w wr) (fun _ vj _ => xs.length - (intOf vj).toNat)
    case atStart => exact ⟨j, j + 1, xs, rfl, by go_num, HD0.out, HR.out, Frb.refl _ _⟩
    case round =>
      clear HD0 HR hm1 hjn
      obtain ⟨i, j', ys, rfl, rfl, hd, hrow, hfr⟩ := hrel
      have HD := Lib.hid hd
      have HW := Lib.hid hrow
      have HFR := Lib.hid hfr
      have hij := hd.ij
      have hjl := hd.jl
      have hyl := hd.len
      have hyl2 := Lib.hid hyl
      clear hd hrow hfr hyl
      by_cases hlt : j' < xs.length
      · have hc1 := HW.out.cell (u32s_get (l := ys) (i := j') (by rw [hyl2.out]; exact hlt))
        rw [HD.out.get hlt] at hc1
        have hfz := HW.out.frozen i
        have hold := HW.out.cell (u32s_get (l := ys) (i := i) (by rw [hyl2.out]; omega))
        have HC := Lib.hid (fun w => onlyF_any (xs.getD j' 0) (getD_u32 HX.out j') w)
        cases hv : k2 (xs.getD j' 0)
        · have HN := Lib.hid (HD.out.skip hlt hv)
          rw [hv] at HC
          clear hv
          generalize xs.getD j' 0 = y at hc1 HC
          go_wp2_with fail
          refine (HC.out _).mono ?_
          rintro e w' ⟨rfl, rfl⟩
          go_wp2_with fail
          go_roundw
          case rel => exact ⟨i, j' + 1, ys, rfl, by go_num, HN.out, HW.out, HFR.out⟩
          case measure => simp [intOf]; omega
        · have HN := Lib.hid (HD.out.keep hlt hv)
          rw [hv] at HC
          have HS := Lib.hid (HW.out.set i (.int .u32 (xs.getD j' 0 : Nat)))
          have HF2 := Lib.hid (HFR.out.trans (Frb.set g i wr (.int .u32 (xs.getD j' 0 : Nat))))
          rw [← u32s_set] at HS
          clear hv
          generalize xs.getD j' 0 = y at hc1 HC HS HF2 HN
          go_wp2_with fail
          refine (HC.out _).mono ?_
          rintro e w' ⟨rfl, rfl⟩
          go_wp2_with fail
          go_roundw
          case rel => exact ⟨i + 1, j' + 1, ys.set i y, by go_num, by go_num, HN.out, HS.out, HF2.out⟩
          case measure => simp [intOf]; omega
      · obtain rfl : j' = xs.length := by omega
        have HE := Lib.hid (show OnlyP g c xs w (.returned (.slice (some ⟨g, 0, none⟩) i c)) (wr.setCells g i (List.replicate (xs.length - i) (.int .u32 0))) from by
          have h1 := HD.out.fst
          have h2 := HD.out.il
          rw [List.take_length] at h1 h2
          refine ⟨by rw [h2], ?_, HFR.out.trans (Frb.setCells g _ i wr)⟩
          have h3 := HW.out.short i
          rw [u32s_take, h1] at h3
          exact h3.setCells _ i wr (by rw [u32s_len, h2]; exact Nat.le_refl _))
        have hcl : ∀ ty, (Builtin.clear_ #[23] ty #[.slice (some ⟨g, i, none⟩) (xs.length - i) (c - i)]).run Tryz.prog wr = .ok (.tuple #[]) (wr.setCells g i (List.replicate (xs.length - i) (.int .u32 0))) :=
          fun ty => Lib.run_clear_slice wr _ _ ty _ Tryz.underlying23 Tryz.zeroValue43 rfl rfl g i _ _ (by omega) (fun t ht => by
            rw [HW.out.cell (u32s_get (l := ys) (i := i + t) (by rw [hyl2.out]; omega))]; rfl) (fun t ht => HW.out.frozen _)
        have hne : ¬ c = i := by omega
        have hne2 : ¬ i = c := by omega
        clear HD HW HFR
        go_wp2_with fail
        go_ret
        exact HE.out
/-- Those that name objects. -/
theorem only_any {w : World} (g c : Nat) (xs : List Nat) (hR : Row w g 43 c (u32s xs)) (hn : xs.length ≤ 9223372036854775807) (h32 : ∀ x ∈ xs, x < 4294967296) :
    Calls Tryz.prog 41 #[.slice (some ⟨g, 0, none⟩) xs.length c] w (OnlyP g c xs w) := by
  have HD := Lib.hid (deleteO_any g c xs hR hn h32)
  clear hR h32
  unfold onlyFn at HD
  go_enter Tryz.func41, Tryz.ntmps41
  go_wp2_with fail
  refine HD.out.mono ?_
  rintro e w' ⟨rfl, h1, h2⟩
  have H1 := Lib.hid h1
  have H2 := Lib.hid h2
  clear h1 h2
  go_wp2_with fail
  go_ret
  exact ⟨rfl, H1.out, H2.out⟩
end Go.Proofs.YtblekggklimpeaaGreatDoor
