import Derived.Test.YtlkahgagmfhdaaaGreatDoorJCloneH
import Derived.Test.YtlkahgagmfhdaaaGreatDoorJMake
import Derived.Test.YtlkahgagmfhdaaaGreatDoorJLive
import Derived.Test.YtlkahgagmfhdaaaGreatDoorJAlloc
import Derived.Test.YtlkahgagmfhdaaaGreatDoorJShow
import Derived.Test.YtlkahgagmfhdaaaGreatDoorJOop
import Derived.Test.YtlkahgagmfhdaaaGreatDoorJMapIs
import Derived.Test.YtlkahgagmfhdaaaGreatDoorJText
import Derived.Test.YtlkahgagmfhdaaaGreatDoorJUntil
import Derived.Test.YtlkahgagmfhdaaaGreatDoorJLook
import Derived.RangeFuncNested
import Derived.RangeFuncBound
import Derived.RangeFuncCalls
import Derived.RangeFuncLeaves
import Derived.Shelf.Abstract
import Derived.Shelf.RegionOpen
import Derived.WalkKit
import Derived.OwnWalkIn
import Derived.TacticsInMore
import Derived.LoopNIn
import Derived.LoopIn
import Derived.Maps.OwnSet
import Derived.Carry
import Derived.Lib.SliceRun
set_option linter.unusedVariables false
set_option linter.unusedSimpArgs false
set_option linter.unusedSectionVars false
namespace Go.Proofs.YtlkahgagmfhdaaaGreatDoor
section
open Go.RowKit
attribute [local go_sem] Oper.semAt_some
structure KpB (m0 n0 : Nat) (w w' : World) : Prop where
 os : w'.os = w.os
 tape : w'.tape = w.tape
 output : w'.output = w.output
 size : w.heap.size ≤ w'.heap.size
 cells : ∀ k cs t fr, k < m0 ∨ n0 ≤ k → w.heap[k]? = some (.cells cs t fr) → w'.heap[k]? = some (.cells cs t fr)
theorem KpB.refl (m0 n0 : Nat) (w : World) : KpB m0 n0 w w := ⟨rfl, rfl, rfl, Nat.le_refl _, fun _ _ _ _ _ h => h⟩
theorem KpB.trans {m0 n0 : Nat} {a b c : World} (h : KpB m0 n0 a b) (k : KpB m0 n0 b c) : KpB m0 n0 a c :=
 ⟨k.os.trans h.os, k.tape.trans h.tape, k.output.trans h.output, Nat.le_trans h.size k.size, fun j cs t fr hj h1 => k.cells j cs t fr hj (h.cells j cs t fr hj h1)⟩
theorem lt_of_get {w : World} {k : Nat} {o : Obj} (h : w.heap[k]? = some o) : k < w.heap.size := by
 rcases Nat.lt_or_ge k w.heap.size with h1 | h1
 ·exact h1
 ·rw [Array.getElem?_eq_none h1] at h; cases h
theorem KpB.setCell {m0 n0 : Nat} {w w' : World} (h : KpB m0 n0 w w') {a : Addr} (h1 : m0 ≤ a.block) (h2 : a.block < n0) (u : Value) : KpB m0 n0 w (w'.setCell a u) :=
 ⟨h.os, h.tape, h.output, by simpa [World.setCell] using h.size, fun k cs t fr hk hh => (Below.heap_setCell w' a u k (fun e => by omega)).trans (h.cells k cs t fr hk hh)⟩
theorem KpB.book {m0 n0 : Nat} (W : World) (l : Nat) (o o' : Obj) (h : W.heap[l]? = some o) (hc : o.isCells = false) : KpB m0 n0 W (W.putObj l o') :=
 ⟨rfl, rfl, rfl, by simp, fun k cs t fr _ hk => by
   have hne : k ≠ l := by rintro rfl; rw [hk] at h; injection h with h; subst h; simp [Obj.isCells] at hc
   exact ((grownBy_putObj' W l o').block k (lt_of_get hk) (fun e => hne (by injection e))).trans hk⟩
theorem Blk.kept {m0 n0 : Nat} {w w' : World} {g : Nat} {t : TypeId} {cs : Array Value} (h : Blk w g t cs) (k : KpB m0 n0 w w') (hg : g < m0 ∨ n0 ≤ g) : Blk w' g t cs := k.cells g cs t (0, 0) hg h
theorem Row.kept {m0 n0 : Nat} {w w' : World} {g c : Nat} {e : TypeId} {xs : List Value} (h : Row w g e c xs) (k : KpB m0 n0 w w') (hg : g < m0 ∨ n0 ≤ g) : Row w' g e c xs := by
 obtain ⟨cur, h, r⟩ := h
 exact ⟨cur, h.kept k hg, r⟩
theorem HAt.kept {m0 n0 : Nat} {w w' : World} {p : HP} {h : HM} (H : HAt w p h) (k : KpB m0 n0 w w') (hp : ∀ j, p.has j → j < m0 ∨ n0 ≤ j) : HAt w' p h :=
 ⟨H.1.kept k (hp _ (.inl rfl)), H.2.1.kept k (hp _ (.inr (.inl rfl))), H.2.2.1.kept k (hp _ (.inr (.inr (.inl rfl)))), H.2.2.2.kept k (hp _ (.inr (.inr (.inr rfl))))⟩
def oopI (l : List Ob) (k : Nat) : Nat := if k < l.length then 2 * posOf (l.take k) else 0
def allV (l : List Ob) (i : Fin l.length) : Array Value := #[.int .u32 ((2 * posOf (l.take i.1) : Nat) : Int), (l[i.1]'i.2).x.val]
def mesO (v : Value) : Nat := if intOf v = 0 then 0 else 4294967296 - (intOf v).toNat
theorem mesO_nat (n : Nat) : mesO (.int .u32 (n : Int)) = if n = 0 then 0 else 4294967296 - n := by
 show (if ((n : Int)) = 0 then 0 else 4294967296 - ((n : Int)).toNat) = _
 by_cases h : n = 0
 ·subst h; rfl
 ·rw [if_neg (by omega), if_neg h, Int.toNat_natCast]
theorem mesO_lt {o no : Nat} (h : no = 0 ∨ o < no) (h0 : 0 < o) (h1 : o < 4294967296) (h2 : no < 4294967296) : mesO (.int .u32 (no : Int)) < mesO (.int .u32 (o : Int)) := by
 rw [mesO_nat, mesO_nat]
 rcases h with h | h
 ·rw [if_pos h, if_neg (by omega)]; omega
 ·rw [if_neg (by omega), if_neg (by omega)]; omega
theorem posOf_take_lt {h : HM} {l : List Ob} (G : h.Good l) (k : Nat) (hk : k < l.length) : posOf (l.take k) + 3 ≤ h.words.length := by
 have L := G.laid
 have e : l = l.take k ++ l[k] :: l.drop (k + 1) := by rw [List.getElem_cons_drop, List.take_append_drop]
 have L' := L
 rw [e] at L'
 have := L'.words_len
 omega
theorem posOf_pos (a : List Ob) : 1 ≤ posOf a := by unfold posOf; omega
theorem posOf_take_succ {l : List Ob} (k : Nat) (hk : k < l.length) : posOf (l.take k) < posOf (l.take (k + 1)) := by
 have et : l.take (k + 1) = l.take k ++ [l[k]] := by rw [List.take_add_one, List.getElem?_eq_getElem hk]; rfl
 rw [et, posOf_snoc]
 omega
section
variable {w : World} {p : HP} {h : HM} {l : List Ob}
theorem split_at (l : List Ob) (k : Nat) (hk : k < l.length) : l = l.take k ++ l[k] :: l.drop (k + 1) := by
 rw [List.getElem_cons_drop, List.take_append_drop]
theorem first_oopI (G : h.Good l) : h.objM 1 = oopI l 0 := by
 have : h.objM (posOf []) = oopAt [] l := HM.Laid.objM_at (a := []) G.laid
 change h.objM 1 = _ at this
 rw [this]
 unfold oopI oopAt
 cases l with
 | nil => rfl
 | cons b l => simp
theorem next_oopI (G : h.Good l) (k : Nat) (hk : k < l.length) : h.nextO (2 * posOf (l.take k)) = oopI l (k + 1) := by
 have L := G.laid
 have e := split_at l k hk
 have L' := L
 rw [e] at L'
 rw [L'.nextO_at]
 have et : l.take k ++ [l[k]] = l.take (k + 1) := by rw [List.take_add_one, List.getElem?_eq_getElem hk]; rfl
 rw [et]
 unfold oopI oopAt
 rcases Nat.lt_or_ge (k + 1) l.length with h1 | h1
 ·rw [if_pos h1]
  cases hd : l.drop (k + 1) with
  | nil => have := congrArg List.length hd; simp at this; omega
  | cons b c => rfl
 ·rw [List.drop_of_length_le h1, if_pos rfl, if_neg (by omega)]
theorem isB_at (G : h.Good l) (k : Nat) (hk : k < l.length) : h.isB (2 * posOf (l.take k)) = true :=
 (G.laid.isB_iff _).2 ⟨_, _, _, split_at l k hk, rfl⟩
theorem hd_at' (G : h.Good l) (k : Nat) (hk : k < l.length) : h.hd (posOf (l.take k)) = (l[k]).x := by
 have L := G.laid
 have e := split_at l k hk
 have L' := L
 rw [e] at L'
 have := L'.hd_at
 exact this
end
set_option maxRecDepth 100000 in
set_option maxHeartbeats 4000000 in
theorem all_stops {w : World} {p : HP} {h : HM} {l : List Ob} (H : HAt w p h) (G : h.Good l) (hs : Spares w) (n Bh m0 : Nat) (hbox : w.cell? ⟨Bh, 0, none⟩ = some (ptr p.g)) (hsp : 0 < m0) :
 SeqStopsK Fence.wide n Tryz.prog 129 #[.pointer (some ⟨Bh, 0, none⟩)] (allV l) (KpB m0 w.heap.size) (fun xs => xs = List.finRange l.length) (fun pre => pre <+: List.finRange l.length) l.length w :=
 fun lp J Jx W hW hJ hJx hY h0 => by
 have hBh := World.block_lt_of_cell? _ _ hbox
 have HW := H.below hW
 have hbW : W.cell? ⟨Bh, 0, none⟩ = some (ptr p.g) := (hW.cell (p := ⟨Bh, 0, none⟩) hBh).trans hbox
 have HC := Lib.hid (Clone_any HW G.fit)
 have HsW := hs.below hW
 refine callsIn_of_wp Tryz.func129 rfl trivial ?_ rfl
 simp only [Tryz.ntmps129, List.size_toArray, List.length_cons, List.length_nil, Nat.reduceAdd, Nat.reduceSub, Array.replicate_succ, Array.replicate_zero, List.push_toArray, List.append_toArray, List.nil_append, List.cons_append]
 unfold ptr at hbW HC
 have HY := Lib.hid hY
 have HJ := Lib.hid (show ∀ s A B, J s A → Below A.heap.size A B → J s B from fun s A B hs hb => hJ s A B none hs ⟨hb.os, hb.tape, hb.output, hb.size, fun k hk _ => hb.block k hk⟩ (fun r e => by cases e))
 have HJ0 := Lib.hid h0
 have HWD := Lib.hid hW
 clear hY hJ hJx h0 hW
 gi_wp2_with fail
 refine ⟨trivial, fun hh => (by cases hh), (callsIn_wide.2 HC.out).mono ?_⟩
 rintro e W1 ⟨pc, rfl, Hc, hnew, hb1⟩
 have HJ1 := HJ.out _ _ _ HJ0.out hb1
 have Hs1 := HsW.below hb1
 have HN := Lib.hid hnew
 have HF := Lib.hid (first_any Hc G.fit)
 rw [first_oopI G] at HF
 unfold ptr at HF
 clear hbW hnew
 gi_wp2_with fail
 refine ⟨trivial, fun hh => (by cases hh), (callsIn_wide.2 HF.out).mono ?_⟩
 rintro e W2 ⟨rfl, rfl⟩
 have HH := Lib.hid (show HAt W1 pc h ∧ Spares W1 ∧ J ((List.finRange l.length).take 0) W1 from ⟨Hc, Hs1, HJ1⟩)
 clear Hc Hs1 HJ1 hb1
 gi_wp2_with fail
 gi_loopw [4] (fun o wr => ∃ k : Nat, k ≤ l.length ∧ o = .int .u32 ((oopI l k : Nat) : Int) ∧ HAt wr pc h ∧ Spares wr ∧ J ((List.finRange l.length).take k) wr) (fun o wr => mesO o)
 case atStart => exact ⟨0, by omega, rfl, HH.out.1, HH.out.2.1, HH.out.2.2⟩
 case round =>
  obtain ⟨k, hk, rfl, Hk, hsk, hjk⟩ := hrel
  by_cases hlt : k < l.length
  ·have hroom := G.fit.room
   have hhi := G.fit.hi
   have hpl := posOf_take_lt G k hlt
   have hpp := posOf_pos (l.take k)
   have hO := Lib.hid (show oopI l k = 2 * posOf (l.take k) by unfold oopI; rw [if_pos hlt])
   have hN := Lib.hid (next_oopI G k hlt)
   have hB := isB_at G k hlt
   have HX := Lib.hid (hd_at' G k hlt)
   have HAT := Lib.hid (fun w => at_any pc.g (2 * posOf (l.take k)) (by omega) (objB_pos _) w)
   have HHD := Lib.hid (fun w' (H : HAt w' pc h) (hs : Spares w') => header_any H G.fit hs (posOf (l.take k)) (G.laid.heads _ (by unfold HM.isB at hB; simp only [Bool.and_eq_true, half_pos] at hB; exact hB.2)))
   have HNX := Lib.hid (fun w' (H : HAt w' pc h) (hs : Spares w') => next_any H G.fit G.laid.heads hs (2 * posOf (l.take k)) (by omega))
   have HNV := Lib.hid (show h.nextV (2 * posOf (l.take k)) = .tuple #[.int .u32 (oopI l (k + 1) : Nat), .int .i64 0] by unfold HM.nextV; rw [if_pos hB, hN.out])
   have HME := Lib.hid (show oopI l (k + 1) = 0 ∨ 2 * posOf (l.take k) < oopI l (k + 1) by
    unfold oopI
    split
    ·have := posOf_take_succ k hlt; right; omega
    ·exact .inl rfl)
   have HMX := Lib.hid (show oopI l (k + 1) < 4294967296 by
    unfold oopI
    split
    ·rename_i h1; have := posOf_take_lt G (k + 1) h1; omega
    ·omega)
   have HTK := Lib.hid (show (List.finRange l.length).take k ++ [⟨k, hlt⟩] = (List.finRange l.length).take (k + 1) by
    rw [List.take_add_one, List.getElem?_eq_getElem (by simpa using hlt)]; simp)
   have HPL := Lib.hid (show ((List.finRange l.length).take k).length < l.length by simp; omega)
   have HAV := Lib.hid (show allV l ⟨k, hlt⟩ = #[.int .u32 ((2 * posOf (l.take k) : Nat) : Int), .agg #[.int .i64 (l[k].x.size : Nat), .int .i64 (l[k].x.fmt : Nat), .int .i64 (l[k].x.spare : Nat), .int .u32 (l[k].x.cls : Nat), .int .u32 (l[k].x.ser : Nat)]] from rfl)
   have HXV := Lib.hid (show (h.hd (posOf (l.take k))).val = .agg #[.int .i64 (l[k].x.size : Nat), .int .i64 (l[k].x.fmt : Nat), .int .i64 (l[k].x.spare : Nat), .int .u32 (l[k].x.cls : Nat), .int .u32 (l[k].x.ser : Nat)] by rw [HX.out]; rfl)
   have HK := Lib.hid (show HAt wr pc h ∧ Spares wr ∧ J ((List.finRange l.length).take k) wr from ⟨Hk, hsk, hjk⟩)
   have HYk := Lib.hid (fun W1 hj => HY.out ((List.finRange l.length).take k) ⟨k, hlt⟩ W1 hj HPL.out)
   rw [HAV.out] at HYk
   rw [hO.out]
   rw [HXV.out] at HHD
   rw [HNV.out] at HNX
   rw [half_pos] at HAT
   clear Hk hsk hjk hB hO HX hN HXV HNV HAV HPL HH
   generalize (⟨k, hlt⟩ : Fin l.length) = xk at *
   generalize l[k].x = X at *
   have ho : (((2 * posOf (l.take k) : Nat) : Int) != 0) = true := by simp; omega
   have HO32 := Lib.hid (show 2 * posOf (l.take k) < 4294967296 ∧ 0 < 2 * posOf (l.take k) by omega)
   generalize hq : 2 * posOf (l.take k) = o at *
   clear hq
   generalize posOf (l.take k) = q at *
   unfold ptr at HAT HHD HNX
   gi_wp2_with fail
   refine ⟨trivial, fun hh => (by cases hh), (callsIn_wide.2 (HAT.out _)).mono ?_⟩
   rintro e W3 ⟨rfl, rfl⟩
   gi_wp2_with fail
   refine ⟨trivial, fun hh => (by cases hh), (callsIn_wide.2 (HHD.out _ HK.out.1 HK.out.2.1)).mono ?_⟩
   rintro e W4 ⟨rfl, hb4⟩
   have HK4 := Lib.hid (show HAt W4 pc h ∧ Spares W4 ∧ J ((List.finRange l.length).take k) W4 from ⟨HK.out.1.below hb4, HK.out.2.1.below hb4, HJ.out _ _ _ HK.out.2.2 hb4⟩)
   clear hb4 HK
   obtain ⟨fn, tmps, assign, body, hy, hR⟩ := HYk.out W4 HK4.out.2.2
   gi_wp2_with fail
   refine ⟨fun hh => (by cases hh), hR.mono ?_⟩
   rintro e W5 (⟨rfl, hJ5, hk5⟩ | ⟨rfl, hx5⟩)
   ·have HK5 := Lib.hid (show HAt W5 pc h ∧ Spares W5 ∧ J ((List.finRange l.length).take (k + 1)) W5 from
     ⟨HK4.out.1.kept hk5 (fun j hj => .inr (Nat.le_trans HWD.out.size (HN.out j hj))), (fun i hi => by
       have hc := HK4.out.2.1 i hi
       have hb := World.block_lt_of_cell? _ _ hc
       cases ho : W4.heap[0]? with
       | none => simp [World.cell?, ho] at hc
       | some ob =>
         cases ob with
         | cells cs t fr => exact (World.cell?_of_block (a := ⟨0, i, none⟩) ((hk5.cells _ cs t fr (.inl hsp) ho).trans ho.symm)).trans hc
         | _ => simp [World.cell?, ho] at hc), by rw [← HTK.out]; exact hJ5⟩)
    clear hJ5 hk5 hy hR HK4
    gi_wp2_with fail
    refine ⟨trivial, fun hh => (by cases hh), (callsIn_wide.2 (HNX.out _ HK5.out.1 HK5.out.2.1)).mono ?_⟩
    rintro e W6 ⟨rfl, hb6⟩
    have HK6 := Lib.hid (show HAt W6 pc h ∧ Spares W6 ∧ J ((List.finRange l.length).take (k + 1)) W6 from ⟨HK5.out.1.below hb6, HK5.out.2.1.below hb6, HJ.out _ _ _ HK5.out.2.2 hb6⟩)
    clear hb6 HK5
    generalize hno : oopI l (k + 1) = no at *
    have HNO := Lib.hid hno
    clear hno
    gi_wp2_with fail
    go_roundw
    case rel => exact ⟨k + 1, by omega, by rw [HNO.out], HK6.out.1, HK6.out.2.1, HK6.out.2.2⟩
    case measure => exact mesO_lt HME.out HO32.out.2 HO32.out.1 HMX.out
   ·clear hy HK4
    gi_wp2_with fail
    refine bodyPost_ret (results_none rfl _ _ _) rfl ?_
    exact ⟨⟨_, rfl⟩, .inr ⟨_, ⟨(List.finRange l.length).drop (k + 1), by rw [HTK.out, List.take_append_drop]⟩, hx5⟩⟩
  ·obtain rfl : k = l.length := by omega
   have hO := Lib.hid (show oopI l l.length = 0 by unfold oopI; rw [if_neg hlt])
   have HFin := Lib.hid (show J (List.finRange l.length) wr by have := hjk; rw [List.take_of_length_le (by simp)] at this; exact this)
   rw [hO.out]
   clear Hk hsk hjk hlt hk
   gi_wp2_with fail
   go_end0
   exact ⟨⟨_, rfl⟩, .inl ⟨_, rfl, HFin.out⟩⟩
end
section
open Go.RowKit
attribute [local go_sem] Oper.semAt_some
theorem all_any (g : Nat) (w : World) : Calls Tryz.prog 53 #[ptr g] w fun e w' => e = .returned (.func (.func 129) #[] #[.pointer (some ⟨w.heap.size, 0, none⟩)]) ∧ w' = w.alloc (.cells #[ptr g] 23) := by
 unfold ptr
 go_enter Tryz.func53, Tryz.ntmps53
 go_wp2_with fail
 go_ret
 exact ⟨rfl, rfl⟩
end
section
open Go.RowKit
attribute [local go_sem] Oper.semAt_some
section
variable {w : World} {p : HP} {h : HM} (R : RAt w p h) (f : h.Fit)
include R f
theorem rfirst_any : Calls Tryz.prog 80 #[ptr p.g] w (Said (.int .u32 (h.objM 1 : Nat)) w) := by
 have c1 := R.c1
 have hone := f.one
 have hroom := f.room
 have hhi := f.hi
 unfold ptr
 by_cases h1 : h.words.length = 1
 ·have HF := Lib.hid (show h.objM 1 = 0 by unfold HM.objM; rw [if_pos (by omega)])
  have hb : (((h.words.length : Nat) : Int) == 1) = true := by simp; omega
  clear h1 R
  generalize h.words.length = N at *
  go_enter Tryz.func80, Tryz.ntmps80
  go_wp2_with fail
  go_ret
  exact ⟨by rw [HF.out]; rfl, rfl⟩
 ·have HF := Lib.hid (show h.objM 1 = 2 by unfold HM.objM; rw [if_neg (by omega)])
  have hb : (((h.words.length : Nat) : Int) == 1) = false := by simp; omega
  clear h1 R
  generalize h.words.length = N at *
  go_enter Tryz.func80, Tryz.ntmps80
  go_wp2_with fail
  go_ret
  exact ⟨by rw [HF.out]; rfl, rfl⟩
set_option maxRecDepth 100000 in
set_option maxHeartbeats 4000000 in
theorem rnext_any (hh : h.Heads) (o : Nat) (ho : o < 4294967296) (hi : h.isB o = true) : Calls Tryz.prog 150 #[ptr p.g, .int .u32 o] w (Told (.int .u32 (h.nextO o : Nat)) w) := by
 have hd := HM.isB_hd hh hi
 have HH := Lib.hid (rheader_any R f o ho hd)
 have HC := Lib.hid (fun w' (hb : Below w.heap.size w w') => (R.below hb).c1)
 have hfl := fld0
 have hroom := f.room
 have hhi := f.hi
 have hle := hd.1
 have hs := (HM.hd_fit f (o / 2)).size
 unfold Hd.val at HH
 unfold ptr at HH ⊢
 have hq : ((o : Int) / 2) = ((o / 2 : Nat) : Int) := by omega
 have HN : h.nextO o = h.objM (o / 2 + 3 + (h.hd (o / 2)).size) := rfl
 clear R hi hd
 generalize h.hd (o / 2) = X at *
 generalize o / 2 = q at *
 have HF := Lib.hid HN
 clear HN
 by_cases he : q + 3 + X.size = h.words.length
 ·have HF2 := Lib.hid (show h.nextO o = 0 by rw [HF.out]; unfold HM.objM; rw [if_pos (by omega)])
  have hb : (((q : Int) + 3 + (X.size : Int)) == ((h.words.length : Nat) : Int)) = true := by simp; omega
  clear HF
  generalize h.words.length = N at *
  go_enter Tryz.func150, Tryz.ntmps150
  go_wp2_with fail
  refine HH.out.mono ?_
  rintro e w1 ⟨rfl, hb1⟩
  have c1 := HC.out w1 hb1
  have HB1 := Lib.hid hb1
  clear hb1 HC
  go_wp2_with fail
  go_ret
  exact ⟨by rw [HF2.out]; rfl, HB1.out⟩
 ·have HF2 := Lib.hid (show h.nextO o = 2 * (q + 3 + X.size) by rw [HF.out]; unfold HM.objM; rw [if_neg (by omega)])
  have hb : (((q : Int) + 3 + (X.size : Int)) == ((h.words.length : Nat) : Int)) = false := by simp; omega
  clear HF
  generalize h.words.length = N at *
  go_enter Tryz.func150, Tryz.ntmps150
  go_wp2_with fail
  refine HH.out.mono ?_
  rintro e w1 ⟨rfl, hb1⟩
  have c1 := HC.out w1 hb1
  have HB1 := Lib.hid hb1
  clear hb1 HC
  go_wp2_with fail
  go_ret
  exact ⟨by rw [HF2.out]; rw [show (((2 * (q + 3 + X.size) : Nat)) : Int) = 2 * ((q : Int) + 3 + (X.size : Int)) by omega]; rfl, HB1.out⟩
end
end
section
open Go.RowKit
attribute [local go_sem] Oper.semAt_some
section
variable {w : World} {p : HP} {h : HM} (R : RAt w p h) (f : h.Fit) (o : Nat) (ho : o < 4294967296) (hh : h.Heads)
include R f ho hh
end
end
section
open Go.RowKit Go.Sort Go.Lib
section
variable {w : World} {p : HP} {h : HM} (R : RAt w p h) (f : h.Fit) (hh : h.Heads) (hp : Pow w) (o : Nat) (ho : o < 4294967296) (hi : h.isB o = true)
include R f hh hp ho hi
end
end
section
open Go.RowKit
attribute [local go_sem] Oper.semAt_some
end
section
open Go.RowKit
attribute [local go_sem] Oper.semAt_some
end
section
open Go.RowKit Go.Maps
attribute [local go_sem] Oper.semAt_some
theorem spareE_last (ys : List Nat) {y s : Nat} (hs : s ≤ 3) (hy : y < 4294967296) : spareE (ys ++ [y]) s = 0 ↔ y / 2 ^ (32 - 8 * s) = 0 := by
 have e : (bytesM (ys ++ [y])).drop (4 * (ys ++ [y]).length - s) = (bytes4 y).drop (4 - s) := by
  rw [bytesM_app, List.drop_append, List.drop_eq_nil_of_le (by rw [bytesM_len]; simp; omega), List.nil_append, bytesM_len]
  have : bytesM [y] = bytes4 y := by simp [bytesM]
  rw [this]
  congr 1
  simp; omega
 unfold spareE
 rw [e]
 have h4 : s = 0 ∨ s = 1 ∨ s = 2 ∨ s = 3 := by omega
 rcases h4 with rfl | rfl | rfl | rfl
 ·simp [bytes4]; omega
 ·simp [bytes4]; omega
 ·simp [bytes4]; omega
 ·simp [bytes4]; omega
def HM.badF (h : HM) (b : Ob) (y : Nat) : Bool := b.x.ptrB && !h.valB y
def badS (b : Ob) (k y : Nat) : Bool := (decide (k + 1 = b.x.size) && !decide (y / 2 ^ (32 - 8 * b.x.spare) = 0)) && decide (0 < b.x.spare)
def HM.okTo (h : HM) (b : Ob) (k : Nat) : Prop := ∀ j, j < k → h.badF b (b.fs.getD j 0) = false ∧ badS b j (b.fs.getD j 0) = false
theorem HM.okTo_succ {h : HM} {b : Ob} {k : Nat} (ho : h.okTo b k) (h1 : h.badF b (b.fs.getD k 0) = false) (h2 : badS b k (b.fs.getD k 0) = false) : h.okTo b (k + 1) := fun j hj => by
 rcases Nat.lt_or_ge j k with h3 | h3
 ·exact ho j h3
 ·obtain rfl : j = k := by omega
  exact ⟨h1, h2⟩
theorem may_spare {x : Hd} (m : x.may = true) : x.size ≤ 65535 ∧ (0 < x.spare → x.fmt = 2 ∧ 0 < x.size) := by
 unfold Hd.may at m
 simp only [Bool.and_eq_true, Bool.or_eq_true, decide_eq_true_eq] at m
 omega
theorem HM.okTo_ob {h : HM} {b : Ob} (K : b.Ok) (ho : h.okTo b b.x.size) : (b.x.ptrB = true → ∀ f ∈ b.fs, h.valB f = true) ∧ (b.x.fmt = 2 → spareE b.fs b.x.spare = 0) := by
 have hsz := K.size
 constructor
 ·intro hp f hf
  obtain ⟨j, hj, rfl⟩ := List.mem_iff_getElem.1 hf
  have := (ho j (by omega)).1
  rw [List.getD_eq_getElem?_getD, List.getElem?_eq_getElem hj] at this
  unfold HM.badF at this
  rw [hp] at this
  simpa using this
 ·intro h2
  by_cases hs : b.x.spare = 0
  ·rw [hs]; exact spareE_zero _
  ·have hm := (may_spare K.may).2 (by omega)
   have hs3 : b.x.spare ≤ 3 := by have := K.fit.spare; omega
   have h1 := (ho (b.x.size - 1) (by omega)).2
   have hne : b.fs ≠ [] := fun e => by rw [e] at hsz; simp at hsz; omega
   have hlast : b.fs.getD (b.x.size - 1) 0 = b.fs.getLast hne := by
    rw [List.getLast_eq_getElem, List.getD_eq_getElem?_getD, List.getElem?_eq_getElem (by omega)]
    simp only [Option.getD_some]
    congr 1
    omega
   rw [hlast] at h1
   unfold badS at h1
   rw [decide_eq_true (show b.x.size - 1 + 1 = b.x.size by omega), decide_eq_true (show 0 < b.x.spare by omega)] at h1
   have h3 : b.fs.getLast hne / 2 ^ (32 - 8 * b.x.spare) = 0 := by simpa using h1
   have h4 := (spareE_last b.fs.dropLast hs3 (K.f32 _ (List.getLast_mem hne))).2 h3
   rw [List.dropLast_concat_getLast] at h4
   exact h4
theorem HM.not_ob_of_bad {h : HM} {b : Ob} {k : Nat} (K : b.Ok) (hk : k < b.x.size) (hb : h.badF b (b.fs.getD k 0) = true ∨ badS b k (b.fs.getD k 0) = true) : ¬ h.ObOk b := fun ok => by
 have hsz := K.size
 have hkl : k < b.fs.length := by omega
 have hg : b.fs.getD k 0 = b.fs[k]'hkl := by rw [List.getD_eq_getElem?_getD, List.getElem?_eq_getElem hkl]; rfl
 rcases hb with hb | hb
 ·unfold HM.badF at hb
  simp only [Bool.and_eq_true, Bool.not_eq_true'] at hb
  have := ok.flds hb.1 (b.fs.getD k 0) (by rw [hg]; exact List.getElem_mem hkl)
  rw [hb.2] at this
  cases this
 ·unfold badS at hb
  simp only [Bool.and_eq_true, decide_eq_true_eq, Bool.not_eq_true', decide_eq_false_iff_not] at hb
  obtain ⟨⟨h1, h2⟩, h3⟩ := hb
  have hm := (may_spare K.may).2 h3
  have hs3 : b.x.spare ≤ 3 := by have := K.fit.spare; omega
  have hne : b.fs ≠ [] := fun e => by rw [e] at hsz; simp at hsz; omega
  have h4 := ok.spare hm.1
  rw [← List.dropLast_concat_getLast hne] at h4
  have h5 := (spareE_last b.fs.dropLast hs3 (K.f32 _ (List.getLast_mem hne))).1 h4
  apply h2
  rw [hg]
  rw [List.getLast_eq_getElem] at h5
  have : b.fs.length - 1 = k := by omega
  simp only [this] at h5
  exact h5
theorem RAt.fields {w : World} {p : HP} {h : HM} {a c : List Ob} {b : Ob} (H : RAt w p h) (L : h.Laid (a ++ b :: c)) {j : Nat} (hj : j < b.fs.length) : w.cell? ⟨p.gw, posOf a + 3 + j, none⟩ = some (.int .u32 (b.fs.getD j 0 : Nat)) := by
 have hwl := L.words_len
 have := H.word (i := posOf a + 3 + j) (by omega)
 rw [this]
 have e := L.f_at j hj
 unfold fw at e
 rw [half_pos] at e
 rw [← e]
 rfl
set_option maxRecDepth 100000 in
set_option maxHeartbeats 4000000 in
theorem keeps_any {w : World} {p : HP} {h : HM} {l : List Ob} (R : RAt w p h) (f : h.Fit) (L : h.Laid l) : Calls Tryz.prog 149 #[ptr p.g] w (SoundP h l w) := by
 have hmm := @run_makeMap Tryz.prog
 have hW1 : Below w.heap.size w (w.alloc (.map #[] 0)) := (Below.refl _ _).alloc (Nat.le_refl _) _
 have HR := Lib.hid R; have HF := Lib.hid f; have HL := Lib.hid L
 have HFI := Lib.hid (fun (w' : World) (hb : Below w.heap.size w w') => rfirst_any (R.below hb) f)
 have HFO := Lib.hid (show h.objM 1 = oopAt [] l from HM.Laid.objM_at (a := []) L)
 have MM := MapIs.made w 32
 clear R f L
 unfold ptr at HFI ⊢
 go_enter Tryz.func149, Tryz.ntmps149
 go_wp2_with fail
 refine (HFI.out _ hW1).mono ?_
 rintro e w' ⟨rfl, rfl⟩
 rw [HFO.out]
 generalize hW : w.alloc (.map #[] 0) = W1 at *
 clear hW
 have HM0 := Lib.hid (show SoundMid h w.heap.size [] w W1 from ⟨h.upTo_nil, MM, hW1⟩)
 clear MM hW1
 go_wp2_with fail
 have hne0 : w.heap.size ≠ p.gw := by have := HR.out.lt (.inr (.inl rfl)); omega
 go_loopg [4] (l.length + 1) (fun k o wr => ∃ a c, l = a ++ c ∧ k = c.length + 1 ∧ o = .int .u32 (oopAt a c : Nat) ∧ SoundMid h w.heap.size a w wr)
 case atStart => exact ⟨[], l, rfl, rfl, rfl, HM0.out⟩
 case round =>
  obtain ⟨a, c, hl, hgk, rfl, ⟨hup, hmap, hb⟩⟩ := hrel
  have HLL := Lib.hid hl
  have HGK := Lib.hid hgk
  clear HM0 hl hgk
  cases c with
  | nil =>
    have ho : oopAt a [] = 0 := rfl
    rw [ho]
    have Hr := HR.out.below hb
    have c2 := Hr.c2
    have hroots := HF.out.roots
    have HB := Lib.hid hb
    have HCELL := Lib.hid (fun j (hj : j < h.roots.length) => Hr.root (i := j) hj)
    have HVC := Lib.hid (fun o ho => rvalb_any Hr HF.out o ho)
    have HUP := Lib.hid hup
    clear hb hup hmap Hr
    unfold ptr at HVC
    have hno : (0 : Int) = 0 := rfl
    go_wp2_with fail
    go_loopw [8] (fun i wq => ∃ k : Nat, k ≤ h.roots.length ∧ i = .int .i64 k ∧ (∀ j, j < k → h.valB (h.roots.getD j 0) = true) ∧ wq = wr) (fun i _ => h.roots.length - (intOf i).toNat)
    case atStart => exact ⟨0, by omega, rfl, fun j hj => by omega, rfl⟩
    case round =>
     obtain ⟨k, hk, rfl, hall, rfl⟩ := hrel
     have HALL := Lib.hid hall
     clear hall
     by_cases hlt : k < h.roots.length
     ·have hx := HCELL.out k hlt
      have hy : h.roots.getD k 0 < 4294967296 := by
       rw [List.getD_eq_getElem?_getD, List.getElem?_eq_getElem hlt]
       exact HF.out.r32 _ (List.getElem_mem _)
      have HVK := Lib.hid (HVC.out _ hy)
      cases hv : h.valB (h.roots.getD k 0)
      ·have HBAD := Lib.hid (show ¬ h.Sound l from fun s => by
        have := ((h.sound_iff _).1 s).2 (h.roots.getD k 0) (by rw [List.getD_eq_getElem?_getD, List.getElem?_eq_getElem hlt]; exact List.getElem_mem _)
        rw [hv] at this; cases this)
       rw [hv] at HVK
       clear hv
       generalize h.roots.getD k 0 = y at *
       generalize h.roots.length = N at *
       go_wp2_with fail
       refine HVK.out.mono ?_
       rintro e w' ⟨rfl, rfl⟩
       go_wp2_with fail
       go_ret
       exact ⟨false, rfl, ⟨(fun e => by cases e), fun s => absurd s HBAD.out⟩, HB.out⟩
      ·have HNA := Lib.hid (show ∀ j, j < k + 1 → h.valB (h.roots.getD j 0) = true from fun j hj => by
        rcases Nat.lt_or_ge j k with h1 | h1
        ·exact HALL.out j h1
        ·obtain rfl : j = k := by omega
         exact hv)
       rw [hv] at HVK
       clear hv
       have HKL := Lib.hid hlt
       generalize h.roots.getD k 0 = y at *
       go_wp2_with fail
       refine HVK.out.mono ?_
       rintro e w' ⟨rfl, rfl⟩
       go_wp2_with fail
       go_roundw
       case rel => exact ⟨k + 1, HKL.out, by go_num, HNA.out, by first | trivial | rfl⟩
       case measure => simp [intOf]; omega
     ·obtain rfl : k = h.roots.length := by omega
      have HS2 := Lib.hid (show h.Sound l by
       rw [h.sound_iff, HLL.out, List.append_nil]
       refine ⟨HUP.out, fun r hr => ?_⟩
       obtain ⟨j, hj, rfl⟩ := List.mem_iff_getElem.1 hr
       have := HALL.out j hj
       rw [List.getD_eq_getElem?_getD, List.getElem?_eq_getElem hj] at this
       exact this)
      go_wp2_with fail
      go_ret
      exact ⟨true, rfl, ⟨fun _ => HS2.out, fun _ => rfl⟩, HB.out⟩
  | cons b c =>
    have L := HL.out
    rw [HLL.out] at L
    have ho : oopAt a (b :: c) = 2 * posOf a := rfl
    have hp1 : 1 ≤ posOf a := by unfold posOf; omega
    rw [ho]
    have K := L.ok_at
    have hsz := K.size
    have hwl : posOf a + 3 + b.x.size ≤ h.words.length := by have := L.words_len; omega
    have hroom := HF.out.room
    have hhi := HF.out.hi
    have hi : h.isB (2 * posOf a) = true := (HL.out.isB_iff _).2 ⟨a, b, c, HLL.out, rfl⟩
    have HHD := Lib.hid (rheader_any (HR.out.below hb) HF.out (2 * posOf a) (by omega) (by rw [half_pos]; exact L.hdAt_at))
    rw [half_pos, L.hd_at] at HHD
    rw [show b.x.val = .agg #[.int .i64 b.x.size, .int .i64 b.x.fmt, .int .i64 b.x.spare, .int .u32 b.x.cls, .int .u32 b.x.ser] from rfl] at HHD
    have HNX := Lib.hid (fun w' (hb : Below w.heap.size w w') => show Calls Tryz.prog 150 #[ptr p.g, .int .u32 (2 * posOf a : Nat)] w' (Told (.int .u32 (oopAt (a ++ [b]) c : Nat)) w') from by
     have := rnext_any (HR.out.below hb) HF.out HL.out.heads (2 * posOf a) (by omega) hi
     rw [L.nextO_at] at this
     exact this)
    have HXF := Lib.hid (fun w' (hb : Below w.heap.size w w') j (hj : j < b.fs.length) => (HR.out.below hb).fields L hj)
    unfold ptr at HHD HNX
    have hq : (((2 * posOf a : Nat) : Int)) / 2 = (posOf a : Int) := by omega
    have hne : ((2 * posOf a : Nat) : Int) ≠ 0 := by omega
    have hal : a.length < 9223372036854775807 := by
     have h1 := wsOf_ge a
     have h2 : posOf a = 1 + (wsOf a).length := rfl
     omega
    have HK := Lib.hid K
    have hs3 : b.x.spare ≤ 3 := by have := K.fit.spare; omega
    have h16 : b.x.size ≤ 65535 := (may_spare K.may).1
    have HSZ := Lib.hid hsz
    clear ho hi L hsz
    generalize posOf a = q at *
    generalize 2 * q = o at *
    go_wp2_with fail
    refine HHD.out.mono ?_
    rintro e w1 ⟨rfl, hb1⟩
    have hb2 := below_top hb (hb1.alloc hb1.size (.cells #[.int .i64 b.x.size, .int .i64 b.x.fmt, .int .i64 b.x.spare, .int .u32 b.x.cls, .int .u32 b.x.ser] 75))
    have BH2 := Blk.new w1 75 #[.int .i64 b.x.size, .int .i64 b.x.fmt, .int .i64 b.x.spare, .int .u32 b.x.cls, .int .u32 b.x.ser]
    have MM2 := (hmap.below hb1).below ((Below.refl _ _).alloc (Nat.le_refl _) (.cells #[.int .i64 b.x.size, .int .i64 b.x.fmt, .int .i64 b.x.spare, .int .u32 b.x.cls, .int .u32 b.x.ser] 75))
    have hgH : w.heap.size < w1.heap.size := by have := hb1.size; have := hmap.lt; omega
    obtain ⟨fs1, fs2, fs3, fs4, fs5⟩ := K.fit
    clear hb hb1 hmap K HHD
    go_upto_region 6 with fail
    generalize w1.alloc (.cells #[.int .i64 b.x.size, .int .i64 b.x.fmt, .int .i64 b.x.spare, .int .u32 b.x.cls, .int .u32 b.x.ser] 75) = W2 at *
    generalize w1.heap.size = gH at *
    go_cut [45] (fun v wx => v = .bool (h.badHd a b) ∧ Below W2.heap.size W2 wx)
    case first =>
     have hlk := MM2.look sersTy fs5
     obtain ⟨d0, d1, d2, d3, d4⟩ := BH2.cells5
     have H5 := HR.out.below hb2
     have c3 := H5.c3
     have hbe := fun n => below_drewN (Below.refl W2.heap.size W2) n
     have HCL := Lib.hid (fun n => risclass_any (H5.below (below_drewN (Below.refl W2.heap.size W2) n)) HF.out b.x.cls fs4)
     have HCN := Lib.hid (show cntOf a b.x.ser = if b.x.ser ∈ a.map (·.x.ser) then 1 else 0 from rfl)
     have HC2 := Lib.hid (show ∀ n, Calls Tryz.prog 159 #[.pointer (some ⟨p.g, 0, none⟩), .int .u32 (b.x.cls : Nat)] (W2.drewN n) fun e w' => e = .returned (.bool (h.clsB b.x.cls)) ∧ w' = W2.drewN n from fun n => (HCL.out n).mono fun e w' ⟨h1, h2⟩ => ⟨h1, h2.symm⟩)
     clear HCL H5
     by_cases s3 : h.clsB b.x.cls = false
     ·have HB := Lib.hid (show h.badHd a b = true by simp [HM.badHd, s3])
      rw [s3] at HC2
      clear hlk c3 BH2 MM2 s3
      go_quiet ((go_at_call 159; exact Calls.quiet_of_same (HC2.out _)))
      all_goals go_wp2_with fail
      all_goals go_meet
      all_goals exact ⟨by rw [HB.out], hbe _⟩
     have s3' : h.clsB b.x.cls = true := by simpa using s3
     rw [s3'] at HC2
     clear s3
     by_cases s0 : b.x.ser = 0
     ·have HB := Lib.hid (show h.badHd a b = true by simp [HM.badHd, s0])
      rw [s0] at d4
      clear hlk c3 BH2 MM2
      go_quiet ((go_at_call 159; exact Calls.quiet_of_same (HC2.out _)))
      all_goals go_wp2_with fail
      all_goals go_meet
      all_goals exact ⟨by rw [HB.out], hbe _⟩
     ·have e0 : ((b.x.ser : Int) == 0) = false := by simp; omega
      by_cases s1 : h.last < b.x.ser
      ·have HB := Lib.hid (show h.badHd a b = true by simp [HM.badHd, s1])
       have e1 : decide (h.last < b.x.ser) = true := by simp; omega
       clear hlk BH2 MM2 s0 s1
       go_quiet ((go_at_call 159; exact Calls.quiet_of_same (HC2.out _)))
       all_goals go_wp2_with fail
       all_goals go_meet
       all_goals exact ⟨by rw [HB.out], hbe _⟩
      ·have e1 : decide (h.last < b.x.ser) = false := by simp; omega
       by_cases s2 : b.x.ser ∈ a.map (·.x.ser)
       ·have HB := Lib.hid (show h.badHd a b = true by simp only [HM.badHd, s2, decide_true, Bool.or_true, Bool.true_or])
        have hlk5 : ∀ n, (Instr.lookup 309 (.map (some w.heap.size)) (.int .u32 (b.x.ser : Int)) false).run Tryz.prog (W2.drewN n) = .ok (.int .i64 1) (W2.drewN n) := fun n => by
         have := (show MapIs 32 (W2.drewN n) _ _ _ from MM2).look sersTy fs5
         rw [HCN.out, if_pos s2] at this
         exact this
        clear hlk BH2 MM2 s0 s1 s2
        go_quiet ((go_at_call 159; exact Calls.quiet_of_same (HC2.out _)))
        all_goals go_wp2_with fail
        all_goals go_meet
        all_goals exact ⟨by rw [HB.out], hbe _⟩
       ·have HB := Lib.hid (show h.badHd a b = false by
         simp only [HM.badHd, s0, s1, s2, s3', decide_false, Bool.false_or, Bool.not_true])
        have hlk5 : ∀ n, (Instr.lookup 309 (.map (some w.heap.size)) (.int .u32 (b.x.ser : Int)) false).run Tryz.prog (W2.drewN n) = .ok (.int .i64 0) (W2.drewN n) := fun n => by
         have := (show MapIs 32 (W2.drewN n) _ _ _ from MM2).look sersTy fs5
         rw [HCN.out, if_neg s2] at this
         exact this
        clear hlk BH2 MM2 s0 s1 s2
        go_quiet ((go_at_call 159; exact Calls.quiet_of_same (HC2.out _)))
        all_goals go_wp2_with fail
        all_goals go_meet
        all_goals exact ⟨by rw [HB.out], hbe _⟩
    case rest =>
     obtain ⟨rfl, hb3⟩ := hcut
     have hb4 := below_top hb2 hb3
     have BH3 := BH2.below hb3 BH2.lt
     have MM3 := MM2.below hb3
     obtain ⟨d0, d1, d2, d3, d4⟩ := BH3.cells5
     cases hbad : h.badHd a b
     case true =>
      have HBAD := Lib.hid (show ¬ h.Sound l by rw [HLL.out]; exact HM.badHd_not hbad)
      clear hbad hb2 hb3 BH2 BH3 MM2 MM3
      go_wp2_with fail
      go_ret
      exact ⟨false, rfl, ⟨(fun e => by cases e), fun s => absurd s HBAD.out⟩, hb4⟩
     case false =>
      obtain ⟨o1, o2, o3, o4⟩ := HM.badHd_ok hbad
      obtain ⟨W4, hpt, MM4, hg4⟩ := MM3.put sersTy (v := 1) fs5 (by omega) hal
      rw [cnt_snoc o3] at MM4
      rw [show ((1 : Nat) : Int) = 1 from rfl] at hpt
      have hb5 := hb4.grown hg4 hb4.size (fun k hk => by cases hk; omega)
      have BH5 := BH3.same (hg4.block gH BH3.lt (by intro e; injection e with e; omega))
      have HO := Lib.hid (show 1 ≤ b.x.ser ∧ b.x.ser ≤ h.last ∧ b.x.ser ∉ a.map (·.x.ser) ∧ h.clsB b.x.cls = true from ⟨o1, o2, o3, o4⟩)
      have HUP := Lib.hid hup
      clear hbad hb2 hb3 BH2 BH3 MM2 MM3 o1 o2 o3 o4 hup hg4 hb4
      go_wp2_with fail
      clear d0 d1 d2 d3 d4 hpt
      go_loopw [6] (fun i wq => ∃ k : Nat, k ≤ b.x.size ∧ i = .int .i64 k ∧ h.okTo b k ∧ Below W4.heap.size W4 wq) (fun i _ => b.x.size - (intOf i).toNat)
      case atStart => exact ⟨0, by omega, rfl, (fun j hj => by omega), Below.refl _ _⟩
      case round =>
       obtain ⟨k, hk, rfl, hok, hbq⟩ := hrel
       have HOK := Lib.hid hok
       have hb6 := below_top hb5 hbq
       have BH6 := BH5.below hbq BH5.lt
       obtain ⟨e0, e1, e2, e3, e4⟩ := BH6.cells5
       clear hok
       by_cases hlt : k < b.x.size
       ·have Rq := HR.out.below hb6
        have q1 := Rq.c1
        have hx := HXF.out _ hb6 k (by have := HSZ.out; omega)
        have hy : b.fs.getD k 0 < 4294967296 := by
         have hkl : k < b.fs.length := by have := HSZ.out; omega
         rw [List.getD_eq_getElem?_getD, List.getElem?_eq_getElem hkl]
         exact HK.out.f32 _ (List.getElem_mem _)
        have HBADI := Lib.hid (fun hb => HM.not_ob_of_bad (h := h) HK.out hlt hb)
        have HNEXT := Lib.hid (fun h1 h2 => HM.okTo_succ (h := h) (b := b) (k := k) HOK.out h1 h2)
        clear HOK
        generalize b.fs.getD k 0 = y at *
        have HVC := Lib.hid (rvalb_any Rq HF.out y hy)
        unfold ptr at HVC
        have HKL := Lib.hid hlt
        clear Rq
        generalize h.words.length = N at *
        go_upto_region 13 with fail
        go_cut [80] (fun v wx => v = .bool (h.badF b y) ∧ Below wr.heap.size wr wx)
        case first =>
         have hbe := Below.refl wr.heap.size wr
         by_cases h1 : b.x.fmt = 1
         ·have HB := Lib.hid (show h.badF b y = !h.valB y by simp [HM.badF, Hd.ptrB, h1])
          rw [h1] at e1
          clear h1
          generalize h.valB y = vb at *
          go_wp2_with fail
          refine HVC.out.mono ?_
          rintro e w' ⟨rfl, rfl⟩
          go_wp2_with fail
          go_meet
          exact ⟨by rw [HB.out], hbe⟩
         have f1 : ((b.x.fmt : Int) == 1) = false := by simp; omega
         by_cases h4 : b.x.fmt = 4
         ·have HB := Lib.hid (show h.badF b y = !h.valB y by simp [HM.badF, Hd.ptrB, h4])
          rw [h4] at e1
          clear h4 h1 f1
          generalize h.valB y = vb at *
          go_wp2_with fail
          refine HVC.out.mono ?_
          rintro e w' ⟨rfl, rfl⟩
          go_wp2_with fail
          go_meet
          exact ⟨by rw [HB.out], hbe⟩
         ·have f4 : ((b.x.fmt : Int) == 4) = false := by simp; omega
          have HB := Lib.hid (show h.badF b y = false by simp [HM.badF, Hd.ptrB, h4, h1])
          clear h4 h1
          go_wp2_with fail
          go_meet
          exact ⟨by rw [HB.out], hbe⟩
        case rest =>
         obtain ⟨rfl, hb7⟩ := hcut
         have hb8 := below_top hbq hb7
         have BH8 := BH6.below hb7 BH6.lt
         clear e0 e1 e2 e3 e4 hx q1 HVC hb6
         obtain ⟨e0, e1, e2, e3, e4⟩ := BH8.cells5
         cases hbf : h.badF b y
         case true =>
          have HBAD := Lib.hid (show ¬ h.Sound l by rw [HLL.out]; exact HM.not_sound_ob (HBADI.out (.inl hbf)))
          clear hbf HBADI hb7 BH6 BH8
          go_wp2_with fail
          go_ret
          exact ⟨false, rfl, ⟨(fun e => by cases e), fun s => absurd s HBAD.out⟩, below_top hb5 hb8⟩
         case false =>
         have HBF := Lib.hid hbf
         clear hbf BH6 hb7
         go_upto_region 15 with fail
         go_cut [100] (fun v wx => v = .bool (badS b k y) ∧ Below wc.heap.size wc wx)
         case first =>
          have hbe := Below.refl wc.heap.size wc
          by_cases hlast : k + 1 = b.x.size
          ·have hla : ((k : Int) == (b.x.size : Int) - 1) = true := by simp; omega
           have HB := Lib.hid (show badS b k y = ((!decide (y / 2 ^ (32 - 8 * b.x.spare) = 0)) && decide (0 < b.x.spare)) by unfold badS; rw [decide_eq_true hlast, Bool.true_and])
           have hss : b.x.spare = 0 ∨ b.x.spare = 1 ∨ b.x.spare = 2 ∨ b.x.spare = 3 := by omega
           clear hlast
           rcases hss with hs | hs | hs | hs
           ·rw [hs] at e2 HB
            clear hs
            go_wp2_with fail
            go_meet
            exact ⟨by rw [HB.out]; simp, hbe⟩
           all_goals
            rw [hs] at e2 HB
            clear hs
            go_wp2_with fail
            all_goals go_meet
            all_goals refine ⟨?_, hbe⟩
            all_goals rename_i hx
            all_goals rw [HB.out]
            all_goals congr 1
            all_goals rw [Bool.eq_iff_iff]
            all_goals simp
            all_goals omega
          ·have hla : ((k : Int) == (b.x.size : Int) - 1) = false := by simp; omega
           have HB := Lib.hid (show badS b k y = false by unfold badS; rw [decide_eq_false hlast, Bool.false_and, Bool.false_and])
           clear hlast
           go_wp2_with fail
           go_meet
           exact ⟨by rw [HB.out], hbe⟩
         case rest =>
          obtain ⟨rfl, hb9⟩ := hcut
          have hb10 := below_top hb8 hb9
          cases hbs : badS b k y
          case true =>
           have HBAD := Lib.hid (show ¬ h.Sound l by rw [HLL.out]; exact HM.not_sound_ob (HBADI.out (.inr hbs)))
           clear hbs HBADI hb9 BH8
           go_wp2_with fail
           go_ret
           exact ⟨false, rfl, ⟨(fun e => by cases e), fun s => absurd s HBAD.out⟩, below_top hb5 hb10⟩
          case false =>
           have HO2 := Lib.hid (HNEXT.out HBF.out hbs)
           clear hbs hb9 BH8
           go_wp2_with fail
           go_roundw
           case rel => exact ⟨k + 1, HKL.out, by go_num, HO2.out, hb10⟩
           case measure => simp [intOf]; omega
       ·obtain rfl : k = b.x.size := by omega
        obtain ⟨o1, o2, o3, o4⟩ := HO.out
        have HOB := Lib.hid (HM.okTo_ob HK.out HOK.out)
        have HFIN := Lib.hid (show SoundMid h w.heap.size (a ++ [b]) w wr from ⟨HUP.out.snoc ⟨o4, HOB.out.1, HOB.out.2, o1, o2⟩ o3, by rw [List.length_append]; exact MM4.below hbq, hb6⟩)
        have HNC := Lib.hid (HNX.out wr hb6)
        clear o1 o2 o3 o4 HXF HNX hbq hb5 MM4
        go_wp2_with fail
        refine HNC.out.mono ?_
        rintro e wz ⟨rfl, hbz⟩
        have HFZ := Lib.hid (show SoundMid h w.heap.size (a ++ [b]) w wz from ⟨HFIN.out.1, HFIN.out.2.1.below hbz, below_top hb6 hbz⟩)
        clear HFIN HNC hb6
        go_wp2_with fail
        go_roundg (c.length + 1)
        case measure => rw [HGK.out]; simp
        case rel => exact ⟨a ++ [b], c, by rw [HLL.out]; simp, rfl, rfl, HFZ.out⟩
end
section
open Go.RowKit
attribute [local go_sem] Oper.semAt_some
theorem RAt.setMark {w : World} {p : HP} {h : HM} (H : RAt w p h) (k : Nat) : RAt (w.setCell ⟨p.gs, k, none⟩ (.int .u8 1)) p { h with starts := h.starts.set k true } := by
 obtain ⟨hb, hw, hs, hr⟩ := H
 have n1 : p.g ≠ p.gs := fun e => Row.ne_blk hs hb (by decide) e.symm
 have n2 : p.gw ≠ p.gs := hw.ne_ hs (by decide)
 have n3 : p.gr ≠ p.gs := hr.ne_ hs (by decide)
 refine ⟨?_, hw.far n2 _, ?_, hr.far n3 _⟩
 ·have := hb.far (p := ⟨p.gs, k, none⟩) n1 (.int .u8 1)
  simpa using this
 ·have := hs.set k (.int .u8 1)
  simpa [begins] using this
theorem make_u8n (F : Nat) (hF : F ≤ 1048576) (w : World) :
 (Instr.makeSlice 22 (.int .i64 (F : Int)) (.int .i64 (F : Int))).run Tryz.prog w = .ok (.slice (some ⟨w.heap.size, 0, none⟩) F F) (w.alloc (.cells (zcells (.int .u8 0) F) 5)) := by
 obtain ⟨i0, hi0, hz0, hz1, hz2⟩ := info_parts info_u8
 have := run_make_rowN (P := Tryz.prog) 22 5 i0 _ Tryz.underlying22 hi0 hz0 .i64 .i64 F F (Nat.le_refl _) (by rw [hz2]; omega) (by omega) w
 have e : madeCells (Value.int .u8 0).cells (F * 1) = zcells (.int .u8 0) F := by
  apply Array.ext
  ·simp [madeCells, zcells, Value.cells]
  ·intro i h1 h2
   simp [madeCells, zcells, Value.cells, Nat.mod_one]
 rw [this, hz1, e]
theorem begins_row (w : World) (F : Nat) (hF : F ≤ maxLen) : Row (w.alloc (.cells (zcells (.int .u8 0) F) 5)) w.heap.size 5 F (begins (List.replicate F false)) :=
 ⟨zcells (.int .u8 0) F, Blk.new w _ _, by simp [begins], hF, by simp [zcells], by simp [zcells, begins]⟩
def RLoadP (size : Nat) (ws rs : List Nat) (last : Nat) (w : World) (d : Ending) (w' : World) : Prop :=
 Below w.heap.size w w' ∧ ((loadE size ws rs last ≠ 0 ∧ d = .returned (.tuple #[.pointer none, .int .i64 (loadE size ws rs last : Nat)])) ∨
  (loadE size ws rs last = 0 ∧ ∃ q : HP, d = .returned (.tuple #[ptr q.g, .int .i64 0]) ∧ RAt w' q (HM.ofWords size ws rs last) ∧ ∀ k, q.has k → w.heap.size ≤ k))
def RLoadMid (q : HP) (size : Nat) (ws rs : List Nat) (last : Nat) (w : World) (k : Nat) (wr : World) : Prop :=
 Below w.heap.size w wr ∧ ∃ l r, Pre ws l r ∧ k = posOf l ∧ RAt wr q ⟨size, ws, (false :: msOf l) ++ List.replicate r.length false, rs, last⟩
set_option maxRecDepth 100000 in
set_option maxHeartbeats 4000000 in
theorem rLoad_any {w : World} (size : Nat) (h1 : 64 ≤ size) (h2 : size ≤ 1048576) (A : Option Addr) (n c : Nat) (ws : List Nat) (hn : n ≤ 9223372036854775807) (hr : Reads w w.heap.size 1 A n (u32s ws)) (h32 : ∀ x ∈ ws, x < 4294967296)
 (A' : Option Addr) (n' c' : Nat) (rs : List Nat) (hn' : n' ≤ 9223372036854775807) (hr' : Reads w w.heap.size 1 A' n' (u32s rs)) (h32' : ∀ x ∈ rs, x < 4294967296) (last : Nat) (hl : last < 4294967296) :
 Calls Tryz.prog 66 #[.int .i64 size, .slice A n c, .slice A' n' c', .int .u32 last] w (RLoadP size ws rs last w) := by
 have hlw : ws.length = n := by have := hr.1; rw [u32s_len] at this; omega
 have hlr : rs.length = n' := by have := hr'.1; rw [u32s_len] at this; omega
 have hbr := Lib.hid (Below.refl w.heap.size w)
 have HLW := Lib.hid hlw
 have HLR := Lib.hid hlr
 by_cases hbad : n = 0 ∨ size < n ∨ n' ≠ 64
 ·have HE := Lib.hid (loadE_bad (size := size) (ws := ws) (rs := rs) (last := last) (by rw [hlw, hlr]; exact hbad))
  have hfin : RLoadP size ws rs last w (.returned (.tuple #[.pointer none, .int .i64 1])) w := ⟨hbr.out, .inl ⟨by rw [HE.out]; decide, by rw [HE.out]; rfl⟩⟩
  have HFIN := Lib.hid hfin
  clear hr hr' h32 h32' hlw hlr hfin HE
  by_cases hb0 : n = 0
  ·have hz : decide ((n : Int) < 1) = true := by simp; omega
   clear hbad hb0
   go_enter Tryz.func66, Tryz.ntmps66
   go_wp2_with fail
   go_ret2
   exact HFIN.out
  ·have hz : decide ((n : Int) < 1) = false := by simp; omega
   by_cases hb1 : size < n
   ·have hz1 : decide (size < n) = true := by simpa using hb1
    clear hbad hb0 hb1
    go_enter Tryz.func66, Tryz.ntmps66
    go_wp2_with fail
    go_ret2
    exact HFIN.out
   ·have hz1 : decide (size < n) = false := by simpa using hb1
    have hz2 : ((n' : Int) != 64) = true := by rw [bne_iff_ne]; omega
    clear hbad hb0 hb1
    go_enter Tryz.func66, Tryz.ntmps66
    go_wp2_with fail
    go_ret2
    exact HFIN.out
 ·have hnn : 0 < n := by omega
  have HB' := Lib.hid (show ¬ (ws.length = 0 ∨ size < ws.length ∨ rs.length ≠ 64) by rw [hlw, hlr]; exact hbad)
  obtain rfl : n' = 64 := by omega
  obtain ⟨ad, rfl, had, hcw⟩ := hr.2 hnn
  obtain ⟨ad', rfl, had', -⟩ := hr'.2 (by omega)
  have hz : decide ((n : Int) < 1) = false := by simp; omega
  have hz1 : decide (size < n) = false := by simp; omega
  have hmk := make_u8n n (by omega)
  have hnsz : n ≤ size := by omega
  have HRW := Lib.hid hr
  have HRR := Lib.hid hr'
  have HCW := Lib.hid (show ∀ W', Below w.heap.size w W' → ∀ j, j < n → W'.cell? (ad.add j) = some (.int .u32 (ws.getD j 0 : Nat)) from fun W' hb j hj =>
   (hb.cell (by rw [block_of_add]; exact had)).trans (hcw j _ (u32s_get (by rw [hlw]; exact hj))))
  have H32 := Lib.hid h32
  have H32' := Lib.hid h32'
  have hX : w.heap.size + 1 < ((w.alloc (.cells (zcells (.int .u8 0) n) 5)).alloc (.cells #[.int .i64 size, .slice none 0 0, .slice none 0 0, .int .u32 last, .slice (some ⟨w.heap.size, 0, none⟩) n n] 134)).heap.size := by simp
  have hb : Below w.heap.size w ((w.alloc (.cells (zcells (.int .u8 0) n) 5)).alloc (.cells #[.int .i64 size, .slice none 0 0, .slice none 0 0, .int .u32 last, .slice (some ⟨w.heap.size, 0, none⟩) n n] 134)) := ((Below.refl _ _).alloc (Nat.le_refl _) _).alloc (by simp) _
  have BX : Blk ((w.alloc (.cells (zcells (.int .u8 0) n) 5)).alloc (.cells #[.int .i64 size, .slice none 0 0, .slice none 0 0, .int .u32 last, .slice (some ⟨w.heap.size, 0, none⟩) n n] 134)) (w.heap.size + 1) 134 #[.int .i64 size, .slice none 0 0, .slice none 0 0, .int .u32 last, .slice (some ⟨w.heap.size, 0, none⟩) n n] := by
   have := Blk.new (w.alloc (.cells (zcells (.int .u8 0) n) 5)) 134 #[.int .i64 size, .slice none 0 0, .slice none 0 0, .int .u32 last, .slice (some ⟨w.heap.size, 0, none⟩) n n]
   rw [World.size_alloc] at this
   exact this
  have RS : Row ((w.alloc (.cells (zcells (.int .u8 0) n) 5)).alloc (.cells #[.int .i64 size, .slice none 0 0, .slice none 0 0, .int .u32 last, .slice (some ⟨w.heap.size, 0, none⟩) n n] 134)) w.heap.size 5 n (begins (List.replicate n false)) := (begins_row w n (by simp only [maxLen]; omega)).alloc _
  clear hr hr' h32 h32' hlw hlr hcw hbad
  go_enter Tryz.func66, Tryz.ntmps66
  go_upto_region 4 with fail
  generalize hW : (w.alloc (.cells (zcells (.int .u8 0) n) 5)).alloc (.cells #[.int .i64 size, .slice none 0 0, .slice none 0 0, .int .u32 last, .slice (some ⟨w.heap.size, 0, none⟩) n n] 134) = W1 at *
  clear hW hmk
  generalize hXX : w.heap.size + 1 = X at *
  have HXX := Lib.hid hXX
  clear hXX
  have x1 := BX.cell 1
  have z1 := BX.frozen 1
  obtain ⟨i0, hi0, hz0, hz3, hz2⟩ := info_parts info_u32
  have HO := Lib.hid (show W1.ownsRow (X + 1) 32 1 (.slice none 0 0) 0 [] from ⟨rfl, .inl ⟨rfl, rfl⟩⟩)
  have HN := Lib.hid ((HRW.out.below hb).more hb.size)
  have HB1 := Lib.hid hb
  have HRS := Lib.hid RS
  have HBX := Lib.hid BX
  have hXX := HXX.out
  clear hb RS BX
  go_upto_region 5 with (at_builtin; refine wpList_append_any _ rfl (.tmp 39) (.tmp 40) _ rfl (X + 1) 32 i0 _ 1 4 Tryz.underlying84 hi0 hz0 hz3 hz2 rfl (by omega) (.slice none 0 0) 0 [] rfl HO.out _ (some ad) n c (u32s ws) rfl HN.out (one_u32s _) (by simp only [maxLen]; omega) (by omega) (by omega) ?_; intro v1 w5 hown5 hgrow hat5; obtain ⟨g5, c5, rfl, hrow5, hlen5, hge5⟩ := Row.of_any hown5 (by omega); have k5 := (hgrow.cell_far ⟨X, 1, none⟩ hX (by simp [Value.ownBlock])).trans x1; have z5 := (hgrow.frozen_far ⟨X, 1, none⟩ hX (by simp [Value.ownBlock])).trans z1; clear hown5)
  rw [List.nil_append] at hrow5
  try simp only [Nat.zero_add]
  have hbel := below_grown (Nat.le_refl _) HB1.out hgrow (by simp [Value.ownBlock])
  have hB2 := hbel.setCell (p := ⟨X, 1, none⟩) (by simp; omega) (.slice (some ⟨g5, 0, none⟩) n c5)
  have BX2 := (HBX.out.same (hgrow.block X hX (by simp [Value.ownBlock]))).set_ 1 (.slice (some ⟨g5, 0, none⟩) n c5)
  have RW2 := hrow5.far (p := ⟨X, 1, none⟩) (by simp; omega) (.slice (some ⟨g5, 0, none⟩) n c5)
  have RS2 := (HRS.out.same (hgrow.block w.heap.size HRS.out.lt (by simp [Value.ownBlock]))).far (p := ⟨X, 1, none⟩) (by simp; omega) (.slice (some ⟨g5, 0, none⟩) n c5)
  generalize hW : w5.setCell ⟨X, 1, none⟩ (.slice (some ⟨g5, 0, none⟩) n c5) = W2 at *
  clear hW hbel hgrow hrow5 hat5 k5 z5 x1 z1 HO HN
  have BX2 : Blk W2 X 134 #[.int .i64 size, .slice (some ⟨g5, 0, none⟩) n c5, .slice none 0 0, .int .u32 last, .slice (some ⟨w.heap.size, 0, none⟩) n n] := BX2
  clear HBX HRS HB1 hX
  have hX : X < W2.heap.size := BX2.lt
  have x1 := BX2.cell 2
  have z1 := BX2.frozen 2
  obtain ⟨i1, hj0, hj1, hj3, hj2⟩ := info_parts info_oop
  have HO := Lib.hid (show W2.ownsRow (X + 1) 54 1 (.slice none 0 0) 0 [] from ⟨rfl, .inl ⟨rfl, rfl⟩⟩)
  have HN := Lib.hid ((HRR.out.below hB2).more hB2.size)
  have HB2 := Lib.hid hB2
  have HRS := Lib.hid RS2
  have HRW2 := Lib.hid RW2
  have HBX := Lib.hid BX2
  clear hB2 RS2 RW2 BX2
  go_upto_region 6 with (at_builtin; refine wpList_append_any _ rfl (.tmp 48) (.tmp 49) _ rfl (X + 1) 54 i1 _ 1 4 Tryz.underlying101 hj0 hj1 hj3 hj2 rfl (by omega) (.slice none 0 0) 0 [] rfl HO.out _ (some ad') 64 c' (u32s rs) rfl HN.out (one_u32s _) (by simp only [maxLen]; omega) (by omega) (by omega) ?_; intro v1 w6 hown5 hgrow hat5; obtain ⟨g6, c6, rfl, hrow5, hlen5, hge6⟩ := Row.of_any hown5 (by omega); have k5 := (hgrow.cell_far ⟨X, 2, none⟩ hX (by simp [Value.ownBlock])).trans x1; have z5 := (hgrow.frozen_far ⟨X, 2, none⟩ hX (by simp [Value.ownBlock])).trans z1; clear hown5)
  rw [List.nil_append] at hrow5
  try simp only [Nat.zero_add]
  have hbel := below_grown (Nat.le_refl _) HB2.out hgrow (by simp [Value.ownBlock])
  have hB3 := hbel.setCell (p := ⟨X, 2, none⟩) (by simp; omega) (.slice (some ⟨g6, 0, none⟩) 64 c6)
  have BX3 := (HBX.out.same (hgrow.block X hX (by simp [Value.ownBlock]))).set_ 2 (.slice (some ⟨g6, 0, none⟩) 64 c6)
  have RR3 := hrow5.far (p := ⟨X, 2, none⟩) (by simp; omega) (.slice (some ⟨g6, 0, none⟩) 64 c6)
  have RW3 := (HRW2.out.same (hgrow.block g5 HRW2.out.lt (by simp [Value.ownBlock]))).far (p := ⟨X, 2, none⟩) (by simp; omega) (.slice (some ⟨g6, 0, none⟩) 64 c6)
  have RS3 := (HRS.out.same (hgrow.block w.heap.size HRS.out.lt (by simp [Value.ownBlock]))).far (p := ⟨X, 2, none⟩) (by simp; omega) (.slice (some ⟨g6, 0, none⟩) 64 c6)
  have BX3 : Blk (w6.setCell ⟨X, 2, none⟩ (.slice (some ⟨g6, 0, none⟩) 64 c6)) X 134 #[.int .i64 size, .slice (some ⟨g5, 0, none⟩) n c5, .slice (some ⟨g6, 0, none⟩) 64 c6, .int .u32 last, .slice (some ⟨w.heap.size, 0, none⟩) n n] := BX3
  generalize hW : w6.setCell ⟨X, 2, none⟩ (.slice (some ⟨g6, 0, none⟩) 64 c6) = W3 at *
  have R3 : RAt W3 ⟨X, g5, c5, w.heap.size, n, g6, c6⟩ ⟨size, ws, List.replicate n false, rs, last⟩ := ⟨by
   show Blk W3 X 134 #[.int .i64 size, .slice (some ⟨g5, 0, none⟩) ws.length c5, .slice (some ⟨g6, 0, none⟩) rs.length c6, .int .u32 last, .slice (some ⟨w.heap.size, 0, none⟩) (List.replicate n false).length n]
   rw [HLW.out, HLR.out, List.length_replicate]; exact BX3, RW3, RS3, RR3⟩
  have HQN := Lib.hid (show ∀ k, HP.has ⟨X, g5, c5, w.heap.size, n, g6, c6⟩ k → w.heap.size ≤ k from by rintro k (rfl | rfl | rfl | rfl) <;> (try simp only []) <;> omega)
  have HPG := Lib.hid (show (HP.mk X g5 c5 w.heap.size n g6 c6).g = X ∧ (HP.mk X g5 c5 w.heap.size n g6 c6).gs = w.heap.size from ⟨rfl, rfl⟩)
  generalize hQ : (HP.mk X g5 c5 w.heap.size n g6 c6) = q at *
  clear hQ hW hbel hgrow hrow5 hat5 k5 z5 x1 z1 HO HN HRS HRW2 HBX HB2 BX3 RR3 RW3 RS3 hge5 hge6 hX hXX hlen5 hi0 hz0 hz3 hz2 hj0 hj1 hj3 hj2
  have HFAIL := Lib.hid (show parseW ws = none → loadE size ws rs last = 20 from fun e => loadE_no HB'.out (not_loadOk_of_none e))
  have HBAD := Lib.hid (show ∀ wz, loadE size ws rs last = 20 → Below w.heap.size w wz → RLoadP size ws rs last w (.returned (.tuple #[.pointer none, .int .i64 20])) wz from fun wz e hb => ⟨hb, .inl ⟨by rw [e]; decide, by rw [e]; rfl⟩⟩)
  have q0 := HCW.out W3 hB3 0 hnn
  rw [show ad.add 0 = ad by unfold Addr.add; simp] at q0
  have hn0 : (0 : Int) < (n : Int) := by omega
  have HB3 := Lib.hid hB3
  have HR3 := Lib.hid R3
  clear hB3 R3
  by_cases h0 : ws.getD 0 0 = 0
  case neg =>
   have hb : ((ws.getD 0 0 : Int) != 0) = true := by rw [bne_iff_ne]; omega
   have HN := Lib.hid (HFAIL.out (by
    unfold parseW
    split
    ·rename_i hw; simp at h0
    ·rfl))
   generalize ws.getD 0 0 = x at *
   clear h0
   go_wp2_with fail
   go_ret2
   exact HBAD.out _ HN.out HB3.out
  obtain ⟨r0, hr0⟩ : ∃ r0, ws = 0 :: r0 := by
   cases hw : ws with
   | nil => have := HLW.out; rw [hw] at this; simp at this; omega
   | cons a r => rw [hw] at h0; simp at h0; exact ⟨r, by rw [h0]⟩
  rw [h0] at q0
  have HM0 := Lib.hid (show RLoadMid q size ws rs last w 1 W3 from ⟨HB3.out, [], r0, by rw [hr0]; exact Pre.start, rfl, by
   have e : (false :: msOf []) ++ List.replicate r0.length false = List.replicate n false := by
    have := HLW.out
    rw [hr0] at this
    rw [← this]
    simp [msOf, List.replicate_succ]
   rw [e]; exact HR3.out⟩)
  clear hr0 h0 HR3
  go_wp2_with fail
  clear q0
  go_loopw [11] (fun i wr => ∃ k : Nat, i = .int .i64 k ∧ RLoadMid q size ws rs last w k wr) (fun i _ => n - (intOf i).toNat)
  case atStart => exact ⟨1, rfl, HM0.out⟩
  case round =>
   obtain ⟨k, rfl, hbk, l, r, hp, rfl, Rr⟩ := hrel
   have hlen := hp.len
   rw [HLW.out] at hlen
   by_cases hr0 : r = []
   ·subst hr0
    simp only [List.length_nil, Nat.add_zero] at hlen
    have HD := Lib.hid hp.done
    have Rr : RAt wr q ⟨size, ws, false :: msOf l, rs, last⟩ := by
     have e : (false :: msOf l) ++ List.replicate ([] : List Nat).length false = false :: msOf l := by simp
     rw [e] at Rr; exact Rr
    have hof : (⟨size, ws, false :: msOf l, rs, last⟩ : HM) = HM.ofWords size ws rs last := by
     unfold HM.ofWords
     rw [HD.out]
     rfl
    have hinv := parseW_inv H32.out HD.out
    have L3 : HM.Laid ⟨size, ws, false :: msOf l, rs, last⟩ l := ⟨hinv.1, rfl, hinv.2⟩
    have F3 : HM.Fit ⟨size, ws, false :: msOf l, rs, last⟩ := ⟨h1, h2, by show 1 ≤ ws.length; rw [HLW.out]; exact hnn, by show ws.length ≤ size; rw [HLW.out]; exact hnsz, by
     show (false :: msOf l).length = ws.length
     rw [hinv.1]; simp [msOf_len], HLR.out, H32.out, H32'.out, hl⟩
    have HSN := Lib.hid (keeps_any Rr F3 L3)
    unfold ptr at HSN
    rw [HPG.out.1] at HSN
    have HOF := Lib.hid hof
    have HRR3 := Lib.hid Rr
    have HBK := Lib.hid hbk
    clear hof hinv L3 F3 Rr hbk hp
    rw [← hlen] at *
    go_wp2_with fail
    refine HSN.out.mono ?_
    rintro e w4 ⟨b2, rfl, hiff, hb4⟩
    have HIFF := Lib.hid hiff
    have HB5 := Lib.hid (below_top HBK.out hb4)
    have HR5 := Lib.hid (HRR3.out.below hb4)
    clear hiff hb4
    cases b2
    ·have HE := Lib.hid (loadE_no HB'.out (fun ok => by
      have := (loadOk_iff HD.out).1 ok
      rw [← HOF.out] at this
      exact absurd (HIFF.out.2 this) (by decide)))
     go_wp2_with fail
     go_ret2
     exact HBAD.out _ HE.out HB5.out
    ·have HE := Lib.hid (loadE_ok HB'.out ((loadOk_iff HD.out).2 (by rw [← HOF.out]; exact HIFF.out.1 rfl)))
     go_wp2_with fail
     go_ret2
     exact ⟨HB5.out, .inr ⟨HE.out, q, by rw [HPG.out.1]; rfl, by rw [← HOF.out]; exact HR5.out, HQN.out⟩⟩
   ·have hpos : 0 < r.length := List.length_pos_iff.2 hr0
    by_cases hr3 : r.length < 3
    ·have HN := Lib.hid (HFAIL.out (hp.none (parseT_short hr0 hr3)))
     have HBK := Lib.hid hbk
     clear hp hr0 Rr hbk
     generalize posOf l = K at *
     generalize r.length = m at *
     have hdec : decide (K < n) = true := by simp; omega
     have hdec1 : (n : Int) < (K : Int) + 3 := by omega
     have hKn : K < n := by omega
     have hdec2 : decide ((n : Int) < (K : Int) + 3) = true := by simpa using hdec1
     clear hlen hdec1
     go_wp2_with fail
     go_ret2
     exact HBAD.out _ HN.out HBK.out
    ·obtain ⟨a, b, c2, r', rfl⟩ : ∃ a b c r', r = a :: b :: c :: r' := by
      match r, hr3 with
      | a :: b :: c :: r', _ => exact ⟨a, b, c, r', rfl⟩
      | [], h => simp at h
      | [_], h => simp at h
      | [_, _], h => simp at h
     have hm : ∀ x ∈ a :: b :: c2 :: r', x < 4294967296 := fun x hx => H32.out x (by rw [hp.eq]; simp at hx ⊢; right; right; exact hx)
     have ba := hm a (by simp)
     have bb := hm b (by simp)
     have bc := hm c2 (by simp)
     have g0 := hp.get 0
     have g1 := hp.get 1
     have g2 := hp.get 2
     simp only [Nat.add_zero, List.getD_cons_zero, List.getD_cons_succ] at g0 g1 g2
     have HLEN := Lib.hid (show n = posOf l + (r'.length + 3) by simpa using hlen)
     have hw0 := HCW.out wr hbk (posOf l) (by have := HLEN.out; omega)
     have hw1 := HCW.out wr hbk (posOf l + 1) (by have := HLEN.out; omega)
     have hw2 := HCW.out wr hbk (posOf l + 2) (by have := HLEN.out; omega)
     rw [g0] at hw0
     rw [g1] at hw1
     rw [g2] at hw2
     have hw1 := cell_add hw1 (by omega)
     have hw2 := cell_add hw2 (by omega)
     have HBK := Lib.hid hbk
     have HPL := Lib.hid (show posOf l + 3 ≤ n by have := HLEN.out; omega)
     have HP := Lib.hid hp
     have HRR3 := Lib.hid Rr
     have hadr : ad.block < wr.heap.size := by have := hbk.size; omega
     clear g0 g1 g2 hm hlen hr0 hr3 hpos hp Rr
     generalize hKK : posOf l = K at *
     have HKK := Lib.hid hKK
     have hkn := HPL.out
     have hdec : decide (K < n) = true := by simp; omega
     have hdec2 : decide ((n : Int) < (K : Int) + 3) = false := by simp; omega
     have hlt0 : (K : Int) < (n : Int) := by omega
     have hlt1 : (K : Int) + 1 < (n : Int) := by omega
     have hlt2 : (K : Int) + 2 < (n : Int) := by omega
     have e1 : IntKind.i64.wrap ((K : Int) + 1) = (K : Int) + 1 := IntWalk.i64_in _ (by omega)
     have e2 : IntKind.i64.wrap ((K : Int) + 2) = (K : Int) + 2 := IntWalk.i64_in _ (by omega)
     have p1 : 0 ≤ (K : Int) + 1 := by omega
     have p2 : 0 ≤ (K : Int) + 2 := by omega
     have t1 : ((K : Int) + 1).toNat = K + 1 := by omega
     have t2 : ((K : Int) + 2).toNat = K + 2 := by omega
     have HU := Lib.hid (fun w => runpack_any a b c2 ba bb bc w)
     obtain ⟨x, ok, hX⟩ : ∃ (x : Hd) (ok : Bool), unpackV a b c2 = .tuple #[.agg #[.int .i64 x.size, .int .i64 x.fmt, .int .i64 x.spare, .int .u32 x.cls, .int .u32 x.ser], .bool ok] ∧ ok = okhd a b c2 ∧ (ok = true → x = unhd a b c2) := by
      cases hok : okhd a b c2
      ·exact ⟨⟨0, 0, 0, 0, 0⟩, false, by unfold unpackV; rw [hok]; rfl, rfl, fun e => by cases e⟩
      ·exact ⟨unhd a b c2, true, by unfold unpackV; rw [hok]; rfl, rfl, fun _ => rfl⟩
     obtain ⟨hX, hokE, hxE⟩ := hX
     rw [hX] at HU
     have HOKE := Lib.hid hokE
     have HXE := Lib.hid hxE
     clear hX hokE hxE hKK hkn ba bb bc hbk
     go_upto_region 12 with fail
     have KC := Lib.hid (show ∀ W', Below wr.heap.size wr W' → W'.cell? (ad.add K) = some (.int .u32 (a : Int)) ∧ W'.cell? ⟨ad.block, ad.off + (K + 1), none⟩ = some (.int .u32 (b : Int)) ∧ W'.cell? ⟨ad.block, ad.off + (K + 2), none⟩ = some (.int .u32 (c2 : Int)) from fun W' hb =>
      ⟨(hb.cell (by rw [block_of_add]; exact hadr)).trans hw0, (hb.cell (show (⟨ad.block, ad.off + (K + 1), none⟩ : Addr).block < wr.heap.size from hadr)).trans hw1, (hb.cell (show (⟨ad.block, ad.off + (K + 2), none⟩ : Addr).block < wr.heap.size from hadr)).trans hw2⟩)
     have HUA := Lib.hid (show Calls Tryz.prog 148 #[.agg #[.int .u32 a, .int .u32 b, .int .u32 c2]] wr.drew fun e w1 => e = .returned (.tuple #[.agg #[.int .i64 x.size, .int .i64 x.fmt, .int .i64 x.spare, .int .u32 x.cls, .int .u32 x.ser], .bool ok]) ∧ Below wr.heap.size wr w1 from
      (HU.out _).mono fun _ _ ⟨h1, h2⟩ => ⟨h1, below_top (below_drew (Below.refl _ _)) h2⟩)
     have HUB := Lib.hid (show Calls Tryz.prog 148 #[.agg #[.int .u32 a, .int .u32 b, .int .u32 c2]] (wr.alloc (.cells #[.int .i64 0, .int .i64 0, .int .i64 0, .int .u32 0, .int .u32 0] 75)).drew fun e w1 => e = .returned (.tuple #[.agg #[.int .i64 x.size, .int .i64 x.fmt, .int .i64 x.spare, .int .u32 x.cls, .int .u32 x.ser], .bool ok]) ∧ Below wr.heap.size wr w1 ∧ Blk w1 wr.heap.size 75 #[.int .i64 0, .int .i64 0, .int .i64 0, .int .u32 0, .int .u32 0] from
      (HU.out _).mono fun _ _ ⟨h1, h2⟩ => ⟨h1, below_top (below_drew (below_alloc1 (Below.refl _ _))) h2, ((Blk.new wr _ _).drew).below h2 (by simp [World.drew])⟩)
     have hb0 := Below.refl wr.heap.size wr
     go_cut [12, 13] (fun v v2 wx => ∃ g, v = ptr g ∧ v2 = .bool ok ∧ Below wr.heap.size wr wx ∧ Blk wx g 75 #[.int .i64 x.size, .int .i64 x.fmt, .int .i64 x.spare, .int .u32 x.cls, .int .u32 x.ser] ∧ wr.heap.size ≤ g)
     case first =>
      go_region_held3 (fun w' => w'.cell? (ad.add K) = some (.int .u32 (a : Int)) ∧ w'.cell? ⟨ad.block, ad.off + (K + 1), none⟩ = some (.int .u32 (b : Int)) ∧ w'.cell? ⟨ad.block, ad.off + (K + 2), none⟩ = some (.int .u32 (c2 : Int)))
       (first | with_reducible exact KC.out _ hb0 | with_reducible exact KC.out _ (Below.drew hb0) | with_reducible exact KC.out _ (below_alloc1 hb0) | with_reducible exact KC.out _ (Below.drew (below_alloc1 hb0)) | with_reducible exact KC.out _ hk | with_reducible exact KC.out _ (below_alloc1 hk) | with_reducible exact KC.out _ (below_set5 hk (Nat.le_refl _)))
       (first
         | (go_at_call 148; (with_reducible refine HUA.out.mono ?_); rintro e w1 ⟨rfl, hk⟩)
         | (go_at_call 148; (with_reducible refine HUB.out.mono ?_); rintro e w1 ⟨rfl, hk, hB6⟩; obtain ⟨g0, g1, g2, g3, g4⟩ := hB6.cells5; have hgz := hB6.fz; have hgl := hB6.lt))
      all_goals go_wp2_with fail
      all_goals go_meet
      ·exact ⟨_, rfl, rfl, below_alloc1 hk, Blk.new _ _ _, hk.size⟩
      ·exact ⟨_, rfl, rfl, below_set5 hk (Nat.le_refl _), hB6.setAll5 _ _ _ _ _, Nat.le_refl _⟩
     case rest =>
      obtain ⟨gx, rfl, rfl, hbc, BXh, hgx⟩ := hcut
      have HB5 := Lib.hid (below_top HBK.out hbc)
      have HR5 := Lib.hid (HRR3.out.below hbc)
      obtain ⟨d0, -, -, -, -⟩ := BXh.cells5
      clear KC HUA HUB hb0 HU hw0 hw1 hw2 hadr
      unfold ptr
      cases hok : ok
      ·have HN := Lib.hid (HFAIL.out (HP.out.none (parseT_bad (by rw [← HOKE.out, hok]))))
       clear hok hbc BXh
       go_wp2_with fail
       go_ret2
       exact HBAD.out _ HN.out HB5.out
      ·have hx := HXE.out hok
       have hokE : okhd a b c2 = true := by rw [← HOKE.out, hok]
       have HOK2 := Lib.hid hokE
       clear hok hokE HOKE HXE
       have hfit : x.size < 16777216 := by rw [hx]; exact Nat.mod_lt _ (by omega)
       by_cases hsz : x.size ≤ r'.length
       ·have hz5 : decide ((n : Int) < (K : Int) + 3 + (x.size : Int)) = false := by have := HLEN.out; simp; omega
        have HP2 := Lib.hid (HP.out.next H32.out HOK2.out (by rw [← hx]; exact hsz))
        have HPOS := Lib.hid (posOf_snoc l ⟨unhd a b c2, r'.take (unhd a b c2).size⟩)
        have HMS := Lib.hid (marks_set l ⟨unhd a b c2, r'.take (unhd a b c2).size⟩ (a :: b :: c2 :: r').length (r'.drop (unhd a b c2).size).length (by rw [← hx]; simp; omega))
        rw [HKK.out, ← hx] at HMS
        rw [HKK.out, ← hx] at HPOS
        rw [← hx] at HP2
        have HTL := Lib.hid (show (r'.take x.size).length = x.size by simp; omega)
        have HSL := Lib.hid (show (false :: msOf l ++ List.replicate (a :: b :: c2 :: r').length false).length = n by
         rw [List.length_append, List.length_cons, msOf_len, List.length_replicate, HLEN.out, ← HKK.out]; simp [posOf]; omega)
        have hkl : K < n := by have := HLEN.out; omega
        have c4 := HR5.out.c4
        have hkb : K + 3 + x.size ≤ n := by have := HLEN.out; omega
        have sl : (false :: msOf l ++ List.replicate (a :: b :: c2 :: r').length false).length = n := HSL.out
        simp only [sl] at c4
        have m1 := HR5.out.mark (i := K) (by show K < (false :: msOf l ++ List.replicate (a :: b :: c2 :: r').length false).length; rw [sl]; exact hkl)
        have z1 := HR5.out.2.2.1.frozen K
        have HS2 := Lib.hid (HR5.out.setMark K)
        have hne : gx ≠ q.gs := by
         have := HRR3.out.lt (k := q.gs) (.inr (.inr (.inl rfl)))
         omega
        obtain ⟨d0', -, -, -, -⟩ := (BXh.far (p := ⟨q.gs, K, none⟩) hne (.int .u8 1)).cells5
        have HB6 := Lib.hid (HB5.out.setCell (p := ⟨q.gs, K, none⟩) (by rw [HPG.out.2]; exact Nat.le_refl _) (.int .u8 1))
        rw [HPG.out.1] at c4
        clear sl hbc BXh HR5 HRR3 HP hx
        dsimp only at m1
        generalize (if (false :: msOf l ++ List.replicate (a :: b :: c2 :: r').length false).getD K false = true then (1 : Int) else 0) = mb at m1
        have hk4 : (K : Int) < (n : Int) := by omega
        go_wp2_with fail
        go_roundw
        case rel =>
         refine ⟨K + (3 + x.size), by go_num, HB6.out, l ++ [⟨x, r'.take x.size⟩], r'.drop x.size, HP2.out, by rw [HPOS.out, HTL.out]; omega, ?_⟩
         have e := HS2.out
         rw [HMS.out] at e
         exact e
        case measure => simp [intOf]; omega
       ·have hz5 : decide ((n : Int) < (K : Int) + 3 + (x.size : Int)) = true := by have := HLEN.out; simp; omega
        have hkb : K + 3 ≤ n := by have := HLEN.out; omega
        have HN := Lib.hid (HFAIL.out (HP.out.none (parseT_long (by rw [← hx]; omega))))
        clear hx hbc BXh hsz
        go_wp2_with fail
        go_ret2
        exact HBAD.out _ HN.out HB5.out
end
section
open Go.RowKit
structure Cs where
 size : Int
 A : Option Addr
 n : Nat
 c : Nat
 A' : Option Addr
 n' : Nat
 c' : Nat
 ws : List Nat
 rs : List Nat
 last : Nat
def Cs.agg (k : Cs) : Value := .agg #[.int .i64 k.size, .slice k.A k.n k.c, .slice k.A' k.n' k.c', .int .u32 (k.last : Nat)]
def Cs.h (k : Cs) : HM := HM.ofWords k.size.toNat k.ws k.rs k.last
def Cs.Ok (k : Cs) : Prop := 64 ≤ k.size ∧ k.size ≤ 1048576 ∧ loadE k.size.toNat k.ws k.rs k.last = 0
structure Cs.At (k : Cs) (w : World) (B : Nat) : Prop where
 hn : k.n ≤ 9223372036854775807
 hr : Reads w B 1 k.A k.n (u32s k.ws)
 h32 : ∀ x ∈ k.ws, x < 4294967296
 hn' : k.n' ≤ 9223372036854775807
 hr' : Reads w B 1 k.A' k.n' (u32s k.rs)
 h32' : ∀ x ∈ k.rs, x < 4294967296
 hl : k.last < 4294967296
theorem Cs.At.below {k : Cs} {w w' : World} (h : k.At w w.heap.size) (hb : Below w.heap.size w w') : k.At w' w'.heap.size :=
 ⟨h.hn, (h.hr.below hb).more hb.size, h.h32, h.hn', (h.hr'.below hb).more hb.size, h.h32', h.hl⟩
end
section
open Go.RowKit Go.Maps
def numL (L : List Nat) (x : Nat) : Nat := if x ∈ L then L.idxOf x + 1 else 0
theorem numL_snoc {L : List Nat} {x : Nat} (h : x ∉ L) : numL (L ++ [x]) = upd (numL L) x (L.length + 1) := by
 funext y
 unfold numL upd
 by_cases hy : y = x
 ·subst hy
  rw [if_pos (by simp), if_pos rfl, List.idxOf_append, if_neg h]
  simp
 ·rw [if_neg hy]
  by_cases hm : y ∈ L
  ·rw [if_pos (by simp [hm]), List.idxOf_append, if_pos hm]
   show _ = if y ∈ L then _ else _
   rw [if_pos hm]
  ·rw [if_neg (by simp [hm, hy])]
   show _ = if y ∈ L then _ else _
   rw [if_neg hm]
theorem numL_le (L : List Nat) (x : Nat) : numL L x ≤ L.length := by
 unfold numL
 split
 ·rename_i h
  have := List.idxOf_lt_length_of_mem h
  omega
 ·omega
def stp (s : List Nat × Nat × (Nat → Nat)) (x : Nat) : List Nat × Nat × (Nat → Nat) := (s.1 ++ [x], if x ∈ s.1 then s.2.1 else s.2.1 + 1, upd s.2.2 x (s.2.1 + 1))
def stL (L : List Nat) : List Nat × Nat × (Nat → Nat) := L.foldl stp ([], 0, fun _ => 0)
theorem stL_snoc (L : List Nat) (x : Nat) : stL (L ++ [x]) = stp (stL L) x := by unfold stL; rw [List.foldl_append]; rfl
theorem stL_fst (L : List Nat) : (stL L).1 = L := by
 have h : ∀ (L : List Nat) s, (L.foldl stp s).1 = s.1 ++ L := by
  intro L
  induction L with
  | nil => intro s; simp
  | cons a L ih => intro s; rw [List.foldl_cons, ih]; simp [stp]
 have := h L ([], 0, fun _ => 0)
 simpa [stL] using this
theorem stL_le (L : List Nat) : (stL L).2.1 ≤ L.length := by
 have h : ∀ (L : List Nat) s, (L.foldl stp s).2.1 ≤ s.2.1 + L.length := by
  intro L
  induction L with
  | nil => intro s; simp
  | cons a L ih =>
    intro s
    rw [List.foldl_cons]
    refine Nat.le_trans (ih _) ?_
    have : (stp s a).2.1 ≤ s.2.1 + 1 := by unfold stp; simp only; split <;> omega
    simp; omega
 have := h L ([], 0, fun _ => 0)
 simpa [stL] using this
theorem snoc_ind {P : List Nat → Prop} (h0 : P []) (h1 : ∀ L x, P L → P (L ++ [x])) : ∀ L, P L := by
 intro L
 rw [← List.reverse_reverse L]
 generalize L.reverse = R
 induction R with
 | nil => exact h0
 | cons a R ih => rw [List.reverse_cons]; exact h1 _ _ ih
theorem stL_nodup : ∀ L : List Nat, L.Nodup → (stL L).2.1 = L.length ∧ (stL L).2.2 = numL L :=
 snoc_ind (fun _ => ⟨rfl, by funext y; simp [stL, numL]⟩) (fun L x ih hnd => by
  rw [List.nodup_append] at hnd
  have hx : x ∉ L := fun hm => hnd.2.2 x hm x (by simp) rfl
  obtain ⟨h1, h2⟩ := ih hnd.1
  rw [stL_snoc, numL_snoc hx]
  refine ⟨?_, ?_⟩
  ·show (if x ∈ (stL L).1 then _ else _) = _
   rw [stL_fst, if_neg hx, h1, List.length_append]; rfl
  ·show upd _ _ _ = _
   rw [h1, h2])
structure MapTyU (T K : TypeId) : Prop where
 ht : Tryz.prog.underlying T = some (.map K 32)
 hk : Tryz.prog.underlying K = some (.int .u32)
def MapU (K : TypeId) (w : World) (b : Nat) (L : List Nat) : Prop :=
 ∃ D : DataW Unit, Tidy D ∧ w.ownsMap Tryz.prog K (plainElem Tryz.prog 32) b L.length D ∧ (∀ x : Nat, x < 4294967296 → D.atKey (.int .u32 (x : Int)) (.lit (.int .u32 0)) = .lit (.int .u32 ((stL L).2.2 x : Nat))) ∧
   (∀ x : Nat, x < 4294967296 → Maps.has D (.int .u32 (x : Int)) = decide (x ∈ L)) ∧ Maps.size D = (stL L).2.1
theorem zeroU (w : World) : (zeroValue 32).run Tryz.prog w = .ok (.int .u32 0) w := by kernel_rfl
section
variable {T K : TypeId} {w w' : World} {b : Nat} {L : List Nat}
theorem MapU.made (w : World) (K : TypeId) : MapU K (w.alloc (.map #[] 0)) w.heap.size [] :=
 ⟨.map [], tidy_empty, World.ownsMap_made _ _ _ _, fun x _ => rfl, fun x _ => rfl, rfl⟩
theorem MapU.lt (h : MapU K w b L) : b < w.heap.size := by obtain ⟨D, _, h, _⟩ := h; exact h.lt
theorem MapU.obj (h : MapU K w b L) : ∃ es c, w.heap[b]? = some (.map es c) := by obtain ⟨D, _, ⟨es, clock, hb, r⟩, _⟩ := h; exact ⟨es, clock, hb⟩
theorem MapU.same (h : MapU K w b L) (hs : w'.heap[b]? = w.heap[b]?) : MapU K w' b L := by
 obtain ⟨D, hD, ⟨es, clock, hb, r⟩, hf⟩ := h
 exact ⟨D, hD, ⟨es, clock, hs.trans hb, r⟩, hf⟩
theorem MapU.below (h : MapU K w b L) (hb : Below w.heap.size w w') : MapU K w' b L := h.same (hb.block b h.lt)
set_option maxRecDepth 100000 in
theorem MapU.look (h : MapU K w b L) (hnd : L.Nodup) (M : MapTyU T K) {x : Nat} (hx : x < 4294967296) : (Instr.lookup T (.map (some b)) (.int .u32 (x : Int)) false).run Tryz.prog w = .ok (.int .u32 (numL L x : Nat)) w := by
 obtain ⟨D, hD, ho, hf, _⟩ := h
 obtain ⟨c, hrun, hat, _⟩ := ho.lookup_int (int_keyed M.hk) M.ht Tryz.underlying32 (zeroU w) (keyOf_int_mk M.hk (wf_u32 hx))
 rw [hf x hx, (stL_nodup L hnd).2] at hat
 have e : c = (numL L x : Nat) := by
  simp only [DataW.lit.injEq, Lit.int.injEq, true_and] at hat
  exact hat.symm
 subst e
 exact hrun
theorem MapU.len (h : MapU K w b L) (M : MapTyU T K) (ty : TypeId) : (Builtin.len_ #[T] ty #[.map (some b)]).run Tryz.prog w = .ok (.int .i64 ((stL L).2.1 : Nat)) w := by
 obtain ⟨D, hD, ho, hf, hh, hs⟩ := h
 rw [← hs]
 exact ho.len M.ht ty
set_option maxRecDepth 100000 in
theorem MapU.put (h : MapU K w b L) (M : MapTyU T K) {x : Nat} (hx : x < 4294967296) (hn : L.length < 4294967295) :
 ∃ w', (Instr.mapUpdate T (.map (some b)) (.int .u32 (x : Int)) (.int .u32 (((stL L).2.1 : Nat) + 1 : Int))).run Tryz.prog w = .ok () w' ∧ MapU K w' b (L ++ [x]) ∧ w.grownBy w' (some b) := by
 obtain ⟨D, hD, ho, hf, hh, hs⟩ := h
 have hle := stL_le L
 obtain ⟨w', hrun, ho', hg⟩ := ho.update (int_keyed M.hk) M.ht (by unfold maxLen; omega) (keyOf_int_mk M.hk (wf_u32 hx)) (plainElem_int Tryz.underlying32 (wf_u32 (x := (stL L).2.1 + 1) (by omega)))
 refine ⟨w', hrun, ⟨_, hD.put (show WideAt.IsKeyLit (.int .u32 (x : Int)) from trivial) _, by rw [List.length_append]; exact ho', fun y hy => ?_, fun y hy => ?_, ?_⟩, hg⟩
 ·rw [stL_snoc]
  show _ = DataW.lit (.int .u32 ((upd (stL L).2.2 x ((stL L).2.1 + 1) y : Nat) : Int))
  unfold upd
  by_cases hyx : y = x
  ·subst hyx
   rw [if_pos rfl]
   exact atKey_put_same hD.isMap (show WideAt.IsKeyLit (.int .u32 (y : Int)) from trivial) _ _
  ·rw [if_neg hyx, atKey_put_other (by intro e; injection e with _ e; omega)]
   exact hf y hy
 ·by_cases hyx : y = x
  ·subst hyx
   rw [has_put_same hD.isMap (show WideAt.IsKeyLit (.int .u32 (y : Int)) from trivial) _]
   simp
  ·rw [has_put_other (by intro e; injection e with _ e; omega), hh y hy]
   simp [hyx]
 ·rw [Maps.size_put hD, hh x hx, hs, stL_snoc]
  show _ = if x ∈ (stL L).1 then _ else _
  rw [stL_fst]
  by_cases hm : x ∈ L
  ·rw [if_pos (by simpa using hm), if_pos hm]
  ·rw [if_neg (by simpa using hm), if_neg hm]
end
def oopsL (l : List Ob) : List Nat := (List.range l.length).map fun j => 2 * posOf (l.take j)
theorem oopsL_len (l : List Ob) : (oopsL l).length = l.length := by simp [oopsL]
theorem oopsL_take1 {l : List Ob} {k : Nat} (hk : k < l.length) : (oopsL l).take (k + 1) = (oopsL l).take k ++ [2 * posOf (l.take k)] := by
 rw [List.take_add_one, List.getElem?_eq_getElem (by rw [oopsL_len]; exact hk)]
 simp [oopsL]
theorem oopsL_get {l : List Ob} {k : Nat} (hk : k < l.length) : (oopsL l)[k]? = some (2 * posOf (l.take k)) := by
 rw [List.getElem?_eq_getElem (by rw [oopsL_len]; exact hk)]
 simp [oopsL]
theorem posOf_take_mono {l : List Ob} {j k : Nat} (hjk : j < k) (hk : k ≤ l.length) : posOf (l.take j) < posOf (l.take k) := by
 induction k with
 | zero => omega
 | succ k ih =>
   have h1 := posOf_take_succ (l := l) k (by omega)
   rcases Nat.lt_or_ge j k with h | h
   ·have := ih h (by omega); omega
   ·have : j = k := by omega
    subst this; exact h1
theorem oopsL_new {l : List Ob} {k : Nat} (hk : k < l.length) : 2 * posOf (l.take k) ∉ (oopsL l).take k := by
 intro hm
 obtain ⟨j, hj, he⟩ := List.getElem_of_mem hm
 rw [List.length_take, oopsL_len] at hj
 have h1 : (oopsL l)[j]? = some (2 * posOf (l.take j)) := oopsL_get (by omega)
 rw [List.getElem_take] at he
 rw [List.getElem?_eq_getElem (by rw [oopsL_len]; omega)] at h1
 injection h1 with h1
 rw [h1] at he
 have := posOf_take_mono (l := l) (j := j) (k := k) (by omega) (by omega)
 omega
theorem oopsL_nodup (l : List Ob) : (oopsL l).Nodup := by
 unfold oopsL
 rw [List.nodup_iff_pairwise_ne, List.pairwise_map]
 refine List.Pairwise.imp_of_mem ?_ (List.pairwise_lt_range (n := l.length))
 intro a b ha hb hlt he
 have := posOf_take_mono (l := l) (j := a) (k := b) hlt (by have := List.mem_range.1 hb; omega)
 omega
theorem oopsL_zero (l : List Ob) : 0 ∉ oopsL l := by
 unfold oopsL
 simp
 intro j _
 have := posOf_pos (l.take j)
 omega
theorem oopsL_eq (l : List Ob) : (List.finRange l.length).map (fun i => 2 * posOf (l.take i.1)) = oopsL l := by
 apply List.ext_getElem
 ·simp [oopsL]
 ·intro i h1 h2
  simp [oopsL]
theorem oopsL_le {h : HM} {l : List Ob} (G : h.Good l) : (oopsL l).length ≤ 1048576 := by
 rw [oopsL_len]
 have hroom := G.fit.room
 have hhi := G.fit.hi
 rcases Nat.eq_zero_or_pos l.length with h0 | h0
 ·omega
 ·have h1 := posOf_take_lt G (l.length - 1) (by omega)
  have h2 : ∀ k, k ≤ l.length → k ≤ posOf (l.take k) := fun k => by
   induction k with
   | zero => intro _; omega
   | succ k ih => intro hk; have := ih (by omega); have := posOf_take_succ (l := l) k (by omega); omega
  have := h2 (l.length - 1) (by omega)
  omega
end
section
open Go.RowKit
attribute [local go_sem] Oper.semAt_some
def zigI (n : Int) : Nat := (2 * (if 0 ≤ n then 2 * n else -2 * n - 1) + 1).toNat
theorem zigI_pos {n : Int} (h : 0 ≤ n) : (zigI n : Int) = 2 * (2 * n) + 1 := by unfold zigI; rw [if_pos h]; omega
theorem zigI_neg {n : Int} (h : ¬ 0 ≤ n) : (zigI n : Int) = 2 * (-2 * n - 1) + 1 := by unfold zigI; rw [if_neg h]; omega
def vnum (L : List Nat) (o : Nat) : Nat := if o % 2 = 1 then zigI (smallV o) else 2 * numL L o
theorem vnum_lt {L : List Nat} (hL : L.length ≤ 1048576) {o : Nat} (ho : o < 4294967296) : vnum L o < 4294967296 := by
 have h1 := smallV_lo o ho
 have h2 := smallV_hi o ho
 unfold vnum
 split
 ·by_cases h : 0 ≤ smallV o
  ·have := zigI_pos h; omega
  ·have := zigI_neg h; omega
 ·have := numL_le L o; omega
theorem oopTyU : MapTyU 143 54 := ⟨Tryz.underlying143, Tryz.underlying54⟩
structure SvAt (w : World) (sg mb : Nat) (g : Nat) (L : List Nat) : Prop where
 box : Blk w sg 277 #[ptr g, .map (some mb)]
 map : MapU 54 w mb L
theorem SvAt.below {w w' : World} {sg mb g : Nat} {L : List Nat} (S : SvAt w sg mb g L) (hb : Below w.heap.size w w') : SvAt w' sg mb g L := ⟨S.box.below hb S.box.lt, S.map.below hb⟩
theorem Value_none (o : Nat) (ho : o < 4294967296) (h1 : o % 2 ≠ 1) (w : World) :
 Calls Tryz.prog 191 #[.int .u32 o] w fun e w' => e = .returned (.tuple #[.int .i64 0, .int .i64 3]) ∧ w = w' := by
 have HK := Lib.hid (kind_any o ho w)
 have hk : ((kindM o : Int) != 1) = true := by
  have : kindM o ≠ 1 := by unfold kindM; split <;> (try split) <;> omega
  simp; omega
 generalize kindM o = k at *
 clear h1
 go_enter Tryz.func191, Tryz.ntmps191
 go_wp2_with fail
 refine HK.out.mono ?_
 rintro e w1 ⟨rfl, rfl⟩
 go_wp2_with fail
 go_ret2
 exact ⟨rfl, rfl⟩
set_option maxRecDepth 100000 in
set_option maxHeartbeats 4000000 in
theorem svalue_any {w : World} {sg mb g : Nat} {L : List Nat} (S : SvAt w sg mb g L) (hL : L.length ≤ 1048576) (hnd : L.Nodup) (o : Nat) (ho : o < 4294967296) :
 Calls Tryz.prog 181 #[.pointer (some ⟨sg, 0, none⟩), .int .u32 o] w (BytesN (cnt7 (vnum L o)) w) := by
 have HN := Lib.hid (fun (x : Nat) (hx : x < 4294967296) => inumber_any x hx w)
 have HL := Lib.hid (vnum_lt hL ho)
 by_cases h1 : o % 2 = 1
 ·have HV := Lib.hid (Value_any o ho h1 w)
  have HZ := Lib.hid (show vnum L o = zigI (smallV o) by unfold vnum; rw [if_pos h1])
  have hlo := smallV_lo o ho
  have hhi := smallV_hi o ho
  clear h1 S
  rw [HZ.out] at HL ⊢
  generalize smallV o = n at *
  by_cases hn : 0 ≤ n
  ·have hd : decide (n < 0) = false := by simpa using hn
   have HF := Lib.hid (zigI_pos hn)
   clear hn
   go_enter Tryz.func181, Tryz.ntmps181
   go_wp2_with fail
   refine HV.out.mono ?_
   rintro e w' ⟨rfl, rfl⟩
   go_wp2_with fail
   rw [show (2 * (2 * n % 4294967296) % 4294967296 + 1 : Int) = ((zigI n : Nat) : Int) by have := HF.out; omega]
   refine (HN.out _ HL.out).mono ?_
   rintro e w2 ⟨v', rfl, h2⟩
   go_wp2_with fail
   go_ret
   exact ⟨_, rfl, h2⟩
  ·have hd : decide (n < 0) = true := by simp; omega
   have HF := Lib.hid (zigI_neg hn)
   clear hn
   go_enter Tryz.func181, Tryz.ntmps181
   go_wp2_with fail
   refine HV.out.mono ?_
   rintro e w' ⟨rfl, rfl⟩
   go_wp2_with fail
   rw [show (2 * ((-2 * n - 1) % 4294967296) % 4294967296 + 1 : Int) = ((zigI n : Nat) : Int) by have := HF.out; omega]
   refine (HN.out _ HL.out).mono ?_
   rintro e w2 ⟨v', rfl, h2⟩
   go_wp2_with fail
   go_ret
   exact ⟨_, rfl, h2⟩
 ·have HV := Lib.hid (Value_none o ho h1 w)
  have HZ := Lib.hid (show vnum L o = 2 * numL L o by unfold vnum; rw [if_neg h1])
  have c1 := S.box.cell 1
  have hlk := S.map.look hnd oopTyU ho
  have hnl := numL_le L o
  clear h1 S
  rw [HZ.out] at HL ⊢
  generalize numL L o = k at *
  go_enter Tryz.func181, Tryz.ntmps181
  go_wp2_with fail
  refine HV.out.mono ?_
  rintro e w' ⟨rfl, rfl⟩
  go_wp2_with fail
  rw [show (2 * (k : Int)) = ((2 * k : Nat) : Int) by omega]
  refine (HN.out _ HL.out).mono ?_
  rintro e w2 ⟨v', rfl, h2⟩
  go_wp2_with fail
  go_ret
  exact ⟨_, rfl, h2⟩
theorem BytesB.app {w wr w0 w5 : World} {B : Nat} {v b v1 : Value} {bs cs ds : List Nat} (h : BytesB B v bs cs w (.returned b) wr) (hb : Below wr.heap.size wr w0)
 (ho : w5.ownsRow B 5 1 v1 ((bs ++ cs).length + ds.length) (u8c (bs ++ cs) ++ u8c ds)) (hg : w0.grownBy w5 b.ownBlock) (hat : v1.ownBlock = b.ownBlock ∨ v1.ownBlock = some w0.heap.size) : BytesB B v bs (cs ++ ds) w (.returned v1) w5 := by
 obtain ⟨b', hb', h0, h1, h2, h3, h4, h5, h6⟩ := h
 injection hb' with hb'
 subst hb'
 refine ⟨v1, rfl, ?_, Nat.le_trans h1 (Nat.le_trans hb.size hg.size), hg.os.trans (hb.os.trans h2), hg.tape.trans (hb.tape.trans h3), hg.output.trans (hb.output.trans h4), fun k hk hne => ?_, fun k hk => ?_⟩
 ·rw [← List.append_assoc, List.length_append, u8c_appI]
  exact ho
 ·have hk2 : k < wr.heap.size := by omega
  refine (hg.block k (Nat.lt_of_lt_of_le hk2 hb.size) (fun e => ?_)).trans ((hb.block k hk2).trans (h5 k hk hne))
  rcases h6 k (by first | exact e | exact e.symm) with h | h
  ·exact hne h
  ·omega
 ·rcases hat with e | e
  ·exact h6 k (e ▸ hk)
  ·rw [e] at hk
   injection hk with hk
   have := hb.size
   exact .inr (by omega)
set_option maxRecDepth 100000 in
set_option maxHeartbeats 4000000 in
theorem rnumber_any {w : World} {B : Nat} {v : Value} {bs : List Nat} (hown : w.ownsRow B 5 1 v bs.length (u8c bs)) (hB : B ≤ w.heap.size) (hn : bs.length ≤ 10000000000000) (x : Nat) (hx : x < 4294967296) :
 Calls Tryz.prog 70 #[v, .int .u32 x] w (BytesB B v bs (cnt7 x) w) := by
 have hc5 := cnt7I_len5 hx
 obtain ⟨i0, hi0, hz0, hz1, hz2⟩ := info_parts info_u8
 have HO := Lib.hid hown
 clear hown
 go_enter Tryz.func70, Tryz.ntmps70
 go_wp2_with fail
 go_loopw [0, 1] (fun b y wr => ∃ m cs, y = .int .u32 (m : Nat) ∧ m < 4294967296 ∧ cs ++ cnt7 m = cnt7 x ∧ BytesB B v bs cs w (.returned b) wr) (fun _ y _ => (intOf y).toNat)
 case atStart => exact ⟨x, [], rfl, hx, rfl, v, rfl, by simpa using HO.out, Nat.le_refl _, rfl, rfl, rfl, fun _ _ _ => rfl, fun k hk => .inl hk⟩
 case round =>
  obtain ⟨m, cs, rfl, hm, hcat, hBB⟩ := hrel
  have HBB := Lib.hid hBB
  obtain ⟨b', hb', ho, h1, -⟩ := hBB
  injection hb' with hb'
  subst hb'
  have HOW := Lib.hid ho
  have HCAT := Lib.hid hcat
  clear ho hcat
  have hBw : B ≤ wr.heap.size := by omega
  by_cases h128 : m < 128
  ·have hbl : cs.length ≤ 10 := by have := congrArg List.length HCAT.out; simp at this; omega
   have hd : decide (128 ≤ (m : Int)) = false := by simp; omega
   have hm8 : ((m : Int) % 256) = (m : Int) := by omega
   have HC1 := Lib.hid (show cnt7 x = cs ++ [m] by rw [← HCAT.out, cnt7_small h128])
   clear h128 hm
   go_wp2_with (at_builtin; refine wpList_append_any _ rfl (.tmp 16) (.tmp 19) _ rfl B 5 i0 _ 1 1 Tryz.underlying22 hi0 hz0 hz1 hz2 rfl (by omega) _ (bs ++ cs).length _ rfl (HOW.out.alloc _) (wr.heap.size + 1) (some ⟨wr.heap.size, 0, none⟩) 1 1 (u8c [m]) rfl ⟨rfl, fun _ => ⟨_, rfl, by simp, cell_one_new _ _ _⟩⟩ (one_u8c _) (by simp only [maxLen, List.length_append]; omega) (by simp only [List.length_append]; omega) (by simp; omega) ?_; intro v1 w5 hown5 hgrow hat5)
   go_ret
   rw [HC1.out]
   exact HBB.out.app ((Below.refl _ _).alloc (Nat.le_refl _) _) hown5 hgrow hat5
  ·have hbl : cs.length + 1 ≤ 10 := by have := congrArg List.length HCAT.out; rw [cnt7_big h128] at this; simp at this; omega
   have hd : decide (128 ≤ (m : Int)) = true := by simp; omega
   have hor : ((m : Int) % 128 % 256 + 128) % 256 = ((m % 128 + 128 : Nat) : Int) := by omega
   have HC1 := Lib.hid (show (cs ++ [m % 128 + 128]) ++ cnt7 (m / 128) = cnt7 x by rw [← HCAT.out, cnt7_big h128]; simp)
   have HD := Lib.hid (show m / 128 < 4294967296 ∧ m / 128 < m by omega)
   clear h128 hm
   go_wp2_with (at_builtin; refine wpList_append_any _ rfl (.tmp 7) (.tmp 12) _ rfl B 5 i0 _ 1 1 Tryz.underlying22 hi0 hz0 hz1 hz2 rfl (by omega) _ (bs ++ cs).length _ rfl (HOW.out.alloc _) (wr.heap.size + 1) (some ⟨wr.heap.size, 0, none⟩) 1 1 (u8c [m % 128 + 128]) rfl ⟨rfl, fun _ => ⟨_, rfl, by simp, cell_one_new _ _ _⟩⟩ (one_u8c _) (by simp only [maxLen, List.length_append]; omega) (by simp only [List.length_append]; omega) (by simp; omega) ?_; intro v1 w5 hown5 hgrow hat5)
   go_roundw
   case rel => have hd1 := HD.out.1; exact ⟨m / 128, cs ++ [m % 128 + 128], by go_num, HD.out.1, HC1.out, HBB.out.app ((Below.refl _ _).alloc (Nat.le_refl _) _) hown5 hgrow hat5⟩
   case measure => have := HD.out.2; simp [intOf]; omega
def bookV (mb : Nat) (va : Value) : Value := .agg #[.map (some mb), va]
set_option maxRecDepth 100000 in
set_option maxHeartbeats 4000000 in
theorem rbvalue_any {w : World} {mb : Nat} {va : Value} {L : List Nat} (M : MapU 54 w mb L) (hL : L.length ≤ 1048576) (hnd : L.Nodup) (h0 : 0 ∉ L) (o : Nat) (ho : o < 4294967296) :
 Calls Tryz.prog 72 #[bookV mb va, .int .u32 o] w (Told (.int .u32 (vnum L o : Nat)) w) := by
 have hb0 := (Below.refl w.heap.size w).alloc (Nat.le_refl _) (.cells #[.map (some mb), va] 145)
 have HB0 := Lib.hid hb0
 unfold bookV
 by_cases hz : o = 0
 ·have HZ := Lib.hid (show vnum L o = 0 by subst hz; unfold vnum numL; rw [if_neg (by decide), if_neg h0])
  subst hz
  clear hb0 M
  go_enter Tryz.func72, Tryz.ntmps72
  go_wp2_with fail
  go_ret
  exact ⟨by rw [HZ.out]; rfl, HB0.out⟩
 ·have hz1 : ((o : Int) == 0) = false := by simp; omega
  by_cases h1 : o % 2 = 1
  ·have h2 : ((o : Int) % 2 == 0) = false := by simp; omega
   have HV := Lib.hid (fun w => rvalue_any o ho h1 w)
   have HZ := Lib.hid (show vnum L o = zigI (smallV o) by unfold vnum; rw [if_pos h1])
   have hlo := smallV_lo o ho
   have hhi := smallV_hi o ho
   clear h1 M hb0 hz
   rw [HZ.out]
   generalize smallV o = n at *
   by_cases hn : 0 ≤ n
   ·have hd : decide (0 ≤ n) = true := by simpa using hn
    have HF := Lib.hid (show (4 * n + 1) % 4294967296 = (zigI n : Int) by have := zigI_pos hn; omega)
    clear hn
    go_enter Tryz.func72, Tryz.ntmps72
    go_wp2_with fail
    refine (HV.out _).mono ?_
    rintro e w' ⟨rfl, rfl⟩
    go_wp2_with fail
    go_ret
    exact ⟨congrArg (fun z => Ending.returned (Value.int .u32 z)) HF.out, HB0.out⟩
   ·have hd : decide (0 ≤ n) = false := by simp; omega
    have HF := Lib.hid (show (2 * (-2 * n - 1) + 1) % 4294967296 = (zigI n : Int) by have := zigI_neg hn; omega)
    clear hn
    go_enter Tryz.func72, Tryz.ntmps72
    go_wp2_with fail
    refine (HV.out _).mono ?_
    rintro e w' ⟨rfl, rfl⟩
    go_wp2_with fail
    go_ret
    exact ⟨congrArg (fun z => Ending.returned (Value.int .u32 z)) HF.out, HB0.out⟩
  ·have h2 : ((o : Int) % 2 == 0) = true := by simp; omega
   have HZ := Lib.hid (show vnum L o = 2 * numL L o by unfold vnum; rw [if_neg h1])
   have hlk := (M.below hb0).look hnd oopTyU ho
   have hnl := numL_le L o
   have c1 := (Blk.new w 145 #[.map (some mb), va]).cell 0
   clear h1 M hb0 hz
   rw [HZ.out]
   generalize numL L o = k at *
   go_enter Tryz.func72, Tryz.ntmps72
   go_wp2_with fail
   go_ret
   exact ⟨by congr 2, HB0.out⟩
end
section
open Go.RowKit
attribute [local go_sem] Oper.semAt_some
theorem SvAt.own' {B sg mb g : Nat} {L : List Nat} {w w' : World} {row : Option Nat} (S : SvAt w sg mb g L) (hm : mb < B) (hg : w.grownBy w' row) (hr : ∀ r, row = some r → B ≤ r ∧ ∃ o : Obj, w.heap[r]? = some o ∧ o.isCells = false) : SvAt w' sg mb g L := by
 refine ⟨S.box.same (hg.block _ S.box.lt (fun e => ?_)), S.map.same (hg.block _ S.map.lt (fun e => by have := (hr mb e.symm).1; omega))⟩
 obtain ⟨_, o, ho, hc⟩ := hr sg e.symm
 have hb := S.box
 unfold Blk at hb
 rw [hb] at ho
 injection ho with ho
 subst ho
 cases hc
theorem blk_ownI {B g : Nat} {w w' : World} {row : Option Nat} {t : TypeId} {cs : Array Value} (b : Blk w g t cs) (hg : w.grownBy w' row) (hr : ∀ r, row = some r → B ≤ r ∧ ∃ o : Obj, w.heap[r]? = some o ∧ o.isCells = false) : Blk w' g t cs :=
 b.same (hg.block g b.lt (fun e => by
  obtain ⟨_, o, ho, hc⟩ := hr g e.symm
  unfold Blk at b; rw [b] at ho; injection ho with ho; subst ho; cases hc))
def NewSvP (g : Nat) (L : List Nat) (w : World) (e : Ending) (w' : World) : Prop :=
 ∃ sg mb, e = .returned (.pointer (some ⟨sg, 0, none⟩)) ∧ SvAt w' sg mb g L ∧ w.heap.size ≤ sg ∧ w.heap.size ≤ mb ∧ Below w.heap.size w w'
set_option maxRecDepth 100000 in
set_option maxHeartbeats 4000000 in
theorem newSaver_any {w : World} {p : HP} {h : HM} {l : List Ob} (H : HAt w p h) (G : h.Good l) (hs : Spares w) :
 Calls Tryz.prog 106 #[ptr p.g] w (NewSvP p.g (oopsL l) w) := by
 refine (callsIn_wide (n := 6)).1 ?_
 refine callsIn_of_wp_marks Tryz.func106 rfl trivial ?_ rfl
 simp only [Tryz.ntmps106, List.size_toArray, List.length_cons, List.length_nil, Nat.reduceAdd, Nat.reduceSub, Array.replicate_succ, Array.replicate_zero, List.push_toArray, List.append_toArray, List.nil_append, List.cons_append]
 unfold ptr
 have hmm := @run_makeMap Tryz.prog
 gi_wp2_with fail
 refine ⟨trivial, (callsIn_wide.2 (all_any p.g _)).mono ?_⟩
 rintro e W2 ⟨rfl, rfl⟩
 have hsz : ((((w.alloc (.map #[] 0)).alloc (.cells #[.pointer (some ⟨p.g, 0, none⟩), .map (some w.heap.size)] 277)).alloc (.cells #[.pointer (some ⟨w.heap.size + 1, 0, none⟩)] 192)).alloc (.cells #[ptr p.g] 23)).heap.size = w.heap.size + 4 := by simp
 have M0 := MapU.made w 54
 have S0 : SvAt ((((w.alloc (.map #[] 0)).alloc (.cells #[.pointer (some ⟨p.g, 0, none⟩), .map (some w.heap.size)] 277)).alloc (.cells #[.pointer (some ⟨w.heap.size + 1, 0, none⟩)] 192)).alloc (.cells #[ptr p.g] 23)) (w.heap.size + 1) w.heap.size p.g [] := by
  have b0 := Blk.new (w.alloc (.map #[] 0)) 277 #[.pointer (some ⟨p.g, 0, none⟩), .map (some w.heap.size)]
  rw [World.size_alloc] at b0
  exact ⟨(b0.alloc _).alloc _, ((M0.below ((Below.refl _ _).alloc (Nat.le_refl _) _)).below ((Below.refl _ _).alloc (Nat.le_refl _) _)).below ((Below.refl _ _).alloc (Nat.le_refl _) _)⟩
 have B0 : Blk ((((w.alloc (.map #[] 0)).alloc (.cells #[.pointer (some ⟨p.g, 0, none⟩), .map (some w.heap.size)] 277)).alloc (.cells #[.pointer (some ⟨w.heap.size + 1, 0, none⟩)] 192)).alloc (.cells #[ptr p.g] 23)) (w.heap.size + 1 + 1) 192 #[.pointer (some ⟨w.heap.size + 1, 0, none⟩)] := by
  have b0 := Blk.new ((w.alloc (.map #[] 0)).alloc (.cells #[.pointer (some ⟨p.g, 0, none⟩), .map (some w.heap.size)] 277)) 192 #[.pointer (some ⟨w.heap.size + 1, 0, none⟩)]
  rw [World.size_alloc, World.size_alloc] at b0
  exact b0.alloc _
 have BH : Blk ((((w.alloc (.map #[] 0)).alloc (.cells #[.pointer (some ⟨p.g, 0, none⟩), .map (some w.heap.size)] 277)).alloc (.cells #[.pointer (some ⟨w.heap.size + 1, 0, none⟩)] 192)).alloc (.cells #[ptr p.g] 23)) (w.heap.size + 1 + 1 + 1) 23 #[ptr p.g] := by
  have b0 := Blk.new (((w.alloc (.map #[] 0)).alloc (.cells #[.pointer (some ⟨p.g, 0, none⟩), .map (some w.heap.size)] 277)).alloc (.cells #[.pointer (some ⟨w.heap.size + 1, 0, none⟩)] 192)) 23 #[ptr p.g]
  rw [World.size_alloc, World.size_alloc, World.size_alloc] at b0
  exact b0
 have hB0 : Below w.heap.size w ((((w.alloc (.map #[] 0)).alloc (.cells #[.pointer (some ⟨p.g, 0, none⟩), .map (some w.heap.size)] 277)).alloc (.cells #[.pointer (some ⟨w.heap.size + 1, 0, none⟩)] 192)).alloc (.cells #[ptr p.g] 23)) :=
  ((((Below.refl _ w).alloc (Nat.le_refl _) _).alloc (by simp) _).alloc (by simp; omega) _).alloc (by simp; omega) _
 gi_wp2_with fail
 unfold ptr at *
 generalize (((w.alloc (.map #[] 0)).alloc (.cells #[.pointer (some ⟨p.g, 0, none⟩), .map (some w.heap.size)] 277)).alloc (.cells #[.pointer (some ⟨w.heap.size + 1, 0, none⟩)] 192)).alloc (.cells #[.pointer (some ⟨p.g, 0, none⟩)] 23) = W0 at *
 clear M0 hmm
 have HI := Lib.hid (show HAt W0 p h ∧ Spares W0 from ⟨H.below hB0, hs.below hB0⟩)
 have hlt := World.block_lt_of_cell? _ _ (hs 0 (by omega))
 simp only at hlt
 have hroom := G.fit.room
 have hhi := G.fit.hi
 have hlen := oopsL_le G
 refine wpIn_rangeFunc_ownH (F := Fence.wide) rfl (by omega) (gf := 129) (lb := #[.pointer (some ⟨w.heap.size + 1 + 1 + 1, 0, none⟩)]) rfl trivial (enters_of Tryz.func129 (by kernel_rfl) rfl)
  (all_stops HI.out.1 G HI.out.2 5 (w.heap.size + 1 + 1 + 1) w.heap.size (BH.cell 0) hlt) KpB.trans (fun W l o o' _ h1 h2 _ => KpB.book W l o o' h1 h2) (Below.refl _ _) (fun _ => rfl)
  (fun pre W => SvAt W (w.heap.size + 1) w.heap.size p.g (pre.map fun i => 2 * posOf (l.take i.1)) ∧ Blk W (w.heap.size + 1 + 1) 192 #[.pointer (some ⟨w.heap.size + 1, 0, none⟩)] ∧ Below w.heap.size w W)
  (fun c pre W => False)
  (fun pre A B row hs hg hr => ⟨hs.1.own' (by omega) hg hr, blk_ownI hs.2.1 hg hr, hs.2.2.grown hg hs.2.2.size (fun k e => by have := (hr k e).1; omega)⟩)
  (fun c pre A B row hs hg hr => hs.elim)
  ⟨S0, B0, hB0⟩
  (fun x a' W => a' = { tmps := #[.pointer (some ⟨p.g, 0, none⟩), undef, .pointer none, .pointer (some ⟨w.heap.size + 1 + 1, 0, none⟩), .int .u32 ((2 * posOf (l.take x.1) : Nat) : Int), .pointer (some ⟨p.g, 0, none⟩), .map (some w.heap.size), .agg #[.pointer (some ⟨p.g, 0, none⟩), .map (some w.heap.size)], .pointer (some ⟨w.heap.size + 1, 0, none⟩), .pointer (some ⟨p.g, 0, none⟩), .func (.func 129) #[] #[.pointer (some ⟨w.heap.size + 1 + 1 + 1, 0, none⟩)], .int .u32 ((2 * posOf (l.take x.1) : Nat) : Int), (l[x.1]'x.2).x.val, undef, undef, undef, undef, undef, undef, undef, undef, undef, undef, undef, undef, undef], defers := [] })
  (fun x a' _ X Y row hs hg hr => hs)
  ?assign ?body ?done ?stop
 case assign =>
  rintro lp pre x W K hI hK
  rw [show allV l x = #[.int .u32 ((2 * posOf (l.take x.1) : Nat) : Int), (l[x.1]'x.2).x.val] from rfl]
  have HI0 := Lib.hid hI
  have HK := Lib.hid hK
  clear hK hI
  generalize (l[x.1]'x.2).x.val = X at *
  generalize 2 * posOf (l.take x.1) = o at *
  gi_wp2_with fail
  exact HK.out _ _ ((KeepsOthers.refl _).from _) (KpB.refl _ _ _) HI0.out rfl
 case body =>
  rintro lp pre x a' W hl hlr ⟨S1, B1, hB1⟩ rfl hltx
  have hpl := posOf_take_lt G x.1 x.2
  have ho : 2 * posOf (l.take x.1) < 4294967296 := by omega
  have hmp : (pre ++ [x]).map (fun i => 2 * posOf (l.take i.1)) = (pre.map fun i => 2 * posOf (l.take i.1)) ++ [2 * posOf (l.take x.1)] := by rw [List.map_append]; rfl
  have hLl : (pre.map fun i => 2 * posOf (l.take i.1)).length ≤ 1048576 := by rw [List.length_map]; rw [oopsL_len] at hlen; omega
  generalize (pre.map fun i => 2 * posOf (l.take i.1)) = L at *
  generalize 2 * posOf (l.take x.1) = o at *
  generalize (l[x.1]'x.2).x.val = X at *
  have hm := stL_le L
  have HMP := Lib.hid hmp
  clear hpl hmp
  apply wpIn_block
  refine wpIn_region_U 12 (fun w' => w'.cell? ⟨w.heap.size + 1 + 1, 0, none⟩ = some (.pointer (some ⟨w.heap.size + 1, 0, none⟩)) ∧ w'.cell? ⟨w.heap.size + 1, 1, none⟩ = some (.map (some w.heap.size)) ∧ ∀ ty, (Builtin.len_ #[143] ty #[.map (some w.heap.size)]).run Tryz.prog w' = .ok (.int .i64 ((stL L).2.1 : Nat)) w') (by kernel_rfl) (by kernel_rfl) ?_
  have hbd : Below W.heap.size W W.drew := ⟨rfl, rfl, rfl, Nat.le_refl _, fun _ _ => rfl⟩
  have S2 := S1.below hbd
  have B2 := B1.below hbd B1.lt
  have hB2 := below_top hB1 hbd
  have hwc : IntKind.u32.wrap (((stL L).2.1 : Int) + 1) = ((stL L).2.1 : Int) + 1 := by show (((stL L).2.1 : Int) + 1) % 4294967296 = _; omega
  have hwi : IntKind.i64.wrap (((stL L).2.1 : Int) + 1) = ((stL L).2.1 : Int) + 1 := IntWalk.i64_in _ (by omega)
  have HBD := Lib.hid hbd
  clear S1 B1 hB1 hbd
  generalize W.drew = W7 at *
  obtain ⟨W9, hpt, HM9, hg9⟩ := S2.map.put oopTyU ho (by omega)
  obtain ⟨mes, mc, hmo⟩ := S2.map.obj
  have hS : W7.cell? ⟨w.heap.size + 1 + 1, 0, none⟩ = some (.pointer (some ⟨w.heap.size + 1, 0, none⟩)) ∧ W7.cell? ⟨w.heap.size + 1, 1, none⟩ = some (.map (some w.heap.size)) ∧ ∀ ty, (Builtin.len_ #[143] ty #[.map (some w.heap.size)]).run Tryz.prog W7 = .ok (.int .i64 ((stL L).2.1 : Nat)) W7 := ⟨B2.cell 0, S2.box.cell 1, fun ty => S2.map.len oopTyU ty⟩
  have HFIN := Lib.hid (show KeepsFrom W0.heap.size W W9 ∧ KpB w.heap.size W0.heap.size W W9 ∧ SvAt W9 (w.heap.size + 1) w.heap.size p.g ((pre ++ [x]).map fun i => 2 * posOf (l.take i.1)) ∧ Blk W9 (w.heap.size + 1 + 1) 192 #[.pointer (some ⟨w.heap.size + 1, 0, none⟩)] ∧ Below w.heap.size w W9 from by
   have hb := HBD.out
   have hne : ∀ k, k < W7.heap.size → k ≠ w.heap.size → W9.heap[k]? = W7.heap[k]? := fun k hk hn => hg9.block k hk (fun e => hn (by injection e))
   refine ⟨⟨Nat.le_trans hb.size hg9.size, fun k o' hk ho' hc => ?_⟩, ⟨hg9.os.trans hb.os, hg9.tape.trans hb.tape, hg9.output.trans hb.output, Nat.le_trans hb.size hg9.size, fun k cs t fr hk hh => ?_⟩, ⟨S2.box.same (hne _ S2.box.lt (by omega)), by rw [HMP.out]; exact HM9⟩, B2.same (hne _ B2.lt (by omega)), hB2.grown hg9 hB2.size (fun k e => by injection e with e; omega)⟩
   ·have h1 := lt_of_get ho'
    have h2 := hb.size
    exact (hne k (by omega) (by omega)).trans ((hb.block k h1).trans ho')
   ·have h1 := lt_of_get hh
    have h2 := hb.size
    have h3 := (hb.block k h1).trans hh
    exact (hne k (by omega) (fun e => by subst e; rw [hmo] at h3; injection h3 with h3; cases h3)).trans h3)
  clear S2 B2 hB2 HM9 hg9 hmo
  refine U_read 0 (v := (.pointer (some ⟨w.heap.size + 1, 0, none⟩))) rfl (by kernel_rfl) (fun _ _ _ h => h) hS (by rfl) (fun w' hw' => by obtain ⟨h0, h1, h2⟩ := hw'; go_simp) ?_
  try simp only [Act.put, List.setIfInBounds_toArray, List.set_cons_zero, List.set_cons_succ]
  refine U_read 1 (v := (.pointer (some ⟨w.heap.size + 1, 0, none⟩))) rfl (by kernel_rfl) (fun _ _ _ h => h) hS (by rfl) (fun w' hw' => by obtain ⟨h0, h1, h2⟩ := hw'; go_simp) ?_
  try simp only [Act.put, List.setIfInBounds_toArray, List.set_cons_zero, List.set_cons_succ]
  refine U_read 2 (v := (.pointer (some ⟨w.heap.size + 1, 1, none⟩))) rfl (by kernel_rfl) (fun _ _ _ h => h) hS (by rfl) (fun w' hw' => by obtain ⟨h0, h1, h2⟩ := hw'; go_simp) ?_
  try simp only [Act.put, List.setIfInBounds_toArray, List.set_cons_zero, List.set_cons_succ]
  refine U_read 3 (v := (.map (some w.heap.size))) rfl (by kernel_rfl) (fun _ _ _ h => h) hS (by rfl) (fun w' hw' => by obtain ⟨h0, h1, h2⟩ := hw'; go_simp) ?_
  try simp only [Act.put, List.setIfInBounds_toArray, List.set_cons_zero, List.set_cons_succ]
  refine U_read 4 (v := (.int .u32 (o : Int))) rfl (by kernel_rfl) (fun _ _ _ h => h) hS (by rfl) (fun w' hw' => by obtain ⟨h0, h1, h2⟩ := hw'; go_simp) ?_
  try simp only [Act.put, List.setIfInBounds_toArray, List.set_cons_zero, List.set_cons_succ]
  refine U_read 5 (v := (.pointer (some ⟨w.heap.size + 1, 0, none⟩))) rfl (by kernel_rfl) (fun _ _ _ h => h) hS (by rfl) (fun w' hw' => by obtain ⟨h0, h1, h2⟩ := hw'; go_simp) ?_
  try simp only [Act.put, List.setIfInBounds_toArray, List.set_cons_zero, List.set_cons_succ]
  refine U_read 6 (v := (.pointer (some ⟨w.heap.size + 1, 0, none⟩))) rfl (by kernel_rfl) (fun _ _ _ h => h) hS (by rfl) (fun w' hw' => by obtain ⟨h0, h1, h2⟩ := hw'; go_simp) ?_
  try simp only [Act.put, List.setIfInBounds_toArray, List.set_cons_zero, List.set_cons_succ]
  refine U_read 7 (v := (.pointer (some ⟨w.heap.size + 1, 1, none⟩))) rfl (by kernel_rfl) (fun _ _ _ h => h) hS (by rfl) (fun w' hw' => by obtain ⟨h0, h1, h2⟩ := hw'; go_simp) ?_
  try simp only [Act.put, List.setIfInBounds_toArray, List.set_cons_zero, List.set_cons_succ]
  refine U_read 8 (v := (.map (some w.heap.size))) rfl (by kernel_rfl) (fun _ _ _ h => h) hS (by rfl) (fun w' hw' => by obtain ⟨h0, h1, h2⟩ := hw'; go_simp) ?_
  try simp only [Act.put, List.setIfInBounds_toArray, List.set_cons_zero, List.set_cons_succ]
  refine U_read 9 (v := (.int .i64 ((stL L).2.1 : Int))) rfl (by kernel_rfl) (fun _ _ _ h => h) hS (by rfl) (fun w' hw' => by obtain ⟨h0, h1, h2⟩ := hw'; go_simp) ?_
  try simp only [Act.put, List.setIfInBounds_toArray, List.set_cons_zero, List.set_cons_succ]
  refine U_read 10 (v := (.int .i64 (((stL L).2.1 : Int) + 1))) rfl (by kernel_rfl) (fun _ _ _ h => h) hS (by rfl) (fun w' hw' => by obtain ⟨h0, h1, h2⟩ := hw'; go_simp) ?_
  try simp only [Act.put, List.setIfInBounds_toArray, List.set_cons_zero, List.set_cons_succ]
  refine U_read 11 (v := (.int .u32 (((stL L).2.1 : Int) + 1))) rfl (by kernel_rfl) (fun _ _ _ h => h) hS (by rfl) (fun w' hw' => by obtain ⟨h0, h1, h2⟩ := hw'; go_simp) ?_
  try simp only [Act.put, List.setIfInBounds_toArray, List.set_cons_zero, List.set_cons_succ]
  refine U_one 12 (by kernel_rfl) rfl rfl (fun K hK => ?_)
  go_simp
  refine hK _ _ (fun h => absurd h (by decide)) ?_
  clear hK K
  try simp only [Act.put, List.setIfInBounds_toArray, List.set_cons_zero, List.set_cons_succ]
  refine U_done (by kernel_rfl) ?_ _
  simp only [Calm, Exit.then]
  exact HFIN.out
 case done =>
  rintro D xs W hD rfl ⟨S1, B1, hB1⟩ hK
  rw [oopsL_eq] at S1
  have c1 := B1.cell 0
  have HFN := Lib.hid (And.intro S1 hB1)
  clear S1 B1 hB1
  gi_wp2_with fail
  refine ⟨by simp, .inl ⟨_, _, rfl, run_takeDeferred hK, ?_⟩⟩
  have hc := HFN.out.1.own' (B := W0.heap.size) (by omega) (grownBy_putObj' W D (.deferred none)) (fun r e => by cases e; exact ⟨hD, _, hK, rfl⟩)
  refine ⟨.pointer (some ⟨w.heap.size + 1, 0, none⟩), by simp [results, Tryz.results106, go_sem], _, _, rfl, hc, by omega, by omega, ?_⟩
  exact HFN.out.2.trans (belowK_b (w := w) (Nat.le_refl _) _ D _ _ (by omega) hK rfl rfl)
 case stop =>
  rintro D c pre W hD hp hx hK
  exact hx.elim
end
section
open Go.RowKit
attribute [local go_sem] Oper.semAt_some
structure NeedA (Kp : World → World → Prop) (n0 : Nat) (h : HM) : Prop where
 heap : ∀ {A B : World} {pc : HP}, Kp A B → (∀ j, pc.has j → n0 ≤ j) → HAt A pc h → HAt B pc h
 spares : ∀ {A B : World}, Kp A B → Spares A → Spares B
set_option maxRecDepth 100000 in
set_option maxHeartbeats 4000000 in
theorem all_stopsK {w : World} {p : HP} {h : HM} {l : List Ob} (H : HAt w p h) (G : h.Good l) (hs : Spares w) (n Bh : Nat) (hbox : w.cell? ⟨Bh, 0, none⟩ = some (ptr p.g)) (Kp : World → World → Prop) (K : NeedA Kp w.heap.size h) :
 SeqStopsK Fence.wide n Tryz.prog 129 #[.pointer (some ⟨Bh, 0, none⟩)] (allV l) Kp (fun xs => xs = List.finRange l.length) (fun pre => pre <+: List.finRange l.length) l.length w :=
 fun lp J Jx W hW hJ hJx hY h0 => by
 have hBh := World.block_lt_of_cell? _ _ hbox
 have HW := H.below hW
 have hbW : W.cell? ⟨Bh, 0, none⟩ = some (ptr p.g) := (hW.cell (p := ⟨Bh, 0, none⟩) hBh).trans hbox
 have HC := Lib.hid (Clone_any HW G.fit)
 have HsW := hs.below hW
 refine callsIn_of_wp Tryz.func129 rfl trivial ?_ rfl
 simp only [Tryz.ntmps129, List.size_toArray, List.length_cons, List.length_nil, Nat.reduceAdd, Nat.reduceSub, Array.replicate_succ, Array.replicate_zero, List.push_toArray, List.append_toArray, List.nil_append, List.cons_append]
 unfold ptr at hbW HC
 have HY := Lib.hid hY
 have KN := Lib.hid K
 have HJ := Lib.hid (show ∀ s A B, J s A → Below A.heap.size A B → J s B from fun s A B hs hb => hJ s A B none hs ⟨hb.os, hb.tape, hb.output, hb.size, fun k hk _ => hb.block k hk⟩ (fun r e => by cases e))
 have HJ0 := Lib.hid h0
 have HWD := Lib.hid hW
 clear hY hJ hJx h0 hW
 gi_wp2_with fail
 refine ⟨trivial, fun hh => (by cases hh), (callsIn_wide.2 HC.out).mono ?_⟩
 rintro e W1 ⟨pc, rfl, Hc, hnew, hb1⟩
 have HJ1 := HJ.out _ _ _ HJ0.out hb1
 have Hs1 := HsW.below hb1
 have HN := Lib.hid hnew
 have HF := Lib.hid (first_any Hc G.fit)
 rw [first_oopI G] at HF
 unfold ptr at HF
 clear hbW hnew
 gi_wp2_with fail
 refine ⟨trivial, fun hh => (by cases hh), (callsIn_wide.2 HF.out).mono ?_⟩
 rintro e W2 ⟨rfl, rfl⟩
 have HH := Lib.hid (show HAt W1 pc h ∧ Spares W1 ∧ J ((List.finRange l.length).take 0) W1 from ⟨Hc, Hs1, HJ1⟩)
 clear Hc Hs1 HJ1 hb1
 gi_wp2_with fail
 gi_loopw [4] (fun o wr => ∃ k : Nat, k ≤ l.length ∧ o = .int .u32 ((oopI l k : Nat) : Int) ∧ HAt wr pc h ∧ Spares wr ∧ J ((List.finRange l.length).take k) wr) (fun o wr => mesO o)
 case atStart => exact ⟨0, by omega, rfl, HH.out.1, HH.out.2.1, HH.out.2.2⟩
 case round =>
  obtain ⟨k, hk, rfl, Hk, hsk, hjk⟩ := hrel
  by_cases hlt : k < l.length
  ·have hroom := G.fit.room
   have hhi := G.fit.hi
   have hpl := posOf_take_lt G k hlt
   have hpp := posOf_pos (l.take k)
   have hO := Lib.hid (show oopI l k = 2 * posOf (l.take k) by unfold oopI; rw [if_pos hlt])
   have hN := Lib.hid (next_oopI G k hlt)
   have hB := isB_at G k hlt
   have HX := Lib.hid (hd_at' G k hlt)
   have HAT := Lib.hid (fun w => at_any pc.g (2 * posOf (l.take k)) (by omega) (objB_pos _) w)
   have HHD := Lib.hid (fun w' (H : HAt w' pc h) (hs : Spares w') => header_any H G.fit hs (posOf (l.take k)) (G.laid.heads _ (by unfold HM.isB at hB; simp only [Bool.and_eq_true, half_pos] at hB; exact hB.2)))
   have HNX := Lib.hid (fun w' (H : HAt w' pc h) (hs : Spares w') => next_any H G.fit G.laid.heads hs (2 * posOf (l.take k)) (by omega))
   have HNV := Lib.hid (show h.nextV (2 * posOf (l.take k)) = .tuple #[.int .u32 (oopI l (k + 1) : Nat), .int .i64 0] by unfold HM.nextV; rw [if_pos hB, hN.out])
   have HME := Lib.hid (show oopI l (k + 1) = 0 ∨ 2 * posOf (l.take k) < oopI l (k + 1) by
    unfold oopI
    split
    ·have := posOf_take_succ k hlt; right; omega
    ·exact .inl rfl)
   have HMX := Lib.hid (show oopI l (k + 1) < 4294967296 by
    unfold oopI
    split
    ·rename_i h1; have := posOf_take_lt G (k + 1) h1; omega
    ·omega)
   have HTK := Lib.hid (show (List.finRange l.length).take k ++ [⟨k, hlt⟩] = (List.finRange l.length).take (k + 1) by
    rw [List.take_add_one, List.getElem?_eq_getElem (by simpa using hlt)]; simp)
   have HPL := Lib.hid (show ((List.finRange l.length).take k).length < l.length by simp; omega)
   have HAV := Lib.hid (show allV l ⟨k, hlt⟩ = #[.int .u32 ((2 * posOf (l.take k) : Nat) : Int), .agg #[.int .i64 (l[k].x.size : Nat), .int .i64 (l[k].x.fmt : Nat), .int .i64 (l[k].x.spare : Nat), .int .u32 (l[k].x.cls : Nat), .int .u32 (l[k].x.ser : Nat)]] from rfl)
   have HXV := Lib.hid (show (h.hd (posOf (l.take k))).val = .agg #[.int .i64 (l[k].x.size : Nat), .int .i64 (l[k].x.fmt : Nat), .int .i64 (l[k].x.spare : Nat), .int .u32 (l[k].x.cls : Nat), .int .u32 (l[k].x.ser : Nat)] by rw [HX.out]; rfl)
   have HK := Lib.hid (show HAt wr pc h ∧ Spares wr ∧ J ((List.finRange l.length).take k) wr from ⟨Hk, hsk, hjk⟩)
   have HYk := Lib.hid (fun W1 hj => HY.out ((List.finRange l.length).take k) ⟨k, hlt⟩ W1 hj HPL.out)
   rw [HAV.out] at HYk
   rw [hO.out]
   rw [HXV.out] at HHD
   rw [HNV.out] at HNX
   rw [half_pos] at HAT
   clear Hk hsk hjk hB hO HX hN HXV HNV HAV HPL HH
   generalize (⟨k, hlt⟩ : Fin l.length) = xk at *
   generalize l[k].x = X at *
   have ho : (((2 * posOf (l.take k) : Nat) : Int) != 0) = true := by simp; omega
   have HO32 := Lib.hid (show 2 * posOf (l.take k) < 4294967296 ∧ 0 < 2 * posOf (l.take k) by omega)
   generalize hq : 2 * posOf (l.take k) = o at *
   clear hq
   generalize posOf (l.take k) = q at *
   unfold ptr at HAT HHD HNX
   gi_wp2_with fail
   refine ⟨trivial, fun hh => (by cases hh), (callsIn_wide.2 (HAT.out _)).mono ?_⟩
   rintro e W3 ⟨rfl, rfl⟩
   gi_wp2_with fail
   refine ⟨trivial, fun hh => (by cases hh), (callsIn_wide.2 (HHD.out _ HK.out.1 HK.out.2.1)).mono ?_⟩
   rintro e W4 ⟨rfl, hb4⟩
   have HK4 := Lib.hid (show HAt W4 pc h ∧ Spares W4 ∧ J ((List.finRange l.length).take k) W4 from ⟨HK.out.1.below hb4, HK.out.2.1.below hb4, HJ.out _ _ _ HK.out.2.2 hb4⟩)
   clear hb4 HK
   obtain ⟨fn, tmps, assign, body, hy, hR⟩ := HYk.out W4 HK4.out.2.2
   gi_wp2_with fail
   refine ⟨fun hh => (by cases hh), hR.mono ?_⟩
   rintro e W5 (⟨rfl, hJ5, hk5⟩ | ⟨rfl, hx5⟩)
   ·have HK5 := Lib.hid (show HAt W5 pc h ∧ Spares W5 ∧ J ((List.finRange l.length).take (k + 1)) W5 from
     ⟨KN.out.heap hk5 (fun j hj => Nat.le_trans HWD.out.size (HN.out j hj)) HK4.out.1, KN.out.spares hk5 HK4.out.2.1, by rw [← HTK.out]; exact hJ5⟩)
    clear hJ5 hk5 hy hR HK4
    gi_wp2_with fail
    refine ⟨trivial, fun hh => (by cases hh), (callsIn_wide.2 (HNX.out _ HK5.out.1 HK5.out.2.1)).mono ?_⟩
    rintro e W6 ⟨rfl, hb6⟩
    have HK6 := Lib.hid (show HAt W6 pc h ∧ Spares W6 ∧ J ((List.finRange l.length).take (k + 1)) W6 from ⟨HK5.out.1.below hb6, HK5.out.2.1.below hb6, HJ.out _ _ _ HK5.out.2.2 hb6⟩)
    clear hb6 HK5
    generalize hno : oopI l (k + 1) = no at *
    have HNO := Lib.hid hno
    clear hno
    gi_wp2_with fail
    go_roundw
    case rel => exact ⟨k + 1, by omega, by rw [HNO.out], HK6.out.1, HK6.out.2.1, HK6.out.2.2⟩
    case measure => exact mesO_lt HME.out HO32.out.2 HO32.out.1 HMX.out
   ·clear hy HK4
    gi_wp2_with fail
    refine bodyPost_ret (results_none rfl _ _ _) rfl ?_
    exact ⟨⟨_, rfl⟩, .inr ⟨_, ⟨(List.finRange l.length).drop (k + 1), by rw [HTK.out, List.take_append_drop]⟩, hx5⟩⟩
  ·obtain rfl : k = l.length := by omega
   have hO := Lib.hid (show oopI l l.length = 0 by unfold oopI; rw [if_neg hlt])
   have HFin := Lib.hid (show J (List.finRange l.length) wr by have := hjk; rw [List.take_of_length_le (by simp)] at this; exact this)
   rw [hO.out]
   clear Hk hsk hjk hlt hk
   gi_wp2_with fail
   go_end0
   exact ⟨⟨_, rfl⟩, .inl ⟨_, rfl, HFin.out⟩⟩
end
section
open Go.RowKit
theorem cells4I {w : World} {g : Nat} {t : TypeId} {a b c d : Value} (h : Blk w g t #[a, b, c, d]) : w.cell? ⟨g, 0, none⟩ = some a ∧ w.cell? ⟨g, 1, none⟩ = some b ∧ w.cell? ⟨g, 2, none⟩ = some c ∧ w.cell? ⟨g, 3, none⟩ = some d := ⟨h.cell 0, h.cell 1, h.cell 2, h.cell 3⟩
def IBothP (W : World) (k : Cs) (e : Ending) (w' : World) : Prop :=
 Below W.heap.size W w' ∧ ((¬ k.Ok ∧ e = .returned (.tuple #[.pointer none, .pointer none, .bool false])) ∨
  (k.Ok ∧ ∃ p q ls, e = .returned (.tuple #[ptr p.g, ptr q.g, .bool true]) ∧ Live W w' p p.g k.h ∧ k.h.Good ls ∧ RAt w' q k.h))
set_option maxRecDepth 100000 in
set_option maxHeartbeats 4000000 in
theorem iboth_any (W : World) (E : Env W) (k : Cs) (hk : k.At W W.heap.size) : Calls Tryz.prog 42 #[k.agg] W (IBothP W k) := by
 have HE0 := Lib.hid E
 have hb0 := (Below.refl W.heap.size W).alloc (Nat.le_refl _) (.cells #[.int .i64 k.size, .slice k.A k.n k.c, .slice k.A' k.n' k.c', .int .u32 (k.last : Nat)] 103)
 have HB0 := Lib.hid hb0
 have BX := Lib.hid (Blk.new W 103 #[.int .i64 k.size, .slice k.A k.n k.c, .slice k.A' k.n' k.c', .int .u32 (k.last : Nat)])
 have HE := Lib.hid (E.below hb0)
 have HK := Lib.hid (hk.below hb0)
 clear hb0 E hk
 unfold Cs.agg
 by_cases hsz : k.size < 64 ∨ 1048576 < k.size
 ·have HF := Lib.hid (show ¬ k.Ok from fun h => by have h1 := h.1; have h2 := h.2.1; omega)
  by_cases h0 : k.size < 64
  ·have hd1 : decide (k.size < 64) = true := by simpa using h0
   clear hsz h0
   go_enter Tryz.func42, Tryz.ntmps42
   go_wp2_with fail
   refine bodyPost_ret (v := .tuple #[.pointer none, .pointer none, .bool false]) (by simp [results, Tryz.results42, go_sem]) rfl ?_
   exact ⟨HB0.out, .inl ⟨HF.out, rfl⟩⟩
  ·have hd1 : decide (k.size < 64) = false := by simpa using h0
   have hd2 : 1048576 < k.size := by omega
   clear hsz h0
   go_enter Tryz.func42, Tryz.ntmps42
   go_wp2_with fail
   refine bodyPost_ret (v := .tuple #[.pointer none, .pointer none, .bool false]) (by simp [results, Tryz.results42, go_sem]) rfl ?_
   exact ⟨HB0.out, .inl ⟨HF.out, rfl⟩⟩
 ·obtain ⟨s, hs⟩ := Int.eq_ofNat_of_zero_le (show 0 ≤ k.size by omega)
  have h1 : 64 ≤ s := by omega
  have h2 : s ≤ 1048576 := by omega
  have HH := Lib.hid (show k.h = HM.ofWords s k.ws k.rs k.last by unfold Cs.h; rw [hs]; rfl)
  have HOK := Lib.hid (show k.Ok ↔ loadE s k.ws k.rs k.last = 0 by
   unfold Cs.Ok
   rw [hs, show ((s : Int)).toNat = s by omega]
   constructor
   ·exact fun h => h.2.2
   ·exact fun h => ⟨by omega, by omega, h⟩)
  have HN := Lib.hid (fun w => new_any s h1 h2 w)
  have HNU := Lib.hid (fun w => inum_any 0 (by decide) w)
  rw [hs] at HB0 BX HE HK ⊢
  have H12 := Lib.hid (And.intro h1 h2)
  have hd1 : decide ((s : Int) < 64) = false := by simp; omega
  have hd2 : decide ((s : Int) > 1048576) = false := by simp; omega
  have K0 := HK.out
  have HRL := Lib.hid (rLoad_any (c := k.c) (c' := k.c') s h1 h2 k.A k.n k.ws K0.hn K0.hr K0.h32 k.A' k.n' k.rs K0.hn' K0.hr' K0.h32' k.last K0.hl)
  clear hs hsz K0 h1 h2
  go_enter Tryz.func42, Tryz.ntmps42
  go_wp2_with fail
  generalize W.alloc (.cells #[.int .i64 (s : Int), .slice k.A k.n k.c, .slice k.A' k.n' k.c', .int .u32 (k.last : Nat)] 103) = W1 at *
  clear hd1 hd2
  refine HRL.out.mono ?_
  rintro e w1 ⟨hb1, ⟨h3, rfl⟩ | ⟨h3, q, rfl, hq, -⟩⟩
  ·have HF := Lib.hid (show ¬ k.Ok from fun h => h3 (HOK.out.1 h))
   have HBW := Lib.hid (HB0.out.trans (hb1.mono HB0.out.size))
   have en : ((loadE s k.ws k.rs k.last : Int) != 0) = true := by simp; omega
   generalize loadE s k.ws k.rs k.last = E at *
   clear hb1 HRL h3
   go_wp2_with fail
   refine bodyPost_ret (v := .tuple #[.pointer none, .pointer none, .bool false]) (by simp [results, Tryz.results42, go_sem]) rfl ?_
   exact ⟨HBW.out, .inl ⟨HF.out, rfl⟩⟩
  ·have HO := Lib.hid (HOK.out.2 h3)
   have HQ := Lib.hid hq
   have BX1 := Lib.hid (BX.out.below hb1 BX.out.lt)
   have x0 := BX1.out.cell 0
   have HE1 := Lib.hid (HE.out.below hb1)
   have HB1 := Lib.hid (HB0.out.trans (hb1.mono HB0.out.size))
   have HK1 := Lib.hid (HK.out.below hb1)
   have HLD0 := Lib.hid h3
   clear hb1 h3 hq HRL BX HE HK
   unfold ptr
   go_wp2_with fail
   refine (HN.out _).mono ?_
   rintro e w2 hN
   obtain ⟨p, g, rfl, L0⟩ := Live.of_new (v := fun g => .tuple #[ptr g, .int .i64 0]) HE1.out H12.out.1 H12.out.2 hN
   clear hN
   have hb2 := L0.below
   have BX2 := BX1.out.below hb2 BX1.out.lt
   have x1 := BX2.cell 1
   have x2 := BX2.cell 2
   have x3 := BX2.cell 3
   have K2 := HK1.out.below hb2
   have HLD := Lib.hid (L0.load k.A k.n k.c k.ws K2.hn K2.hr K2.h32 k.A' k.n' k.c' k.rs K2.hn' K2.hr' K2.h32' k.last K2.hl)
   rw [show (HM.new s).size = s from rfl, HLD0.out] at HLD
   clear hb2 BX2 K2 L0
   unfold ptr
   go_wp2_with fail
   refine (HNU.out _).mono ?_
   rintro e w3 ⟨rfl, rfl⟩
   go_wp2_with fail
   refine HLD.out.mono ?_
   rintro e w4 ⟨p2, rfl, L2, -⟩
   have HL2 := Lib.hid L2
   clear L2 HLD
   go_wp2_with fail
   refine (HNU.out _).mono ?_
   rintro e w5 ⟨rfl, rfl⟩
   go_wp2_with fail
   refine bodyPost_ret (v := .tuple #[.pointer (some ⟨g, 0, none⟩), .pointer (some ⟨q.g, 0, none⟩), .bool true]) (by simp [results, Tryz.results42, go_sem]) rfl ?_
   have hg2 : ∃ ls, k.h.Good ls := by
    have := HL2.out.good
    unfold HM.loadH at this
    rw [show (HM.new s).size = s from rfl, if_pos HLD0.out] at this
    rw [HH.out]; exact this
   have hat : HAt w4 p2 k.h := by
    have := HL2.out.at_
    unfold HM.loadH at this
    rw [show (HM.new s).size = s from rfl, if_pos HLD0.out] at this
    rw [HH.out]; exact this
   obtain ⟨ls, hG⟩ := hg2
   have hbw := HB1.out.trans (HL2.out.below.mono HB1.out.size)
   exact ⟨hbw, .inr ⟨HO.out, p2, q, ls, by unfold ptr; rw [HL2.out.hg], ⟨hat, rfl, ⟨ls, hG⟩, HE0.out, fun j hj => Nat.le_trans HB1.out.size (HL2.out.new j hj), hbw⟩, hG, by rw [HH.out]; exact HQ.out.below HL2.out.below⟩⟩
end
section
open Go.RowKit
abbrev Wk := List (Nat × Int)
section
variable (nm : Nat → List Nat)
variable {nm} {fr : List Nat} {i : Nat} {l : Wk}
end
section
variable {h : HM} {l : List Ob}
end
end
section
open Go.RowKit
attribute [local go_sem] Oper.semAt_some
def k2 (o : Nat) : Bool := decide (kindM o = 2)
end
section
open Go.RowKit
attribute [local go_sem] Oper.semAt_some
section
variable {w : World} {p : HP} {h : HM} {l : List Ob}
theorem fields_len (G : h.Good l) {o : Nat} (hi : h.isB o = true) : (h.fields o).length = (h.hd (o / 2)).size := by
 obtain ⟨a, b, c, rfl, rfl⟩ := (G.laid.isB_iff o).1 hi
 rw [G.laid.fields_at, half_pos, G.laid.hd_at, G.laid.ok_at.size]
theorem own_below {w w' : World} {B s n : Nat} {e : TypeId} {v : Value} {xs : List Value} (h : w.ownsRow B e s v n xs) (hb : Below w.heap.size w w') : w'.ownsRow B e s v n xs := by
 refine ⟨h.1, ?_⟩
 rcases h.2 with h1 | ⟨g, cap, cur, h1, h2, h3, h4⟩
 ·exact .inl h1
 ·exact .inr ⟨g, cap, cur, h1, h2, (hb.block g (lt_of_get h3)).trans h3, h4⟩
end
end
end Go.Proofs.YtlkahgagmfhdaaaGreatDoor
