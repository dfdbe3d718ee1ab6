import Derived.Test.YthadjmhipckelaaGreatDoorJCloneH
import Derived.Test.YthadjmhipckelaaGreatDoorJLoad1
import Derived.Test.YthadjmhipckelaaGreatDoorJLive
import Derived.Test.YthadjmhipckelaaGreatDoorJRefG
import Derived.Test.YthadjmhipckelaaGreatDoorJAlloc
import Derived.Test.YthadjmhipckelaaGreatDoorJShow
import Derived.Test.YthadjmhipckelaaGreatDoorJOop
import Derived.RangeFuncNested
import Derived.RangeFuncBound
import Derived.RangeFuncCalls
import Derived.RangeFuncLeaves
import Derived.Shelf.Abstract
import Derived.Shelf.RegionOpen
import Derived.WalkKit
import Derived.OwnWalkIn
import Derived.TacticsInMore
import Derived.LoopNIn
import Derived.LoopIn
set_option linter.unusedVariables false
set_option linter.unusedSectionVars false
namespace Go.Proofs.YthadjmhipckelaaGreatDoor
section
open Go.RowKit
attribute [local go_sem] Oper.semAt_some
structure KpB (m0 n0 : Nat) (w w' : World) : Prop where
 os : w'.os = w.os
 tape : w'.tape = w.tape
 output : w'.output = w.output
 size : w.heap.size ≤ w'.heap.size
 cells : ∀ k cs t fr, k < m0 ∨ n0 ≤ k → w.heap[k]? = some (.cells cs t fr) → w'.heap[k]? = some (.cells cs t fr)
theorem KpB.refl (m0 n0 : Nat) (w : World) : KpB m0 n0 w w := ⟨rfl, rfl, rfl, Nat.le_refl _, fun _ _ _ _ _ h => h⟩
theorem KpB.trans {m0 n0 : Nat} {a b c : World} (h : KpB m0 n0 a b) (k : KpB m0 n0 b c) : KpB m0 n0 a c :=
 ⟨k.os.trans h.os, k.tape.trans h.tape, k.output.trans h.output, Nat.le_trans h.size k.size, fun j cs t fr hj h1 => k.cells j cs t fr hj (h.cells j cs t fr hj h1)⟩
theorem lt_of_get {w : World} {k : Nat} {o : Obj} (h : w.heap[k]? = some o) : k < w.heap.size := by
 rcases Nat.lt_or_ge k w.heap.size with h1 | h1
 ·exact h1
 ·rw [Array.getElem?_eq_none h1] at h; cases h
theorem KpB.setCell {m0 n0 : Nat} {w w' : World} (h : KpB m0 n0 w w') {a : Addr} (h1 : m0 ≤ a.block) (h2 : a.block < n0) (u : Value) : KpB m0 n0 w (w'.setCell a u) :=
 ⟨h.os, h.tape, h.output, by simpa [World.setCell] using h.size, fun k cs t fr hk hh => (Below.heap_setCell w' a u k (fun e => by omega)).trans (h.cells k cs t fr hk hh)⟩
theorem KpB.book {m0 n0 : Nat} (W : World) (l : Nat) (o o' : Obj) (h : W.heap[l]? = some o) (hc : o.isCells = false) : KpB m0 n0 W (W.putObj l o') :=
 ⟨rfl, rfl, rfl, by simp, fun k cs t fr _ hk => by
   have hne : k ≠ l := by rintro rfl; rw [hk] at h; injection h with h; subst h; simp [Obj.isCells] at hc
   exact ((grownBy_putObj' W l o').block k (lt_of_get hk) (fun e => hne (by injection e))).trans hk⟩
theorem Blk.kept {m0 n0 : Nat} {w w' : World} {g : Nat} {t : TypeId} {cs : Array Value} (h : Blk w g t cs) (k : KpB m0 n0 w w') (hg : g < m0 ∨ n0 ≤ g) : Blk w' g t cs := k.cells g cs t (0, 0) hg h
theorem Row.kept {m0 n0 : Nat} {w w' : World} {g c : Nat} {e : TypeId} {xs : List Value} (h : Row w g e c xs) (k : KpB m0 n0 w w') (hg : g < m0 ∨ n0 ≤ g) : Row w' g e c xs := by
 obtain ⟨cur, h, r⟩ := h
 exact ⟨cur, h.kept k hg, r⟩
theorem HAt.kept {m0 n0 : Nat} {w w' : World} {p : HP} {h : HM} (H : HAt w p h) (k : KpB m0 n0 w w') (hp : ∀ j, p.has j → j < m0 ∨ n0 ≤ j) : HAt w' p h :=
 ⟨H.1.kept k (hp _ (.inl rfl)), H.2.1.kept k (hp _ (.inr (.inl rfl))), H.2.2.1.kept k (hp _ (.inr (.inr (.inl rfl)))), H.2.2.2.kept k (hp _ (.inr (.inr (.inr rfl))))⟩
def oopI (l : List Ob) (k : Nat) : Nat := if k < l.length then 2 * posOf (l.take k) else 0
def allV (l : List Ob) (i : Fin l.length) : Array Value := #[.int .u32 ((2 * posOf (l.take i.1) : Nat) : Int), (l[i.1]'i.2).x.val]
def mesO (v : Value) : Nat := if intOf v = 0 then 0 else 4294967296 - (intOf v).toNat
theorem mesO_nat (n : Nat) : mesO (.int .u32 (n : Int)) = if n = 0 then 0 else 4294967296 - n := by
 show (if ((n : Int)) = 0 then 0 else 4294967296 - ((n : Int)).toNat) = _
 by_cases h : n = 0
 ·subst h; rfl
 ·rw [if_neg (by omega), if_neg h, Int.toNat_natCast]
theorem mesO_lt {o no : Nat} (h : no = 0 ∨ o < no) (h0 : 0 < o) (h1 : o < 4294967296) (h2 : no < 4294967296) : mesO (.int .u32 (no : Int)) < mesO (.int .u32 (o : Int)) := by
 rw [mesO_nat, mesO_nat]
 rcases h with h | h
 ·rw [if_pos h, if_neg (by omega)]; omega
 ·rw [if_neg (by omega), if_neg (by omega)]; omega
theorem posOf_take_lt {h : HM} {l : List Ob} (G : h.Good l) (k : Nat) (hk : k < l.length) : posOf (l.take k) + 3 ≤ h.words.length := by
 have L := G.laid
 have e : l = l.take k ++ l[k] :: l.drop (k + 1) := by rw [List.getElem_cons_drop, List.take_append_drop]
 have L' := L
 rw [e] at L'
 have := L'.words_len
 omega
theorem posOf_pos (a : List Ob) : 1 ≤ posOf a := by unfold posOf; omega
theorem posOf_take_succ {l : List Ob} (k : Nat) (hk : k < l.length) : posOf (l.take k) < posOf (l.take (k + 1)) := by
 have et : l.take (k + 1) = l.take k ++ [l[k]] := by rw [List.take_add_one, List.getElem?_eq_getElem hk]; rfl
 rw [et, posOf_snoc]
 omega
section
variable {w : World} {p : HP} {h : HM} {l : List Ob}
theorem split_at (l : List Ob) (k : Nat) (hk : k < l.length) : l = l.take k ++ l[k] :: l.drop (k + 1) := by
 rw [List.getElem_cons_drop, List.take_append_drop]
theorem first_oopI (G : h.Good l) : h.objM 1 = oopI l 0 := by
 have : h.objM (posOf []) = oopAt [] l := HM.Laid.objM_at (a := []) G.laid
 change h.objM 1 = _ at this
 rw [this]
 unfold oopI oopAt
 cases l with
 | nil => rfl
 | cons b l => simp
theorem next_oopI (G : h.Good l) (k : Nat) (hk : k < l.length) : h.nextO (2 * posOf (l.take k)) = oopI l (k + 1) := by
 have L := G.laid
 have e := split_at l k hk
 have L' := L
 rw [e] at L'
 rw [L'.nextO_at]
 have et : l.take k ++ [l[k]] = l.take (k + 1) := by rw [List.take_add_one, List.getElem?_eq_getElem hk]; rfl
 rw [et]
 unfold oopI oopAt
 rcases Nat.lt_or_ge (k + 1) l.length with h1 | h1
 ·rw [if_pos h1]
  cases hd : l.drop (k + 1) with
  | nil => have := congrArg List.length hd; simp at this; omega
  | cons b c => rfl
 ·rw [List.drop_of_length_le h1, if_pos rfl, if_neg (by omega)]
theorem isB_at (G : h.Good l) (k : Nat) (hk : k < l.length) : h.isB (2 * posOf (l.take k)) = true :=
 (G.laid.isB_iff _).2 ⟨_, _, _, split_at l k hk, rfl⟩
theorem hd_at' (G : h.Good l) (k : Nat) (hk : k < l.length) : h.hd (posOf (l.take k)) = (l[k]).x := by
 have L := G.laid
 have e := split_at l k hk
 have L' := L
 rw [e] at L'
 have := L'.hd_at
 exact this
end
set_option maxRecDepth 100000 in
set_option maxHeartbeats 4000000 in
theorem all_stops {w : World} {p : HP} {h : HM} {l : List Ob} (H : HAt w p h) (G : h.Good l) (hs : Spares w) (n Bh m0 : Nat) (hbox : w.cell? ⟨Bh, 0, none⟩ = some (ptr p.g)) (hsp : 0 < m0) :
 SeqStopsK Fence.wide n Tryz.prog 73 #[.pointer (some ⟨Bh, 0, none⟩)] (allV l) (KpB m0 w.heap.size) (fun xs => xs = List.finRange l.length) (fun pre => pre <+: List.finRange l.length) l.length w :=
 fun lp J Jx W hW hJ hJx hY h0 => by
 have hBh := World.block_lt_of_cell? _ _ hbox
 have HW := H.below hW
 have hbW : W.cell? ⟨Bh, 0, none⟩ = some (ptr p.g) := (hW.cell (p := ⟨Bh, 0, none⟩) hBh).trans hbox
 have HC := Lib.hid (Clone_any HW G.fit)
 have HsW := hs.below hW
 refine callsIn_of_wp Tryz.func73 rfl trivial ?_ rfl
 simp only [Tryz.ntmps73, List.size_toArray, List.length_cons, List.length_nil, Nat.reduceAdd, Nat.reduceSub, Array.replicate_succ, Array.replicate_zero, List.push_toArray, List.append_toArray, List.nil_append, List.cons_append]
 unfold ptr at hbW HC
 have HY := Lib.hid hY
 have HJ := Lib.hid (show ∀ s A B, J s A → Below A.heap.size A B → J s B from fun s A B hs hb => hJ s A B none hs ⟨hb.os, hb.tape, hb.output, hb.size, fun k hk _ => hb.block k hk⟩ (fun r e => by cases e))
 have HJ0 := Lib.hid h0
 have HWD := Lib.hid hW
 clear hY hJ hJx h0 hW
 gi_wp2_with fail
 refine ⟨trivial, fun hh => (by cases hh), (callsIn_wide.2 HC.out).mono ?_⟩
 rintro e W1 ⟨pc, rfl, Hc, hnew, hb1⟩
 have HJ1 := HJ.out _ _ _ HJ0.out hb1
 have Hs1 := HsW.below hb1
 have HN := Lib.hid hnew
 have HF := Lib.hid (first_any Hc G.fit)
 rw [first_oopI G] at HF
 unfold ptr at HF
 clear hbW hnew
 gi_wp2_with fail
 refine ⟨trivial, fun hh => (by cases hh), (callsIn_wide.2 HF.out).mono ?_⟩
 rintro e W2 ⟨rfl, rfl⟩
 have HH := Lib.hid (show HAt W1 pc h ∧ Spares W1 ∧ J ((List.finRange l.length).take 0) W1 from ⟨Hc, Hs1, HJ1⟩)
 clear Hc Hs1 HJ1 hb1
 gi_wp2_with fail
 gi_loopw [4] (fun o wr => ∃ k : Nat, k ≤ l.length ∧ o = .int .u32 ((oopI l k : Nat) : Int) ∧ HAt wr pc h ∧ Spares wr ∧ J ((List.finRange l.length).take k) wr) (fun o wr => mesO o)
 case atStart => exact ⟨0, by omega, rfl, HH.out.1, HH.out.2.1, HH.out.2.2⟩
 case round =>
  obtain ⟨k, hk, rfl, Hk, hsk, hjk⟩ := hrel
  by_cases hlt : k < l.length
  ·have hroom := G.fit.room
   have hhi := G.fit.hi
   have hpl := posOf_take_lt G k hlt
   have hpp := posOf_pos (l.take k)
   have hO := Lib.hid (show oopI l k = 2 * posOf (l.take k) by unfold oopI; rw [if_pos hlt])
   have hN := Lib.hid (next_oopI G k hlt)
   have hB := isB_at G k hlt
   have HX := Lib.hid (hd_at' G k hlt)
   have HAT := Lib.hid (fun w => at_any pc.g (2 * posOf (l.take k)) (by omega) (objB_pos _) w)
   have HHD := Lib.hid (fun w' (H : HAt w' pc h) (hs : Spares w') => header_any H G.fit hs (posOf (l.take k)) (G.laid.heads _ (by unfold HM.isB at hB; simp only [Bool.and_eq_true, half_pos] at hB; exact hB.2)))
   have HNX := Lib.hid (fun w' (H : HAt w' pc h) (hs : Spares w') => next_any H G.fit G.laid.heads hs (2 * posOf (l.take k)) (by omega))
   have HNV := Lib.hid (show h.nextV (2 * posOf (l.take k)) = .tuple #[.int .u32 (oopI l (k + 1) : Nat), .int .i64 0] by unfold HM.nextV; rw [if_pos hB, hN.out])
   have HME := Lib.hid (show oopI l (k + 1) = 0 ∨ 2 * posOf (l.take k) < oopI l (k + 1) by
    unfold oopI
    split
    ·have := posOf_take_succ k hlt; right; omega
    ·exact .inl rfl)
   have HMX := Lib.hid (show oopI l (k + 1) < 4294967296 by
    unfold oopI
    split
    ·rename_i h1; have := posOf_take_lt G (k + 1) h1; omega
    ·omega)
   have HTK := Lib.hid (show (List.finRange l.length).take k ++ [⟨k, hlt⟩] = (List.finRange l.length).take (k + 1) by
    rw [List.take_add_one, List.getElem?_eq_getElem (by simpa using hlt)]; simp)
   have HPL := Lib.hid (show ((List.finRange l.length).take k).length < l.length by simp; omega)
   have HAV := Lib.hid (show allV l ⟨k, hlt⟩ = #[.int .u32 ((2 * posOf (l.take k) : Nat) : Int), .agg #[.int .i64 (l[k].x.size : Nat), .int .i64 (l[k].x.fmt : Nat), .int .i64 (l[k].x.spare : Nat), .int .u32 (l[k].x.cls : Nat), .int .u32 (l[k].x.ser : Nat)]] from rfl)
   have HXV := Lib.hid (show (h.hd (posOf (l.take k))).val = .agg #[.int .i64 (l[k].x.size : Nat), .int .i64 (l[k].x.fmt : Nat), .int .i64 (l[k].x.spare : Nat), .int .u32 (l[k].x.cls : Nat), .int .u32 (l[k].x.ser : Nat)] by rw [HX.out]; rfl)
   have HK := Lib.hid (show HAt wr pc h ∧ Spares wr ∧ J ((List.finRange l.length).take k) wr from ⟨Hk, hsk, hjk⟩)
   have HYk := Lib.hid (fun W1 hj => HY.out ((List.finRange l.length).take k) ⟨k, hlt⟩ W1 hj HPL.out)
   rw [HAV.out] at HYk
   rw [hO.out]
   rw [HXV.out] at HHD
   rw [HNV.out] at HNX
   rw [half_pos] at HAT
   clear Hk hsk hjk hB hO HX hN HXV HNV HAV HPL HH
   generalize (⟨k, hlt⟩ : Fin l.length) = xk at *
   generalize l[k].x = X at *
   have ho : (((2 * posOf (l.take k) : Nat) : Int) != 0) = true := by simp; omega
   have HO32 := Lib.hid (show 2 * posOf (l.take k) < 4294967296 ∧ 0 < 2 * posOf (l.take k) by omega)
   generalize hq : 2 * posOf (l.take k) = o at *
   clear hq
   generalize posOf (l.take k) = q at *
   unfold ptr at HAT HHD HNX
   gi_wp2_with fail
   refine ⟨trivial, fun hh => (by cases hh), (callsIn_wide.2 (HAT.out _)).mono ?_⟩
   rintro e W3 ⟨rfl, rfl⟩
   gi_wp2_with fail
   refine ⟨trivial, fun hh => (by cases hh), (callsIn_wide.2 (HHD.out _ HK.out.1 HK.out.2.1)).mono ?_⟩
   rintro e W4 ⟨rfl, hb4⟩
   have HK4 := Lib.hid (show HAt W4 pc h ∧ Spares W4 ∧ J ((List.finRange l.length).take k) W4 from ⟨HK.out.1.below hb4, HK.out.2.1.below hb4, HJ.out _ _ _ HK.out.2.2 hb4⟩)
   clear hb4 HK
   obtain ⟨fn, tmps, assign, body, hy, hR⟩ := HYk.out W4 HK4.out.2.2
   gi_wp2_with fail
   refine ⟨fun hh => (by cases hh), hR.mono ?_⟩
   rintro e W5 (⟨rfl, hJ5, hk5⟩ | ⟨rfl, hx5⟩)
   ·have HK5 := Lib.hid (show HAt W5 pc h ∧ Spares W5 ∧ J ((List.finRange l.length).take (k + 1)) W5 from
     ⟨HK4.out.1.kept hk5 (fun j hj => .inr (Nat.le_trans HWD.out.size (HN.out j hj))), (fun i hi => by
       have hc := HK4.out.2.1 i hi
       have hb := World.block_lt_of_cell? _ _ hc
       cases ho : W4.heap[0]? with
       | none => simp [World.cell?, ho] at hc
       | some ob =>
         cases ob with
         | cells cs t fr => exact (World.cell?_of_block (a := ⟨0, i, none⟩) ((hk5.cells _ cs t fr (.inl hsp) ho).trans ho.symm)).trans hc
         | _ => simp [World.cell?, ho] at hc), by rw [← HTK.out]; exact hJ5⟩)
    clear hJ5 hk5 hy hR HK4
    gi_wp2_with fail
    refine ⟨trivial, fun hh => (by cases hh), (callsIn_wide.2 (HNX.out _ HK5.out.1 HK5.out.2.1)).mono ?_⟩
    rintro e W6 ⟨rfl, hb6⟩
    have HK6 := Lib.hid (show HAt W6 pc h ∧ Spares W6 ∧ J ((List.finRange l.length).take (k + 1)) W6 from ⟨HK5.out.1.below hb6, HK5.out.2.1.below hb6, HJ.out _ _ _ HK5.out.2.2 hb6⟩)
    clear hb6 HK5
    generalize hno : oopI l (k + 1) = no at *
    have HNO := Lib.hid hno
    clear hno
    gi_wp2_with fail
    go_roundw
    case rel => exact ⟨k + 1, by omega, by rw [HNO.out], HK6.out.1, HK6.out.2.1, HK6.out.2.2⟩
    case measure => exact mesO_lt HME.out HO32.out.2 HO32.out.1 HMX.out
   ·clear hy HK4
    gi_wp2_with fail
    refine bodyPost_ret (results_none rfl _ _ _) rfl ?_
    exact ⟨⟨_, rfl⟩, .inr ⟨_, ⟨(List.finRange l.length).drop (k + 1), by rw [HTK.out, List.take_append_drop]⟩, hx5⟩⟩
  ·obtain rfl : k = l.length := by omega
   have hO := Lib.hid (show oopI l l.length = 0 by unfold oopI; rw [if_neg hlt])
   have HFin := Lib.hid (show J (List.finRange l.length) wr by have := hjk; rw [List.take_of_length_le (by simp)] at this; exact this)
   rw [hO.out]
   clear Hk hsk hjk hlt hk
   gi_wp2_with fail
   go_end0
   exact ⟨⟨_, rfl⟩, .inl ⟨_, rfl, HFin.out⟩⟩
end
section
open Go.RowKit
attribute [local go_sem] Oper.semAt_some
theorem all_any (g : Nat) (w : World) : Calls Tryz.prog 36 #[ptr g] w fun e w' => e = .returned (.func (.func 73) #[] #[.pointer (some ⟨w.heap.size, 0, none⟩)]) ∧ w' = w.alloc (.cells #[ptr g] 23) := by
 unfold ptr
 go_enter Tryz.func36, Tryz.ntmps36
 go_wp2_with fail
 go_ret
 exact ⟨rfl, rfl⟩
end
section
open Go.RowKit
attribute [local go_sem] Oper.semAt_some
section
variable {w : World} {p : HP} {h : HM} (R : RAt w p h) (f : h.Fit)
include R f
theorem rfirst_any : Calls Tryz.prog 57 #[ptr p.g] w (Said (.int .u32 (h.objM 1 : Nat)) w) := by
 have c1 := R.c1
 have hone := f.one
 have hroom := f.room
 have hhi := f.hi
 unfold ptr
 by_cases h1 : h.words.length = 1
 ·have HF := Lib.hid (show h.objM 1 = 0 by unfold HM.objM; rw [if_pos (by omega)])
  have hb : (((h.words.length : Nat) : Int) == 1) = true := by simp; omega
  clear h1 R
  generalize h.words.length = N at *
  go_enter Tryz.func57, Tryz.ntmps57
  go_wp2_with fail
  go_ret
  exact ⟨by rw [HF.out]; rfl, rfl⟩
 ·have HF := Lib.hid (show h.objM 1 = 2 by unfold HM.objM; rw [if_neg (by omega)])
  have hb : (((h.words.length : Nat) : Int) == 1) = false := by simp; omega
  clear h1 R
  generalize h.words.length = N at *
  go_enter Tryz.func57, Tryz.ntmps57
  go_wp2_with fail
  go_ret
  exact ⟨by rw [HF.out]; rfl, rfl⟩
set_option maxRecDepth 100000 in
set_option maxHeartbeats 4000000 in
theorem rnext_any (hh : h.Heads) (o : Nat) (ho : o < 4294967296) (hi : h.isB o = true) : Calls Tryz.prog 58 #[ptr p.g, .int .u32 o] w (Told (.int .u32 (h.nextO o : Nat)) w) := by
 have hd := HM.isB_hd hh hi
 have HH := Lib.hid (rheader_any R f o ho hd)
 have HC := Lib.hid (fun w' (hb : Below w.heap.size w w') => (R.below hb).c1)
 have hfl := fld0
 have hroom := f.room
 have hhi := f.hi
 have hle := hd.1
 have hs := (HM.hd_fit f (o / 2)).size
 unfold Hd.val at HH
 unfold ptr at HH ⊢
 have hq : ((o : Int) / 2) = ((o / 2 : Nat) : Int) := by omega
 have HN : h.nextO o = h.objM (o / 2 + 3 + (h.hd (o / 2)).size) := rfl
 clear R hi hd
 generalize h.hd (o / 2) = X at *
 generalize o / 2 = q at *
 have HF := Lib.hid HN
 clear HN
 by_cases he : q + 3 + X.size = h.words.length
 ·have HF2 := Lib.hid (show h.nextO o = 0 by rw [HF.out]; unfold HM.objM; rw [if_pos (by omega)])
  have hb : (((q : Int) + 3 + (X.size : Int)) == ((h.words.length : Nat) : Int)) = true := by simp; omega
  clear HF
  generalize h.words.length = N at *
  go_enter Tryz.func58, Tryz.ntmps58
  go_wp2_with fail
  refine HH.out.mono ?_
  rintro e w1 ⟨rfl, hb1⟩
  have c1 := HC.out w1 hb1
  have HB1 := Lib.hid hb1
  clear hb1 HC
  go_wp2_with fail
  go_ret
  exact ⟨by rw [HF2.out]; rfl, HB1.out⟩
 ·have HF2 := Lib.hid (show h.nextO o = 2 * (q + 3 + X.size) by rw [HF.out]; unfold HM.objM; rw [if_neg (by omega)])
  have hb : (((q : Int) + 3 + (X.size : Int)) == ((h.words.length : Nat) : Int)) = false := by simp; omega
  clear HF
  generalize h.words.length = N at *
  go_enter Tryz.func58, Tryz.ntmps58
  go_wp2_with fail
  refine HH.out.mono ?_
  rintro e w1 ⟨rfl, hb1⟩
  have c1 := HC.out w1 hb1
  have HB1 := Lib.hid hb1
  clear hb1 HC
  go_wp2_with fail
  go_ret
  exact ⟨by rw [HF2.out]; rw [show (((2 * (q + 3 + X.size) : Nat)) : Int) = 2 * ((q : Int) + 3 + (X.size : Int)) by omega]; rfl, HB1.out⟩
end
end
section
open Go.RowKit
attribute [local go_sem] Oper.semAt_some
section
variable {w : World} {p : HP} {h : HM} (R : RAt w p h) (f : h.Fit) (o : Nat) (ho : o < 4294967296) (hh : h.Heads)
include R f ho hh
end
end
section
open Go.RowKit Go.Sort Go.Lib
section
variable {w : World} {p : HP} {h : HM} (R : RAt w p h) (f : h.Fit) (hh : h.Heads) (hp : Pow w) (o : Nat) (ho : o < 4294967296) (hi : h.isB o = true)
include R f hh hp ho hi
end
end
section
open Go.RowKit
attribute [local go_sem] Oper.semAt_some
end
section
open Go.RowKit
attribute [local go_sem] Oper.semAt_some
end
section
open Go.RowKit Go.Maps
attribute [local go_sem] Oper.semAt_some
theorem spareE_last (ys : List Nat) {y s : Nat} (hs : s ≤ 3) (hy : y < 4294967296) : spareE (ys ++ [y]) s = 0 ↔ y / 2 ^ (32 - 8 * s) = 0 := by
 have e : (bytesM (ys ++ [y])).drop (4 * (ys ++ [y]).length - s) = (bytes4 y).drop (4 - s) := by
  rw [bytesM_app, List.drop_append, List.drop_eq_nil_of_le (by rw [bytesM_len]; simp; omega), List.nil_append, bytesM_len]
  have : bytesM [y] = bytes4 y := by simp [bytesM]
  rw [this]
  congr 1
  simp; omega
 unfold spareE
 rw [e]
 have h4 : s = 0 ∨ s = 1 ∨ s = 2 ∨ s = 3 := by omega
 rcases h4 with rfl | rfl | rfl | rfl
 ·simp [bytes4]; omega
 ·simp [bytes4]; omega
 ·simp [bytes4]; omega
 ·simp [bytes4]; omega
def HM.badF (h : HM) (b : Ob) (y : Nat) : Bool := b.x.ptrB && !h.valB y
def badS (b : Ob) (k y : Nat) : Bool := (decide (k + 1 = b.x.size) && !decide (y / 2 ^ (32 - 8 * b.x.spare) = 0)) && decide (0 < b.x.spare)
def HM.okTo (h : HM) (b : Ob) (k : Nat) : Prop := ∀ j, j < k → h.badF b (b.fs.getD j 0) = false ∧ badS b j (b.fs.getD j 0) = false
theorem HM.okTo_succ {h : HM} {b : Ob} {k : Nat} (ho : h.okTo b k) (h1 : h.badF b (b.fs.getD k 0) = false) (h2 : badS b k (b.fs.getD k 0) = false) : h.okTo b (k + 1) := fun j hj => by
 rcases Nat.lt_or_ge j k with h3 | h3
 ·exact ho j h3
 ·obtain rfl : j = k := by omega
  exact ⟨h1, h2⟩
theorem may_spare {x : Hd} (m : x.may = true) : x.size ≤ 65535 ∧ (0 < x.spare → x.fmt = 2 ∧ 0 < x.size) := by
 unfold Hd.may at m
 simp only [Bool.and_eq_true, Bool.or_eq_true, decide_eq_true_eq] at m
 omega
theorem HM.okTo_ob {h : HM} {b : Ob} (K : b.Ok) (ho : h.okTo b b.x.size) : (b.x.ptrB = true → ∀ f ∈ b.fs, h.valB f = true) ∧ (b.x.fmt = 2 → spareE b.fs b.x.spare = 0) := by
 have hsz := K.size
 constructor
 ·intro hp f hf
  obtain ⟨j, hj, rfl⟩ := List.mem_iff_getElem.1 hf
  have := (ho j (by omega)).1
  rw [List.getD_eq_getElem?_getD, List.getElem?_eq_getElem hj] at this
  unfold HM.badF at this
  rw [hp] at this
  simpa using this
 ·intro h2
  by_cases hs : b.x.spare = 0
  ·rw [hs]; exact spareE_zero _
  ·have hm := (may_spare K.may).2 (by omega)
   have hs3 : b.x.spare ≤ 3 := by have := K.fit.spare; omega
   have h1 := (ho (b.x.size - 1) (by omega)).2
   have hne : b.fs ≠ [] := fun e => by rw [e] at hsz; simp at hsz; omega
   have hlast : b.fs.getD (b.x.size - 1) 0 = b.fs.getLast hne := by
    rw [List.getLast_eq_getElem, List.getD_eq_getElem?_getD, List.getElem?_eq_getElem (by omega)]
    simp only [Option.getD_some]
    congr 1
    omega
   rw [hlast] at h1
   unfold badS at h1
   rw [decide_eq_true (show b.x.size - 1 + 1 = b.x.size by omega), decide_eq_true (show 0 < b.x.spare by omega)] at h1
   have h3 : b.fs.getLast hne / 2 ^ (32 - 8 * b.x.spare) = 0 := by simpa using h1
   have h4 := (spareE_last b.fs.dropLast hs3 (K.f32 _ (List.getLast_mem hne))).2 h3
   rw [List.dropLast_concat_getLast] at h4
   exact h4
theorem HM.not_ob_of_bad {h : HM} {b : Ob} {k : Nat} (K : b.Ok) (hk : k < b.x.size) (hb : h.badF b (b.fs.getD k 0) = true ∨ badS b k (b.fs.getD k 0) = true) : ¬ h.ObOk b := fun ok => by
 have hsz := K.size
 have hkl : k < b.fs.length := by omega
 have hg : b.fs.getD k 0 = b.fs[k]'hkl := by rw [List.getD_eq_getElem?_getD, List.getElem?_eq_getElem hkl]; rfl
 rcases hb with hb | hb
 ·unfold HM.badF at hb
  simp only [Bool.and_eq_true, Bool.not_eq_true'] at hb
  have := ok.flds hb.1 (b.fs.getD k 0) (by rw [hg]; exact List.getElem_mem hkl)
  rw [hb.2] at this
  cases this
 ·unfold badS at hb
  simp only [Bool.and_eq_true, decide_eq_true_eq, Bool.not_eq_true', decide_eq_false_iff_not] at hb
  obtain ⟨⟨h1, h2⟩, h3⟩ := hb
  have hm := (may_spare K.may).2 h3
  have hs3 : b.x.spare ≤ 3 := by have := K.fit.spare; omega
  have hne : b.fs ≠ [] := fun e => by rw [e] at hsz; simp at hsz; omega
  have h4 := ok.spare hm.1
  rw [← List.dropLast_concat_getLast hne] at h4
  have h5 := (spareE_last b.fs.dropLast hs3 (K.f32 _ (List.getLast_mem hne))).1 h4
  apply h2
  rw [hg]
  rw [List.getLast_eq_getElem] at h5
  have : b.fs.length - 1 = k := by omega
  simp only [this] at h5
  exact h5
theorem RAt.fields {w : World} {p : HP} {h : HM} {a c : List Ob} {b : Ob} (H : RAt w p h) (L : h.Laid (a ++ b :: c)) {j : Nat} (hj : j < b.fs.length) : w.cell? ⟨p.gw, posOf a + 3 + j, none⟩ = some (.int .u32 (b.fs.getD j 0 : Nat)) := by
 have hwl := L.words_len
 have := H.word (i := posOf a + 3 + j) (by omega)
 rw [this]
 have e := L.f_at j hj
 unfold fw at e
 rw [half_pos] at e
 rw [← e]
 rfl
set_option maxRecDepth 100000 in
set_option maxHeartbeats 4000000 in
theorem keeps_any {w : World} {p : HP} {h : HM} {l : List Ob} (R : RAt w p h) (f : h.Fit) (L : h.Laid l) : Calls Tryz.prog 56 #[ptr p.g] w (SoundP h l w) := by
 have hmm := @run_makeMap Tryz.prog
 have hW1 : Below w.heap.size w (w.alloc (.map #[] 0)) := (Below.refl _ _).alloc (Nat.le_refl _) _
 have HR := Lib.hid R; have HF := Lib.hid f; have HL := Lib.hid L
 have HFI := Lib.hid (fun (w' : World) (hb : Below w.heap.size w w') => rfirst_any (R.below hb) f)
 have HFO := Lib.hid (show h.objM 1 = oopAt [] l from HM.Laid.objM_at (a := []) L)
 have MM := MapIs.made w 32
 clear R f L
 unfold ptr at HFI ⊢
 go_enter Tryz.func56, Tryz.ntmps56
 go_wp2_with fail
 refine (HFI.out _ hW1).mono ?_
 rintro e w' ⟨rfl, rfl⟩
 rw [HFO.out]
 generalize hW : w.alloc (.map #[] 0) = W1 at *
 clear hW
 have HM0 := Lib.hid (show SoundMid h w.heap.size [] w W1 from ⟨h.upTo_nil, MM, hW1⟩)
 clear MM hW1
 go_wp2_with fail
 have hne0 : w.heap.size ≠ p.gw := by have := HR.out.lt (.inr (.inl rfl)); omega
 go_loopg [4] (l.length + 1) (fun k o wr => ∃ a c, l = a ++ c ∧ k = c.length + 1 ∧ o = .int .u32 (oopAt a c : Nat) ∧ SoundMid h w.heap.size a w wr)
 case atStart => exact ⟨[], l, rfl, rfl, rfl, HM0.out⟩
 case round =>
  obtain ⟨a, c, hl, hgk, rfl, ⟨hup, hmap, hb⟩⟩ := hrel
  have HLL := Lib.hid hl
  have HGK := Lib.hid hgk
  clear HM0 hl hgk
  cases c with
  | nil =>
    have ho : oopAt a [] = 0 := rfl
    rw [ho]
    have Hr := HR.out.below hb
    have c2 := Hr.c2
    have hroots := HF.out.roots
    have HB := Lib.hid hb
    have HCELL := Lib.hid (fun j (hj : j < h.roots.length) => Hr.root (i := j) hj)
    have HVC := Lib.hid (fun o ho => rvalb_any Hr HF.out o ho)
    have HUP := Lib.hid hup
    clear hb hup hmap Hr
    unfold ptr at HVC
    have hno : (0 : Int) = 0 := rfl
    go_wp2_with fail
    go_loopw [8] (fun i wq => ∃ k : Nat, k ≤ h.roots.length ∧ i = .int .i64 k ∧ (∀ j, j < k → h.valB (h.roots.getD j 0) = true) ∧ wq = wr) (fun i _ => h.roots.length - (intOf i).toNat)
    case atStart => exact ⟨0, by omega, rfl, fun j hj => by omega, rfl⟩
    case round =>
     obtain ⟨k, hk, rfl, hall, rfl⟩ := hrel
     have HALL := Lib.hid hall
     clear hall
     by_cases hlt : k < h.roots.length
     ·have hx := HCELL.out k hlt
      have hy : h.roots.getD k 0 < 4294967296 := by
       rw [List.getD_eq_getElem?_getD, List.getElem?_eq_getElem hlt]
       exact HF.out.r32 _ (List.getElem_mem _)
      have HVK := Lib.hid (HVC.out _ hy)
      cases hv : h.valB (h.roots.getD k 0)
      ·have HBAD := Lib.hid (show ¬ h.Sound l from fun s => by
        have := ((h.sound_iff _).1 s).2 (h.roots.getD k 0) (by rw [List.getD_eq_getElem?_getD, List.getElem?_eq_getElem hlt]; exact List.getElem_mem _)
        rw [hv] at this; cases this)
       rw [hv] at HVK
       clear hv
       generalize h.roots.getD k 0 = y at *
       generalize h.roots.length = N at *
       go_wp2_with fail
       refine HVK.out.mono ?_
       rintro e w' ⟨rfl, rfl⟩
       go_wp2_with fail
       go_ret
       exact ⟨false, rfl, ⟨(fun e => by cases e), fun s => absurd s HBAD.out⟩, HB.out⟩
      ·have HNA := Lib.hid (show ∀ j, j < k + 1 → h.valB (h.roots.getD j 0) = true from fun j hj => by
        rcases Nat.lt_or_ge j k with h1 | h1
        ·exact HALL.out j h1
        ·obtain rfl : j = k := by omega
         exact hv)
       rw [hv] at HVK
       clear hv
       have HKL := Lib.hid hlt
       generalize h.roots.getD k 0 = y at *
       go_wp2_with fail
       refine HVK.out.mono ?_
       rintro e w' ⟨rfl, rfl⟩
       go_wp2_with fail
       go_roundw
       case rel => exact ⟨k + 1, HKL.out, by go_num, HNA.out, by first | trivial | rfl⟩
       case measure => simp [intOf]; omega
     ·obtain rfl : k = h.roots.length := by omega
      have HS2 := Lib.hid (show h.Sound l by
       rw [h.sound_iff, HLL.out, List.append_nil]
       refine ⟨HUP.out, fun r hr => ?_⟩
       obtain ⟨j, hj, rfl⟩ := List.mem_iff_getElem.1 hr
       have := HALL.out j hj
       rw [List.getD_eq_getElem?_getD, List.getElem?_eq_getElem hj] at this
       exact this)
      go_wp2_with fail
      go_ret
      exact ⟨true, rfl, ⟨fun _ => HS2.out, fun _ => rfl⟩, HB.out⟩
  | cons b c =>
    have L := HL.out
    rw [HLL.out] at L
    have ho : oopAt a (b :: c) = 2 * posOf a := rfl
    have hp1 : 1 ≤ posOf a := by unfold posOf; omega
    rw [ho]
    have K := L.ok_at
    have hsz := K.size
    have hwl : posOf a + 3 + b.x.size ≤ h.words.length := by have := L.words_len; omega
    have hroom := HF.out.room
    have hhi := HF.out.hi
    have hi : h.isB (2 * posOf a) = true := (HL.out.isB_iff _).2 ⟨a, b, c, HLL.out, rfl⟩
    have HHD := Lib.hid (rheader_any (HR.out.below hb) HF.out (2 * posOf a) (by omega) (by rw [half_pos]; exact L.hdAt_at))
    rw [half_pos, L.hd_at] at HHD
    rw [show b.x.val = .agg #[.int .i64 b.x.size, .int .i64 b.x.fmt, .int .i64 b.x.spare, .int .u32 b.x.cls, .int .u32 b.x.ser] from rfl] at HHD
    have HNX := Lib.hid (fun w' (hb : Below w.heap.size w w') => show Calls Tryz.prog 58 #[ptr p.g, .int .u32 (2 * posOf a : Nat)] w' (Told (.int .u32 (oopAt (a ++ [b]) c : Nat)) w') from by
     have := rnext_any (HR.out.below hb) HF.out HL.out.heads (2 * posOf a) (by omega) hi
     rw [L.nextO_at] at this
     exact this)
    have HXF := Lib.hid (fun w' (hb : Below w.heap.size w w') j (hj : j < b.fs.length) => (HR.out.below hb).fields L hj)
    unfold ptr at HHD HNX
    have hq : (((2 * posOf a : Nat) : Int)) / 2 = (posOf a : Int) := by omega
    have hne : ((2 * posOf a : Nat) : Int) ≠ 0 := by omega
    have hal : a.length < 9223372036854775807 := by
     have h1 := wsOf_ge a
     have h2 : posOf a = 1 + (wsOf a).length := rfl
     omega
    have HK := Lib.hid K
    have hs3 : b.x.spare ≤ 3 := by have := K.fit.spare; omega
    have h16 : b.x.size ≤ 65535 := (may_spare K.may).1
    have HSZ := Lib.hid hsz
    clear ho hi L hsz
    generalize posOf a = q at *
    generalize 2 * q = o at *
    go_wp2_with fail
    refine HHD.out.mono ?_
    rintro e w1 ⟨rfl, hb1⟩
    have hb2 := below_top hb (hb1.alloc hb1.size (.cells #[.int .i64 b.x.size, .int .i64 b.x.fmt, .int .i64 b.x.spare, .int .u32 b.x.cls, .int .u32 b.x.ser] 103))
    have BH2 := Blk.new w1 103 #[.int .i64 b.x.size, .int .i64 b.x.fmt, .int .i64 b.x.spare, .int .u32 b.x.cls, .int .u32 b.x.ser]
    have MM2 := (hmap.below hb1).below ((Below.refl _ _).alloc (Nat.le_refl _) (.cells #[.int .i64 b.x.size, .int .i64 b.x.fmt, .int .i64 b.x.spare, .int .u32 b.x.cls, .int .u32 b.x.ser] 103))
    have hgH : w.heap.size < w1.heap.size := by have := hb1.size; have := hmap.lt; omega
    obtain ⟨fs1, fs2, fs3, fs4, fs5⟩ := K.fit
    clear hb hb1 hmap K HHD
    go_upto_region 6 with fail
    generalize w1.alloc (.cells #[.int .i64 b.x.size, .int .i64 b.x.fmt, .int .i64 b.x.spare, .int .u32 b.x.cls, .int .u32 b.x.ser] 103) = W2 at *
    generalize w1.heap.size = gH at *
    go_cut [45] (fun v wx => v = .bool (h.badHd a b) ∧ Below W2.heap.size W2 wx)
    case first =>
     have hlk := MM2.look sersTy fs5
     obtain ⟨d0, d1, d2, d3, d4⟩ := BH2.cells5
     have H5 := HR.out.below hb2
     have c3 := H5.c3
     have hbe := fun n => below_drewN (Below.refl W2.heap.size W2) n
     have HCL := Lib.hid (fun n => risclass_any (H5.below (below_drewN (Below.refl W2.heap.size W2) n)) HF.out b.x.cls fs4)
     have HCN := Lib.hid (show cntOf a b.x.ser = if b.x.ser ∈ a.map (·.x.ser) then 1 else 0 from rfl)
     have HC2 := Lib.hid (show ∀ n, Calls Tryz.prog 87 #[.pointer (some ⟨p.g, 0, none⟩), .int .u32 (b.x.cls : Nat)] (W2.drewN n) fun e w' => e = .returned (.bool (h.clsB b.x.cls)) ∧ w' = W2.drewN n from fun n => (HCL.out n).mono fun e w' ⟨h1, h2⟩ => ⟨h1, h2.symm⟩)
     clear HCL H5
     by_cases s3 : h.clsB b.x.cls = false
     ·have HB := Lib.hid (show h.badHd a b = true by simp [HM.badHd, s3])
      rw [s3] at HC2
      clear hlk c3 BH2 MM2 s3
      go_quiet ((go_at_call 87; exact Calls.quiet_of_same (HC2.out _)))
      all_goals go_wp2_with fail
      all_goals go_meet
      all_goals exact ⟨by rw [HB.out], hbe _⟩
     have s3' : h.clsB b.x.cls = true := by simpa using s3
     rw [s3'] at HC2
     clear s3
     by_cases s0 : b.x.ser = 0
     ·have HB := Lib.hid (show h.badHd a b = true by simp [HM.badHd, s0])
      rw [s0] at d4
      clear hlk c3 BH2 MM2
      go_quiet ((go_at_call 87; exact Calls.quiet_of_same (HC2.out _)))
      all_goals go_wp2_with fail
      all_goals go_meet
      all_goals exact ⟨by rw [HB.out], hbe _⟩
     ·have e0 : ((b.x.ser : Int) == 0) = false := by simp; omega
      by_cases s1 : h.last < b.x.ser
      ·have HB := Lib.hid (show h.badHd a b = true by simp [HM.badHd, s1])
       have e1 : decide (h.last < b.x.ser) = true := by simp; omega
       clear hlk BH2 MM2 s0 s1
       go_quiet ((go_at_call 87; exact Calls.quiet_of_same (HC2.out _)))
       all_goals go_wp2_with fail
       all_goals go_meet
       all_goals exact ⟨by rw [HB.out], hbe _⟩
      ·have e1 : decide (h.last < b.x.ser) = false := by simp; omega
       by_cases s2 : b.x.ser ∈ a.map (·.x.ser)
       ·have HB := Lib.hid (show h.badHd a b = true by simp only [HM.badHd, s2, decide_true, Bool.or_true, Bool.true_or])
        have hlk5 : ∀ n, (Instr.lookup 151 (.map (some w.heap.size)) (.int .u32 (b.x.ser : Int)) false).run Tryz.prog (W2.drewN n) = .ok (.int .i64 1) (W2.drewN n) := fun n => by
         have := (show MapIs 32 (W2.drewN n) _ _ _ from MM2).look sersTy fs5
         rw [HCN.out, if_pos s2] at this
         exact this
        clear hlk BH2 MM2 s0 s1 s2
        go_quiet ((go_at_call 87; exact Calls.quiet_of_same (HC2.out _)))
        all_goals go_wp2_with fail
        all_goals go_meet
        all_goals exact ⟨by rw [HB.out], hbe _⟩
       ·have HB := Lib.hid (show h.badHd a b = false by
         simp only [HM.badHd, s0, s1, s2, s3', decide_false, Bool.false_or, Bool.not_true])
        have hlk5 : ∀ n, (Instr.lookup 151 (.map (some w.heap.size)) (.int .u32 (b.x.ser : Int)) false).run Tryz.prog (W2.drewN n) = .ok (.int .i64 0) (W2.drewN n) := fun n => by
         have := (show MapIs 32 (W2.drewN n) _ _ _ from MM2).look sersTy fs5
         rw [HCN.out, if_neg s2] at this
         exact this
        clear hlk BH2 MM2 s0 s1 s2
        go_quiet ((go_at_call 87; exact Calls.quiet_of_same (HC2.out _)))
        all_goals go_wp2_with fail
        all_goals go_meet
        all_goals exact ⟨by rw [HB.out], hbe _⟩
    case rest =>
     obtain ⟨rfl, hb3⟩ := hcut
     have hb4 := below_top hb2 hb3
     have BH3 := BH2.below hb3 BH2.lt
     have MM3 := MM2.below hb3
     obtain ⟨d0, d1, d2, d3, d4⟩ := BH3.cells5
     cases hbad : h.badHd a b
     case true =>
      have HBAD := Lib.hid (show ¬ h.Sound l by rw [HLL.out]; exact HM.badHd_not hbad)
      clear hbad hb2 hb3 BH2 BH3 MM2 MM3
      go_wp2_with fail
      go_ret
      exact ⟨false, rfl, ⟨(fun e => by cases e), fun s => absurd s HBAD.out⟩, hb4⟩
     case false =>
      obtain ⟨o1, o2, o3, o4⟩ := HM.badHd_ok hbad
      obtain ⟨W4, hpt, MM4, hg4⟩ := MM3.put sersTy (v := 1) fs5 (by omega) hal
      rw [cnt_snoc o3] at MM4
      rw [show ((1 : Nat) : Int) = 1 from rfl] at hpt
      have hb5 := hb4.grown hg4 hb4.size (fun k hk => by cases hk; omega)
      have BH5 := BH3.same (hg4.block gH BH3.lt (by intro e; injection e with e; omega))
      have HO := Lib.hid (show 1 ≤ b.x.ser ∧ b.x.ser ≤ h.last ∧ b.x.ser ∉ a.map (·.x.ser) ∧ h.clsB b.x.cls = true from ⟨o1, o2, o3, o4⟩)
      have HUP := Lib.hid hup
      clear hbad hb2 hb3 BH2 BH3 MM2 MM3 o1 o2 o3 o4 hup hg4 hb4
      go_wp2_with fail
      clear d0 d1 d2 d3 d4 hpt
      go_loopw [6] (fun i wq => ∃ k : Nat, k ≤ b.x.size ∧ i = .int .i64 k ∧ h.okTo b k ∧ Below W4.heap.size W4 wq) (fun i _ => b.x.size - (intOf i).toNat)
      case atStart => exact ⟨0, by omega, rfl, (fun j hj => by omega), Below.refl _ _⟩
      case round =>
       obtain ⟨k, hk, rfl, hok, hbq⟩ := hrel
       have HOK := Lib.hid hok
       have hb6 := below_top hb5 hbq
       have BH6 := BH5.below hbq BH5.lt
       obtain ⟨e0, e1, e2, e3, e4⟩ := BH6.cells5
       clear hok
       by_cases hlt : k < b.x.size
       ·have Rq := HR.out.below hb6
        have q1 := Rq.c1
        have hx := HXF.out _ hb6 k (by have := HSZ.out; omega)
        have hy : b.fs.getD k 0 < 4294967296 := by
         have hkl : k < b.fs.length := by have := HSZ.out; omega
         rw [List.getD_eq_getElem?_getD, List.getElem?_eq_getElem hkl]
         exact HK.out.f32 _ (List.getElem_mem _)
        have HBADI := Lib.hid (fun hb => HM.not_ob_of_bad (h := h) HK.out hlt hb)
        have HNEXT := Lib.hid (fun h1 h2 => HM.okTo_succ (h := h) (b := b) (k := k) HOK.out h1 h2)
        clear HOK
        generalize b.fs.getD k 0 = y at *
        have HVC := Lib.hid (rvalb_any Rq HF.out y hy)
        unfold ptr at HVC
        have HKL := Lib.hid hlt
        clear Rq
        generalize h.words.length = N at *
        go_upto_region 13 with fail
        go_cut [80] (fun v wx => v = .bool (h.badF b y) ∧ Below wr.heap.size wr wx)
        case first =>
         have hbe := Below.refl wr.heap.size wr
         by_cases h1 : b.x.fmt = 1
         ·have HB := Lib.hid (show h.badF b y = !h.valB y by simp [HM.badF, Hd.ptrB, h1])
          rw [h1] at e1
          clear h1
          generalize h.valB y = vb at *
          go_wp2_with fail
          refine HVC.out.mono ?_
          rintro e w' ⟨rfl, rfl⟩
          go_wp2_with fail
          go_meet
          exact ⟨by rw [HB.out], hbe⟩
         have f1 : ((b.x.fmt : Int) == 1) = false := by simp; omega
         by_cases h4 : b.x.fmt = 4
         ·have HB := Lib.hid (show h.badF b y = !h.valB y by simp [HM.badF, Hd.ptrB, h4])
          rw [h4] at e1
          clear h4 h1 f1
          generalize h.valB y = vb at *
          go_wp2_with fail
          refine HVC.out.mono ?_
          rintro e w' ⟨rfl, rfl⟩
          go_wp2_with fail
          go_meet
          exact ⟨by rw [HB.out], hbe⟩
         ·have f4 : ((b.x.fmt : Int) == 4) = false := by simp; omega
          have HB := Lib.hid (show h.badF b y = false by simp [HM.badF, Hd.ptrB, h4, h1])
          clear h4 h1
          go_wp2_with fail
          go_meet
          exact ⟨by rw [HB.out], hbe⟩
        case rest =>
         obtain ⟨rfl, hb7⟩ := hcut
         have hb8 := below_top hbq hb7
         have BH8 := BH6.below hb7 BH6.lt
         clear e0 e1 e2 e3 e4 hx q1 HVC hb6
         obtain ⟨e0, e1, e2, e3, e4⟩ := BH8.cells5
         cases hbf : h.badF b y
         case true =>
          have HBAD := Lib.hid (show ¬ h.Sound l by rw [HLL.out]; exact HM.not_sound_ob (HBADI.out (.inl hbf)))
          clear hbf HBADI hb7 BH6 BH8
          go_wp2_with fail
          go_ret
          exact ⟨false, rfl, ⟨(fun e => by cases e), fun s => absurd s HBAD.out⟩, below_top hb5 hb8⟩
         case false =>
         have HBF := Lib.hid hbf
         clear hbf BH6 hb7
         go_upto_region 15 with fail
         go_cut [100] (fun v wx => v = .bool (badS b k y) ∧ Below wc.heap.size wc wx)
         case first =>
          have hbe := Below.refl wc.heap.size wc
          by_cases hlast : k + 1 = b.x.size
          ·have hla : ((k : Int) == (b.x.size : Int) - 1) = true := by simp; omega
           have HB := Lib.hid (show badS b k y = ((!decide (y / 2 ^ (32 - 8 * b.x.spare) = 0)) && decide (0 < b.x.spare)) by unfold badS; rw [decide_eq_true hlast, Bool.true_and])
           have hss : b.x.spare = 0 ∨ b.x.spare = 1 ∨ b.x.spare = 2 ∨ b.x.spare = 3 := by omega
           clear hlast
           rcases hss with hs | hs | hs | hs
           ·rw [hs] at e2 HB
            clear hs
            go_wp2_with fail
            go_meet
            exact ⟨by rw [HB.out]; simp, hbe⟩
           all_goals
            rw [hs] at e2 HB
            clear hs
            go_wp2_with fail
            all_goals go_meet
            all_goals refine ⟨?_, hbe⟩
            all_goals rename_i hx
            all_goals rw [HB.out]
            all_goals congr 1
            all_goals rw [Bool.eq_iff_iff]
            all_goals simp
            all_goals omega
          ·have hla : ((k : Int) == (b.x.size : Int) - 1) = false := by simp; omega
           have HB := Lib.hid (show badS b k y = false by unfold badS; rw [decide_eq_false hlast, Bool.false_and, Bool.false_and])
           clear hlast
           go_wp2_with fail
           go_meet
           exact ⟨by rw [HB.out], hbe⟩
         case rest =>
          obtain ⟨rfl, hb9⟩ := hcut
          have hb10 := below_top hb8 hb9
          cases hbs : badS b k y
          case true =>
           have HBAD := Lib.hid (show ¬ h.Sound l by rw [HLL.out]; exact HM.not_sound_ob (HBADI.out (.inr hbs)))
           clear hbs HBADI hb9 BH8
           go_wp2_with fail
           go_ret
           exact ⟨false, rfl, ⟨(fun e => by cases e), fun s => absurd s HBAD.out⟩, below_top hb5 hb10⟩
          case false =>
           have HO2 := Lib.hid (HNEXT.out HBF.out hbs)
           clear hbs hb9 BH8
           go_wp2_with fail
           go_roundw
           case rel => exact ⟨k + 1, HKL.out, by go_num, HO2.out, hb10⟩
           case measure => simp [intOf]; omega
       ·obtain rfl : k = b.x.size := by omega
        obtain ⟨o1, o2, o3, o4⟩ := HO.out
        have HOB := Lib.hid (HM.okTo_ob HK.out HOK.out)
        have HFIN := Lib.hid (show SoundMid h w.heap.size (a ++ [b]) w wr from ⟨HUP.out.snoc ⟨o4, HOB.out.1, HOB.out.2, o1, o2⟩ o3, by rw [List.length_append]; exact MM4.below hbq, hb6⟩)
        have HNC := Lib.hid (HNX.out wr hb6)
        clear o1 o2 o3 o4 HXF HNX hbq hb5 MM4
        go_wp2_with fail
        refine HNC.out.mono ?_
        rintro e wz ⟨rfl, hbz⟩
        have HFZ := Lib.hid (show SoundMid h w.heap.size (a ++ [b]) w wz from ⟨HFIN.out.1, HFIN.out.2.1.below hbz, below_top hb6 hbz⟩)
        clear HFIN HNC hb6
        go_wp2_with fail
        go_roundg (c.length + 1)
        case measure => rw [HGK.out]; simp
        case rel => exact ⟨a ++ [b], c, by rw [HLL.out]; simp, rfl, rfl, HFZ.out⟩
end
end Go.Proofs.YthadjmhipckelaaGreatDoor
