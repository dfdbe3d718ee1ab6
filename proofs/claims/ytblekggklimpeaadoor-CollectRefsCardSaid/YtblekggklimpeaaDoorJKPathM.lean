/- The way from a beginning. Plain data. -/
/- All of the program's heap, for a body that keeps what the caller says is safe; the relation of a body that grows a row of its own behind a box. -/
/- A row of oops that grows behind a box, in the body of a loop over All. -/
/- append onto a row of the call's own, inside a fence. -/
/- slices.Contains at oops. -/
import Derived.Test.YtblekggklimpeaaDoorJKNamed
import Derived.Test.YtblekggklimpeaaDoorJMem
import Derived.Test.YtblekggklimpeaaDoorJLook
import Derived.Test.YtblekggklimpeaaDoorJAll
import Derived.OwnWalkIn
set_option linter.unusedVariables false
set_option linter.unusedSimpArgs false
set_option linter.unusedSectionVars false
namespace Go.Proofs.YtblekggklimpeaaDoor
open Go.RowKit
/-- Each was come to from one ahead of it, or from none. -/
def ByLt (W : Wk) : Prop := ∀ k, ∀ hk : k < W.length, -1 ≤ (W[k]).2 ∧ (W[k]).2 < (k : Int)
theorem putW_by {W : Wk} {o : Nat} {b : Int} (h : ByLt W) (h1 : -1 ≤ b) (h2 : b < (W.length : Int)) : ByLt (putW W o b) := by
  unfold putW
  split
  · intro k hk
    by_cases hlt : k < W.length
    · rw [List.getElem_append_left hlt]
      exact h k hlt
    · rw [List.length_append] at hk
      simp at hk
      obtain rfl : k = W.length := by omega
      simp
      exact ⟨h1, h2⟩
  · exact h
theorem putsW_by {W : Wk} {os : List Nat} {b : Int} (h : ByLt W) (h1 : -1 ≤ b) (h2 : b < (W.length : Int)) : ByLt (putsW W os b) := by
  induction os generalizing W with
  | nil => exact h
  | cons o os ih =>
    rw [putsW_cons]
    refine ih (putW_by h h1 h2) ?_
    have := (putW_pre W o b).length_le
    omega
theorem walkF_by (nm : Nat → List Nat) : ∀ (f i : Nat) (W : Wk), ByLt W → ByLt (walkF nm f i W)
  | 0, _, _, h => h
  | f + 1, i, W, h => by
    unfold walkF
    split
    · rename_i hi
      exact walkF_by nm f (i + 1) _ (putsW_by h (by omega) (by omega))
    · exact h
theorem walkM_by (nm : Nat → List Nat) (fr : List Nat) : ByLt (walkM nm fr) := by
  unfold walkM
  refine walkF_by nm _ _ _ ?_
  have : ∀ (os : List Nat) (W : Wk), ByLt W → ByLt (putsW W os (-1)) := by
    intro os
    induction os with
    | nil => intro W h; exact h
    | cons o os ih =>
      intro W h
      rw [putsW_cons]
      exact ih _ (putW_by h (by omega) (by omega))
  exact this fr [] (fun k hk => by simp at hk)
/-- From one on, back to a beginning. -/
def upL (W : Wk) : Nat → Int → List Nat
  | 0, _ => []
  | f + 1, k => if 0 ≤ k then (W.getD k.toNat (0, 0)).1 :: upL W f (W.getD k.toNat (0, 0)).2 else []
def upK (W : Wk) (k : Int) : List Nat := upL W (k + 1).toNat k
theorem getD_W {W : Wk} {k : Nat} (hk : k < W.length) : W.getD k (0, 0) = W[k] := by rw [List.getD_eq_getElem?_getD, List.getElem?_eq_getElem hk]; rfl
theorem upL_more {W : Wk} (hb : ByLt W) : ∀ (f f' : Nat) (k : Int), k < (W.length : Int) → (k + 1).toNat ≤ f → (k + 1).toNat ≤ f' → upL W f k = upL W f' k
  | 0, 0, _, _, _, _ => rfl
  | 0, f' + 1, k, _, h1, _ => by
    unfold upL
    rw [if_neg (by omega)]
  | f + 1, 0, k, _, _, h2 => by
    unfold upL
    rw [if_neg (by omega)]
  | f + 1, f' + 1, k, hk, h1, h2 => by
    unfold upL
    by_cases h0 : 0 ≤ k
    · rw [if_pos h0, if_pos h0]
      have hl : k.toNat < W.length := by omega
      rw [getD_W hl]
      have hb' := hb k.toNat hl
      rw [upL_more hb f f' (W[k.toNat]).2 (by omega) (by omega) (by omega)]
    · rw [if_neg h0, if_neg h0]
theorem upK_neg {W : Wk} {k : Int} (hk : k < 0) : upK W k = [] := by
  unfold upK
  rw [show (k + 1).toNat = 0 by omega]
  rfl
theorem upK_step {W : Wk} (hb : ByLt W) {k : Nat} (hk : k < W.length) : upK W (k : Int) = (W[k]).1 :: upK W (W[k]).2 := by
  unfold upK
  rw [show ((k : Int) + 1).toNat = k + 1 by omega]
  conv => lhs; unfold upL
  rw [if_pos (by omega), Int.toNat_natCast, getD_W hk]
  have hb' := hb k hk
  rw [upL_more hb k ((W[k]).2 + 1).toNat (W[k]).2 (by omega) (by omega) (Nat.le_refl _)]
theorem upK_len {W : Wk} (hb : ByLt W) : ∀ (n : Nat) (k : Int), (k + 1).toNat ≤ n → k < (W.length : Int) → (upK W k).length ≤ n
  | n, k, h1, h2 => by
    by_cases h0 : 0 ≤ k
    · obtain ⟨j, rfl⟩ := Int.eq_ofNat_of_zero_le h0
      have hj : j < W.length := by omega
      rw [upK_step hb hj, List.length_cons]
      have hb' := hb j hj
      have := upK_len hb (n - 1) (W[j]).2 (by omega) (by omega)
      omega
    · rw [upK_neg (by omega)]
      exact Nat.zero_le _
  termination_by n k => (k + 1).toNat
  decreasing_by omega
/-- The way from a beginning to one. -/
def pathL (W : Wk) (o : Nat) : List Nat := if o ∈ metO W then (o :: upK W (byOf W o)).reverse else []
theorem pathL_at {W : Wk} (hb : ByLt W) (hd : (metO W).Nodup) {i : Nat} (hi : i < W.length) : pathL W (W[i]).1 = (upK W (i : Int)).reverse := by
  unfold pathL
  have hm : (W[i]).1 ∈ metO W := List.mem_map.2 ⟨W[i], List.getElem_mem hi, rfl⟩
  rw [if_pos hm, byOf_at hd hi, upK_step hb hi]
theorem pathL_no {W : Wk} {o : Nat} (h : o ∉ metO W) : pathL W o = [] := by unfold pathL; rw [if_neg h]
end Go.Proofs.YtblekggklimpeaaDoor

namespace Go.Proofs.YtblekggklimpeaaDoor
open Go.RowKit
attribute [local go_sem] Oper.semAt_some
theorem HAt.safe {w w' : World} {p : HP} {h : HM} (H : HAt w p h) (hk : ∀ j cs t fr, p.has j → w.heap[j]? = some (.cells cs t fr) → w'.heap[j]? = some (.cells cs t fr)) : HAt w' p h := by
  obtain ⟨h0, ⟨c1, h1, r1⟩, ⟨c2, h2, r2⟩, ⟨c3, h3, r3⟩⟩ := H
  exact ⟨hk _ _ _ _ (.inl rfl) h0, ⟨c1, hk _ _ _ _ (.inr (.inl rfl)) h1, r1⟩, ⟨c2, hk _ _ _ _ (.inr (.inr (.inl rfl))) h2, r2⟩, ⟨c3, hk _ _ _ _ (.inr (.inr (.inr rfl))) h3, r3⟩⟩
theorem Spares.safe {w w' : World} (hs : Spares w) (hk : ∀ cs t fr, w.heap[0]? = some (.cells cs t fr) → w'.heap[0]? = some (.cells cs t fr)) : Spares w' := fun i hi => by
  have hc := hs i hi
  cases ho : w.heap[0]? with
  | none => simp [World.cell?, ho] at hc
  | some ob =>
    cases ob with
    | cells cs t fr => exact (World.cell?_of_block (a := ⟨0, i, none⟩) ((hk cs t fr ho).trans ho.symm)).trans hc
    | _ => simp [World.cell?, ho] at hc
theorem hat_safe {w w' : World} {p : HP} {h : HM} {X : Prop} {Safe : Nat → Prop} (H : HAt w p h) (hs : Spares w) (hk : ∀ j cs t fr, (p.has j ∨ j = 0) → w.heap[j]? = some (.cells cs t fr) → w'.heap[j]? = some (.cells cs t fr) ∧ Safe j) (hx : X) :
    HAt w' p h ∧ Spares w' ∧ X ∧ ∀ j, (p.has j ∨ j = 0) → Safe j := by
  refine ⟨H.safe fun j cs t fr hj hh => (hk j cs t fr (.inl hj) hh).1, hs.safe fun cs t fr hh => (hk _ cs t fr (.inr rfl) hh).1, hx, fun j hj => ?_⟩
  have hcell : ∃ cs t fr, w.heap[j]? = some (.cells cs t fr) := by
    obtain ⟨h0, ⟨c1, h1, r1⟩, ⟨c2, h2, r2⟩, ⟨c3, h3, r3⟩⟩ := H
    rcases hj with (rfl | rfl | rfl | rfl) | rfl
    · exact ⟨_, _, _, h0⟩
    · exact ⟨_, _, _, h1⟩
    · exact ⟨_, _, _, h2⟩
    · exact ⟨_, _, _, h3⟩
    · have hc := hs 0 (by omega)
      cases ho : w.heap[0]? with
      | none => simp [World.cell?, ho] at hc
      | some ob =>
        cases ob with
        | cells cs t fr => exact ⟨_, _, _, rfl⟩
        | _ => simp [World.cell?, ho] at hc
  obtain ⟨cs, t, fr, hh⟩ := hcell
  exact (hk j cs t fr hj hh).2

set_option maxRecDepth 100000 in
set_option maxHeartbeats 4000000 in
/-- All hands out the objects as they lie, whatever the body does that keeps the blocks that are safe. -/
theorem all_stopsG {w : World} {p : HP} {h : HM} {l : List Ob} (H : HAt w p h) (G : h.Good l) (hs : Spares w) (n Bh : Nat) (hbox : w.cell? ⟨Bh, 0, none⟩ = some (ptr p.g)) (Kp : World → World → Prop) (Safe : World → Nat → Prop)
    (hsafe : ∀ A B k cs t fr, Kp A B → Safe A k → A.heap[k]? = some (.cells cs t fr) → B.heap[k]? = some (.cells cs t fr) ∧ Safe B k)
    (hbel : ∀ A B k, Below A.heap.size A B → Safe A k → Safe B k)
    (hnw : ∀ W W1 k, Below w.heap.size w W → Below W.heap.size W W1 → W.heap.size ≤ k → Safe W1 k) (hsp : ∀ W, Below w.heap.size w W → Safe W 0) :
    SeqStopsK Fence.wide n Tryd.prog 97 #[.pointer (some ⟨Bh, 0, none⟩)] (allV l) Kp (fun xs => xs = List.finRange l.length) (fun pre => pre <+: List.finRange l.length) l.length w :=
  fun lp J Jx W hW hJ hJx hY h0 => by
  have hBh := World.block_lt_of_cell? _ _ hbox
  have HW := H.below hW
  have hbW : W.cell? ⟨Bh, 0, none⟩ = some (ptr p.g) := (hW.cell (p := ⟨Bh, 0, none⟩) hBh).trans hbox
  have HC := Lib.hid (Clone_any HW G.fit)
  have HsW := hs.below hW
  refine callsIn_of_wp Tryd.func97 rfl trivial ?_ rfl
  simp only [Tryd.ntmps97, List.size_toArray, List.length_cons, List.length_nil, Nat.reduceAdd, Nat.reduceSub, Array.replicate_succ, Array.replicate_zero, List.push_toArray, List.append_toArray, List.nil_append, List.cons_append]
  unfold ptr at hbW HC
  have HY := Lib.hid hY
  have HJ := Lib.hid (show ∀ s A B, J s A → Below A.heap.size A B → J s B from fun s A B hs hb => hJ s A B none hs ⟨hb.os, hb.tape, hb.output, hb.size, fun k hk _ => hb.block k hk⟩ (fun r e => by cases e))
  have HJ0 := Lib.hid h0
  have HWD := Lib.hid hW
  clear hY hJ hJx h0 hW
  gi_wp2_with fail
  refine ⟨trivial, fun hh => (by cases hh), (callsIn_wide.2 HC.out).mono ?_⟩
  rintro e W1 ⟨pc, rfl, Hc, hnew, hb1⟩
  have HJ1 := HJ.out _ _ _ HJ0.out hb1
  have Hs1 := HsW.below hb1
  have HSF := Lib.hid (show ∀ j, (pc.has j ∨ j = 0) → Safe W1 j from fun j hj => hj.elim (fun h1 => hnw W W1 j HWD.out hb1 (hnew j h1)) (fun h1 => by rw [h1]; exact hbel W W1 _ hb1 (hsp W HWD.out)))
  have HBL := Lib.hid hbel
  have HSA := Lib.hid hsafe
  clear hbel hsafe hnw hsp
  have HF := Lib.hid (first_any Hc G.fit)
  rw [first_oopI G] at HF
  unfold ptr at HF
  clear hbW hnew
  gi_wp2_with fail
  refine ⟨trivial, fun hh => (by cases hh), (callsIn_wide.2 HF.out).mono ?_⟩
  rintro e W2 ⟨rfl, rfl⟩
  have HH := Lib.hid (show HAt W1 pc h ∧ Spares W1 ∧ J ((List.finRange l.length).take 0) W1 ∧ ∀ j, (pc.has j ∨ j = 0) → Safe W1 j from ⟨Hc, Hs1, HJ1, HSF.out⟩)
  clear Hc Hs1 HJ1 hb1
  gi_wp2_with fail
  gi_loopw [4] (fun o wr => ∃ k : Nat, k ≤ l.length ∧ o = .int .u32 ((oopI l k : Nat) : Int) ∧ HAt wr pc h ∧ Spares wr ∧ J ((List.finRange l.length).take k) wr ∧ ∀ j, (pc.has j ∨ j = 0) → Safe wr j) (fun o wr => mesO o)
  case atStart => exact ⟨0, by omega, rfl, HH.out.1, HH.out.2.1, HH.out.2.2⟩
  case round =>
    obtain ⟨k, hk, rfl, Hk, hsk, hjk, hsfk⟩ := hrel
    by_cases hlt : k < l.length
    · have hroom := G.fit.room
      have hhi := G.fit.hi
      have hpl := posOf_take_lt G k hlt
      have hpp := posOf_pos (l.take k)
      have hO := Lib.hid (show oopI l k = 2 * posOf (l.take k) by unfold oopI; rw [if_pos hlt])
      have hN := Lib.hid (next_oopI G k hlt)
      have hB := isB_at G k hlt
      have HX := Lib.hid (hd_at' G k hlt)
      have HAT := Lib.hid (fun w => at_any pc.g (2 * posOf (l.take k)) (by omega) (objB_pos _) w)
      have HHD := Lib.hid (fun w' (H : HAt w' pc h) (hs : Spares w') => header_any H G.fit hs (posOf (l.take k)) (G.laid.heads _ (by unfold HM.isB at hB; simp only [Bool.and_eq_true, half_pos] at hB; exact hB.2)))
      have HNX := Lib.hid (fun w' (H : HAt w' pc h) (hs : Spares w') => next_any H G.fit G.laid.heads hs (2 * posOf (l.take k)) (by omega))
      have HNV := Lib.hid (show h.nextV (2 * posOf (l.take k)) = .tuple #[.int .u32 (oopI l (k + 1) : Nat), .int .i64 0] by unfold HM.nextV; rw [if_pos hB, hN.out])
      have HME := Lib.hid (show oopI l (k + 1) = 0 ∨ 2 * posOf (l.take k) < oopI l (k + 1) by
        unfold oopI
        split
        · have := posOf_take_succ k hlt; right; omega
        · exact .inl rfl)
      have HMX := Lib.hid (show oopI l (k + 1) < 4294967296 by
        unfold oopI
        split
        · rename_i h1; have := posOf_take_lt G (k + 1) h1; omega
        · omega)
      have HTK := Lib.hid (show (List.finRange l.length).take k ++ [⟨k, hlt⟩] = (List.finRange l.length).take (k + 1) by
        rw [List.take_add_one, List.getElem?_eq_getElem (by simpa using hlt)]; simp)
      have HPL := Lib.hid (show ((List.finRange l.length).take k).length < l.length by simp; omega)
      have HAV := Lib.hid (show allV l ⟨k, hlt⟩ = #[.int .u32 ((2 * posOf (l.take k) : Nat) : Int), .agg #[.int .i64 (l[k].x.size : Nat), .int .i64 (l[k].x.fmt : Nat), .int .i64 (l[k].x.spare : Nat), .int .u32 (l[k].x.cls : Nat), .int .u32 (l[k].x.ser : Nat)]] from rfl)
      have HXV := Lib.hid (show (h.hd (posOf (l.take k))).val = .agg #[.int .i64 (l[k].x.size : Nat), .int .i64 (l[k].x.fmt : Nat), .int .i64 (l[k].x.spare : Nat), .int .u32 (l[k].x.cls : Nat), .int .u32 (l[k].x.ser : Nat)] by rw [HX.out]; rfl)
      have HK := Lib.hid (show HAt wr pc h ∧ Spares wr ∧ J ((List.finRange l.length).take k) wr ∧ ∀ j, (pc.has j ∨ j = 0) → Safe wr j from ⟨Hk, hsk, hjk, hsfk⟩)
      have HYk := Lib.hid (fun W1 hj => HY.out ((List.finRange l.length).take k) ⟨k, hlt⟩ W1 hj HPL.out)
      rw [HAV.out] at HYk
      rw [hO.out]
      rw [HXV.out] at HHD
      rw [HNV.out] at HNX
      rw [half_pos] at HAT
      clear Hk hsk hjk hsfk hB hO HX hN HXV HNV HAV HPL HH
      generalize (⟨k, hlt⟩ : Fin l.length) = xk at *
      generalize l[k].x = X at *
      have ho : (((2 * posOf (l.take k) : Nat) : Int) != 0) = true := by simp; omega
      have HO32 := Lib.hid (show 2 * posOf (l.take k) < 4294967296 ∧ 0 < 2 * posOf (l.take k) by omega)
      generalize hq : 2 * posOf (l.take k) = o at *
      clear hq
      generalize posOf (l.take k) = q at *
      unfold ptr at HAT HHD HNX
      gi_wp2_with fail
      refine ⟨trivial, fun hh => (by cases hh), (callsIn_wide.2 (HAT.out _)).mono ?_⟩
      rintro e W3 ⟨rfl, rfl⟩
      gi_wp2_with fail
      refine ⟨trivial, fun hh => (by cases hh), (callsIn_wide.2 (HHD.out _ HK.out.1 HK.out.2.1)).mono ?_⟩
      rintro e W4 ⟨rfl, hb4⟩
      have HK4 := Lib.hid (show HAt W4 pc h ∧ Spares W4 ∧ J ((List.finRange l.length).take k) W4 ∧ ∀ j, (pc.has j ∨ j = 0) → Safe W4 j from ⟨HK.out.1.below hb4, HK.out.2.1.below hb4, HJ.out _ _ _ HK.out.2.2.1 hb4, fun j hj => HBL.out _ _ _ hb4 (HK.out.2.2.2 j hj)⟩)
      clear hb4 HK
      obtain ⟨fn, tmps, assign, body, hy, hR⟩ := HYk.out W4 HK4.out.2.2.1
      gi_wp2_with fail
      refine ⟨fun hh => (by cases hh), hR.mono ?_⟩
      rintro e W5 (⟨rfl, hJ5, hk5⟩ | ⟨rfl, hx5⟩)
      · have HK5 := Lib.hid (show HAt W5 pc h ∧ Spares W5 ∧ J ((List.finRange l.length).take (k + 1)) W5 ∧ ∀ j, (pc.has j ∨ j = 0) → Safe W5 j from
          hat_safe HK4.out.1 HK4.out.2.1 (fun j cs t fr hj hh => HSA.out W4 W5 j cs t fr hk5 (HK4.out.2.2.2 j hj) hh) (by rw [← HTK.out]; exact hJ5))
        clear hJ5 hk5 hy hR HK4
        gi_wp2_with fail
        refine ⟨trivial, fun hh => (by cases hh), (callsIn_wide.2 (HNX.out _ HK5.out.1 HK5.out.2.1)).mono ?_⟩
        rintro e W6 ⟨rfl, hb6⟩
        have HK6 := Lib.hid (show HAt W6 pc h ∧ Spares W6 ∧ J ((List.finRange l.length).take (k + 1)) W6 ∧ ∀ j, (pc.has j ∨ j = 0) → Safe W6 j from ⟨HK5.out.1.below hb6, HK5.out.2.1.below hb6, HJ.out _ _ _ HK5.out.2.2.1 hb6, fun j hj => HBL.out _ _ _ hb6 (HK5.out.2.2.2 j hj)⟩)
        clear hb6 HK5
        generalize hno : oopI l (k + 1) = no at *
        have HNO := Lib.hid hno
        clear hno
        gi_wp2_with fail
        go_roundw
        case rel => exact ⟨k + 1, by omega, by rw [HNO.out], HK6.out.1, HK6.out.2.1, HK6.out.2.2⟩
        case measure => exact mesO_lt HME.out HO32.out.2 HO32.out.1 HMX.out
      · clear hy HK4
        gi_wp2_with fail
        refine bodyPost_ret (results_none rfl _ _ _) rfl ?_
        exact ⟨⟨_, rfl⟩, .inr ⟨_, ⟨(List.finRange l.length).drop (k + 1), by rw [HTK.out, List.take_append_drop]⟩, hx5⟩⟩
    · obtain rfl : k = l.length := by omega
      have hO := Lib.hid (show oopI l l.length = 0 by unfold oopI; rw [if_neg hlt])
      have HFin := Lib.hid (show J (List.finRange l.length) wr by have := hjk; rw [List.take_of_length_le (by simp)] at this; exact this)
      rw [hO.out]
      clear Hk hsk hjk hsfk hlt hk
      gi_wp2_with fail
      go_end0
      exact ⟨⟨_, rfl⟩, .inl ⟨_, rfl, HFin.out⟩⟩
end Go.Proofs.YtblekggklimpeaaDoor

namespace Go.Proofs.YtblekggklimpeaaDoor
open Go.RowKit
attribute [local go_sem] Oper.semAt_some
/-- The box's slice has the block k of its own. -/
def Hat (w : World) (b k : Nat) : Prop := ∃ v, w.cell? ⟨b, 0, none⟩ = some v ∧ v.ownBlock = some k
structure KpR (m0 n0 b : Nat) (A B : World) : Prop where
  os : B.os = A.os
  tape : B.tape = A.tape
  output : B.output = A.output
  size : A.heap.size ≤ B.heap.size
  cells : ∀ k cs t fr, k < m0 ∨ n0 ≤ k → ¬ Hat A b k → A.heap[k]? = some (.cells cs t fr) → B.heap[k]? = some (.cells cs t fr)
  box : ∀ k, Hat B b k → k < A.heap.size → Hat A b k
theorem KpR.trans {m0 n0 b : Nat} {A B C : World} (h : KpR m0 n0 b A B) (k : KpR m0 n0 b B C) : KpR m0 n0 b A C :=
  ⟨k.os.trans h.os, k.tape.trans h.tape, k.output.trans h.output, Nat.le_trans h.size k.size,
    fun j cs t fr hj hn ha => k.cells j cs t fr hj (fun hb => hn (h.box j hb (lt_of_get ha))) (h.cells j cs t fr hj hn ha),
    fun j hc hj => h.box j (k.box j hc (Nat.lt_of_lt_of_le hj h.size)) hj⟩
theorem KpR.book {m0 n0 b : Nat} (W : World) (l : Nat) (o o' : Obj) (hb : b < l) (h : W.heap[l]? = some o) (hc : o.isCells = false) : KpR m0 n0 b W (W.putObj l o') := by
  have hg := grownBy_putObj' W l o'
  have hk : ∀ (k : Nat) (cs : Array Value) (t : TypeId) (fr : Nat × Nat), W.heap[k]? = some (Obj.cells cs t fr) → (W.putObj l o').heap[k]? = some (Obj.cells cs t fr) := fun k cs t fr hk => by
    have hne : k ≠ l := by rintro rfl; rw [hk] at h; injection h with h; subst h; simp [Obj.isCells] at hc
    exact (hg.block k (lt_of_get hk) (fun e => hne (by injection e))).trans hk
  refine ⟨rfl, rfl, rfl, by simp, fun k cs t fr _ _ h1 => hk k cs t fr h1, fun k ⟨v, hv, ho⟩ _ => ⟨v, ?_, ho⟩⟩
  rw [← hv]
  have hbl : b < W.heap.size := Nat.lt_trans hb (lt_of_get h)
  exact (World.cell?_of_block (a := ⟨b, 0, none⟩) (hg.block b hbl (fun e => by injection e with e; omega))).symm
def SafeR (m0 n0 b : Nat) (A : World) (k : Nat) : Prop := (k < m0 ∨ n0 ≤ k) ∧ b < A.heap.size ∧ ¬ Hat A b k
theorem SafeR.step {m0 n0 b : Nat} {A B : World} {k : Nat} {cs : Array Value} {t : TypeId} {fr : Nat × Nat} (h : KpR m0 n0 b A B) (s : SafeR m0 n0 b A k) (ha : A.heap[k]? = some (.cells cs t fr)) :
    B.heap[k]? = some (.cells cs t fr) ∧ SafeR m0 n0 b B k :=
  ⟨h.cells k cs t fr s.1 s.2.2 ha, s.1, Nat.lt_of_lt_of_le s.2.1 h.size, fun hb => s.2.2 (h.box k hb (lt_of_get ha))⟩
theorem Hat.below {A B : World} {b k : Nat} (h : Below A.heap.size A B) (hb : b < A.heap.size) : Hat B b k ↔ Hat A b k := by
  unfold Hat
  rw [World.cell?_of_block (a := ⟨b, 0, none⟩) (h.block b hb)]
theorem SafeR.below {m0 n0 b : Nat} {A B : World} {k : Nat} (h : Below A.heap.size A B) (s : SafeR m0 n0 b A k) : SafeR m0 n0 b B k :=
  ⟨s.1, Nat.lt_of_lt_of_le s.2.1 h.size, fun hb => s.2.2 ((Hat.below h s.2.1).1 hb)⟩
theorem SafeR.new {m0 b : Nat} {W0 W : World} {k : Nat} (hb : Blk W0 b 23 #[.slice none 0 0]) (h : Below W0.heap.size W0 W) (hk : k < m0 ∨ W0.heap.size ≤ k) : SafeR m0 W0.heap.size b W k := by
  refine ⟨hk, Nat.lt_of_lt_of_le hb.lt h.size, fun ⟨v, hv, ho⟩ => ?_⟩
  have h1 : W.cell? ⟨b, 0, none⟩ = some (.slice none 0 0) := (hb.below h hb.lt).cell 0
  rw [hv] at h1
  injection h1 with h1
  subst h1
  cases ho
/-- What the body keeps: all that lay ahead of the loop but the box, whose row grows. -/
structure BoxR (W0 : World) (b : Nat) (xs : List Nat) (v : Value) (W : World) : Prop where
  os : W.os = W0.os
  tape : W.tape = W0.tape
  output : W.output = W0.output
  size : W0.heap.size ≤ W.heap.size
  low : ∀ k, k < W0.heap.size → k ≠ b → W.heap[k]? = W0.heap[k]?
  box : Blk W b 23 #[v]
  own : W.ownsRow W0.heap.size 41 1 v xs.length (u32s xs)
  hb : b < W0.heap.size
section
variable {W0 W W1 Wx : World} {b m0 : Nat} {xs : List Nat} {v v' : Value}
theorem BoxR.start (hb : Blk W0 b 23 #[.slice none 0 0]) : BoxR W0 b [] (.slice none 0 0) W0 :=
  ⟨rfl, rfl, rfl, Nat.le_refl _, fun _ _ _ => rfl, hb, ⟨rfl, .inl ⟨rfl, rfl⟩⟩, hb.lt⟩
theorem BoxR.below (C : BoxR W0 b xs v W) (h : Below W.heap.size W W1) : BoxR W0 b xs v W1 :=
  ⟨h.os.trans C.os, h.tape.trans C.tape, h.output.trans C.output, Nat.le_trans C.size h.size, fun k hk hn => (h.block k (Nat.lt_of_lt_of_le hk C.size)).trans (C.low k hk hn), C.box.below h C.box.lt, own_below C.own h, C.hb⟩
theorem BoxR.blk (C : BoxR W0 b xs v W) {g : Nat} {t : TypeId} {cs : Array Value} (h : Blk W0 g t cs) (hn : g ≠ b) : Blk W g t cs := h.same (C.low g h.lt hn)
theorem BoxR.toBelow (C : BoxR W0 b xs v W) {w : World} (h : Below w.heap.size w W0) (hb : w.heap.size ≤ b) : Below w.heap.size w W :=
  ⟨C.os.trans h.os, C.tape.trans h.tape, C.output.trans h.output, Nat.le_trans h.size C.size, fun k hk => (C.low k (Nat.lt_of_lt_of_le hk h.size) (by omega)).trans (h.block k hk)⟩
theorem BoxR.own' (C : BoxR W0 b xs v W) {row : Option Nat} (hg : W.grownBy W1 row) (hr : ∀ r, row = some r → W0.heap.size ≤ r ∧ ∃ o : Obj, W.heap[r]? = some o ∧ o.isCells = false) : BoxR W0 b xs v W1 := by
  have hlow : ∀ k, k < W0.heap.size → W1.heap[k]? = W.heap[k]? := fun k hk => hg.block k (Nat.lt_of_lt_of_le hk C.size) (fun e => by have := (hr k e.symm).1; omega)
  refine ⟨hg.os.trans C.os, hg.tape.trans C.tape, hg.output.trans C.output, Nat.le_trans C.size hg.size, fun k hk hn => (hlow k hk).trans (C.low k hk hn), C.box.same (hlow b C.hb), own_keep C.own (fun k hk => hg.block k (C.own.lt k hk).2 (fun e => ?_)), C.hb⟩
  obtain ⟨_, o, ho, hc⟩ := hr k e.symm
  rcases C.own.2 with ⟨h1, _⟩ | ⟨g', cap, cur, h1, _, h3, _⟩
  · rw [h1] at hk; cases hk
  · rw [h1] at hk
    injection hk with hk
    subst hk
    rw [h3] at ho
    injection ho with ho
    subst ho
    cases hc
theorem BoxR.kp_refl (C : BoxR W0 b xs v W) (h : Below W.heap.size W W1) (n0 : Nat) : KpR m0 n0 b W W1 :=
  ⟨h.os, h.tape, h.output, h.size, fun k cs t fr _ _ hh => (h.block k (lt_of_get hh)).trans hh, fun k hk _ => (Hat.below h C.box.lt).1 hk⟩
theorem BoxR.box_app (C : BoxR W0 b xs v W) (h : Below W.heap.size W Wx) (hg : Wx.grownBy W1 v.ownBlock) : W1.cell? ⟨b, 0, none⟩ = some v ∧ W1.frozen? ⟨b, 0, none⟩ = false := by
  have hbv : v.ownBlock ≠ some b := fun e => by have := (C.own.lt b e).1; have := C.hb; omega
  have hb1 : Blk W1 b 23 #[v] := C.box.same ((hg.block b (Nat.lt_of_lt_of_le C.box.lt h.size) (fun e => hbv e.symm)).trans (h.block b C.box.lt))
  exact ⟨hb1.cell 0, hb1.frozen 0⟩
/-- A round that appends. -/
theorem BoxR.app (C : BoxR W0 b xs v W) (h : Below W.heap.size W Wx) {y : Nat} (hown : W1.ownsRow W0.heap.size 41 1 v' (xs.length + 1) (u32s xs ++ [.int .u32 (y : Int)])) (hg : Wx.grownBy W1 v.ownBlock)
    (hat : v'.ownBlock = v.ownBlock ∨ v'.ownBlock = some Wx.heap.size) (hm : m0 ≤ b) :
    KeepsFrom W0.heap.size W (W1.setCell ⟨b, 0, none⟩ v') ∧ KpR m0 W0.heap.size b W (W1.setCell ⟨b, 0, none⟩ v') ∧ BoxR W0 b (xs ++ [y]) v' (W1.setCell ⟨b, 0, none⟩ v') := by
  have hsz : (W1.setCell ⟨b, 0, none⟩ v').heap.size = W1.heap.size := by simp [World.setCell]
  have hle : W.heap.size ≤ W1.heap.size := Nat.le_trans h.size hg.size
  have hfar : ∀ k, k < W.heap.size → k ≠ b → v.ownBlock ≠ some k → (W1.setCell ⟨b, 0, none⟩ v').heap[k]? = W.heap[k]? := fun k hk h1 h2 =>
    (Below.heap_setCell W1 ⟨b, 0, none⟩ v' k h1).trans ((hg.block k (Nat.lt_of_lt_of_le hk h.size) (fun e => h2 e.symm)).trans (h.block k hk))
  have hbv : v.ownBlock ≠ some b := fun e => by have := (C.own.lt b e).1; have := C.hb; omega
  have hbx := C.box.lt
  have hb1 : Blk W1 b 23 #[v] := C.box.same ((hg.block b (Nat.lt_of_lt_of_le hbx h.size) (fun e => hbv e.symm)).trans (h.block b hbx))
  have hbn : Blk (W1.setCell ⟨b, 0, none⟩ v') b 23 #[v'] := hb1.set_ 0 _
  have hcn : (W1.setCell ⟨b, 0, none⟩ v').cell? ⟨b, 0, none⟩ = some v' := hbn.cell 0
  have hc0 : W.cell? ⟨b, 0, none⟩ = some v := C.box.cell 0
  have hobj : ∀ k (o : Obj), W.heap[k]? = some o → o.isCells = false → (W1.setCell ⟨b, 0, none⟩ v').heap[k]? = some o := fun k o ho hc => by
    refine (hfar k (lt_of_get ho) ?_ ?_).trans ho
    · rintro rfl
      have := C.box
      unfold Blk at this
      rw [this] at ho; injection ho with ho; subst ho; cases hc
    · intro e
      rcases C.own.2 with ⟨h1, _⟩ | ⟨g', cap, cur, h1, _, h3, _⟩
      · rw [h1] at e; cases e
      · rw [h1] at e
        injection e with e
        subst e
        rw [h3] at ho; injection ho with ho; subst ho; cases hc
  refine ⟨⟨by rw [hsz]; exact hle, fun k o _ ho hc => hobj k o ho hc⟩,
    ⟨hg.os.trans h.os, hg.tape.trans h.tape, hg.output.trans h.output, by rw [hsz]; exact hle, fun k cs t fr hk hn hh => (hfar k (lt_of_get hh) (by have := C.hb; omega) (fun e => hn ⟨v, hc0, e⟩)).trans hh, fun k ⟨u, hu, ho⟩ hk => ?_⟩,
    ⟨hg.os.trans (h.os.trans C.os), hg.tape.trans (h.tape.trans C.tape), hg.output.trans (h.output.trans C.output), by rw [hsz]; exact Nat.le_trans C.size hle, fun k hk hn => (hfar k (Nat.lt_of_lt_of_le hk C.size) hn (fun e => by have := (C.own.lt k e).1; omega)).trans (C.low k hk hn), hbn, ?_, C.hb⟩⟩
  · rw [hcn] at hu
    injection hu with hu
    subst hu
    refine ⟨v, hc0, ?_⟩
    rcases hat with e | e
    · rw [← e]; exact ho
    · rw [ho] at e; injection e with e; have := h.size; omega
  · rw [List.length_append, u32s_app]
    refine own_keep hown (fun k hk => Below.heap_setCell W1 ⟨b, 0, none⟩ v' k (fun e => ?_))
    subst e
    have := (hown.lt _ hk).1
    have := C.hb
    omega
end
end Go.Proofs.YtblekggklimpeaaDoor

namespace Go.Proofs.YtblekggklimpeaaDoor
open Go.RowKit
attribute [local go_sem] Oper.semAt_some
theorem wpListIn_app_any {F : Fence} {n : Nat} {P : Program} {ops : Array Oper} {rest : List Oper} {o : Oper} {a : Act} {Q : Exit → Act → World → Prop} (w : World) (hgd : o.guard = none) (s x : Operand) (t : TypeId)
    (ho : o.op = .call { callee := .builtin .append, args := #[s, x], argTypes := #[t, t] })
    (base : Nat) (e : TypeId) (i : TypeInfo) (z : Value) (size bytes : Nat) (ht : P.underlying t = some (.slice e)) (hi : P.info? e = some i) (hz : i.zero = some z)
    (hsize : i.size = size) (hby : i.bytes = bytes) (hzs : z.cells.size = size) (hsz : 0 < size)
    (v : Value) (k : Nat) (xs : List Value) (hs : a.eval s = v) (hown : w.ownsRow base e size v k xs)
    (B : Nat) (A : Option Addr) (m c : Nat) (news : List Value) (hx : a.eval x = .slice A m c) (hr : Reads w B size A m news) (h1 : ∀ u ∈ news, u.oneCell' = true)
    (h63 : k + m ≤ maxLen) (hbytes : (k + m) * bytes ≤ 140737488355328) (hbase : base ≤ w.heap.size)
    (h : ∀ v' w', w'.ownsRow base e size v' (k + m) (xs ++ news) → w.grownBy w' v.ownBlock → (v'.ownBlock = v.ownBlock ∨ v'.ownBlock = some w.heap.size) → wpListIn F n P ops Q rest (a.put o.dst v') w') : wpListIn F n P ops Q (o :: rest) a w := by
  refine wpListIn_plain hgd fun K hK' => ?_
  obtain ⟨v', w', hrun, h2, h3, h4⟩ := run_append_any (P := P) w base t o.type e i z size bytes ht hi hz hsize hby hzs hsz v k xs hown B A m c news hr h1 h63 hbytes hbase
  unfold Oper.wpIn
  refine ⟨?_, ?_⟩
  · simp [Oper.about, ho, resolve, Target.leads, Sem.run_pure]
  · rw [Oper.semAt_plain F _ _ (by rw [ho]; intro c hc'; cases hc')]
    simp [execOp, ho, resolve, invoke, builtin, hs, hx, hrun, Result.andThen]
    exact hK' _ _ (h _ _ h2 h3 h4)
/-- The picked among those that were handed out. -/
def selF (P : Nat → Bool) (l : List Ob) (pre : List (Fin l.length)) : List Nat := (pre.filter (fun i => P i.1)).map (fun i => 2 * posOf (l.take i.1))
theorem selF_yes {P : Nat → Bool} {l : List Ob} {pre : List (Fin l.length)} {x : Fin l.length} (h : P x.1 = true) : selF P l (pre ++ [x]) = selF P l pre ++ [2 * posOf (l.take x.1)] := by
  unfold selF
  rw [List.filter_append, List.map_append, List.filter_cons, if_pos h]
  rfl
theorem selF_no {P : Nat → Bool} {l : List Ob} {pre : List (Fin l.length)} {x : Fin l.length} (h : P x.1 = false) : selF P l (pre ++ [x]) = selF P l pre := by
  unfold selF
  rw [List.filter_append, List.map_append, List.filter_cons, if_neg (by rw [h]; decide)]
  simp
theorem selF_len (P : Nat → Bool) (l : List Ob) (pre : List (Fin l.length)) : (selF P l pre).length ≤ pre.length := by
  unfold selF
  rw [List.length_map]
  exact List.length_filter_le _ _
theorem selF_all (P : Nat → Bool) (l : List Ob) : selF P l (List.finRange l.length) = ((List.range l.length).filter P).map (fun i => 2 * posOf (l.take i)) := by
  have h : (List.range l.length) = (List.finRange l.length).map Fin.val := by
    apply List.ext_getElem
    · simp
    · intro i h1 h2; simp
  unfold selF
  rw [h, List.filter_map, List.map_map]
  rfl
end Go.Proofs.YtblekggklimpeaaDoor

namespace Go.Proofs.YtblekggklimpeaaDoor
open Go.RowKit
attribute [local go_sem] Oper.semAt_some
set_option maxHeartbeats 400000 in
theorem index_oop (A : Option Addr) (n c B : Nat) (fs : List Nat) (x : Nat) (w : World) (hn : n ≤ 9223372036854775807) (hr : Reads w B 1 A n (u32s fs)) :
    Calls Tryd.prog 108 #[.slice A n c, .int .u32 x] w (idxPost fs x w) := by
  have hl : fs.length = n := by have := hr.1; simpa [u32s] using this
  have HL := Lib.hid hl; clear hl
  have HR := Lib.hid hr; clear hr
  go_enter Tryd.func108, Tryd.ntmps108
  go_wp2_with fail
  go_loop [8] (fun i => ∃ k : Nat, k ≤ n ∧ i = .int .i64 k ∧ (fs.take k).contains x = false) (fun i => n - (intOf i).toNat)
  case atStart => exact ⟨0, by omega, rfl, by simp⟩
  case round =>
    obtain ⟨k, hk, rfl, hno⟩ := hrel
    have HNO := Lib.hid hno; clear hno
    by_cases hlt : k < n
    · obtain ⟨ad, u0, rfl, _, hx, hcell⟩ := HR.out.at_ hlt
      obtain ⟨y, hy, rfl⟩ := u32s_at hx
      clear hx
      have HY := Lib.hid hy; clear hy
      by_cases hxy : x = y
      · subst hxy
        go_wp2_with fail
        go_ret
        exact ⟨k, rfl, by rw [contains_of_get HY.out]; simp, by omega, by omega, rfl⟩
      · have hb : ((x : Int) == (y : Int)) = false := beq_eq_false_iff_ne.2 (by omega)
        have HXY := Lib.hid hxy; clear hxy
        go_wp2_with fail
        go_round
        case rel => exact ⟨k + 1, by omega, by go_num, take_contains_none HY.out HXY.out HNO.out⟩
        case measure => simp [intOf]; omega
    · obtain rfl : k = n := by omega
      have hall := HNO.out
      rw [List.take_of_length_le (by rw [HL.out]; omega)] at hall
      have HA := Lib.hid hall; clear hall
      go_wp2_with fail
      go_ret
      exact ⟨-1, rfl, by rw [HA.out]; simp, by omega, by omega, rfl⟩

theorem contains_oop (A : Option Addr) (n c B : Nat) (fs : List Nat) (x : Nat) (w : World) (hn : n ≤ 9223372036854775807) (hr : Reads w B 1 A n (u32s fs)) :
    Calls Tryd.prog 81 #[.slice A n c, .int .u32 x] w fun e w' => e = .returned (.bool (fs.contains x)) ∧ w = w' := by
  have HR := Lib.hid hr; clear hr
  go_enter Tryd.func81, Tryd.ntmps81
  go_wp2_with fail
  refine (index_oop A n c B fs x w hn HR.out).mono ?_
  rintro e w' ⟨j, rfl, hj, hlo, hhi, rfl⟩
  have HJ := Lib.hid hj; clear hj
  go_wp2_with fail
  go_ret
  exact ⟨by rw [← HJ.out]; rfl, rfl⟩

end Go.Proofs.YtblekggklimpeaaDoor
