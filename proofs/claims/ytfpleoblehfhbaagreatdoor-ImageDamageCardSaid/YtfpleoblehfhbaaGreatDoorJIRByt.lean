/- A reader's bytes: the program's. -/
/- May and Pack of headers whatever their parts, the program's and the document's. -/
import Derived.Test.YtfpleoblehfhbaaGreatDoorJIBurst
import Derived.Test.YtfpleoblehfhbaaGreatDoorJIHead
import Derived.Test.YtfpleoblehfhbaaGreatDoorJMay
import Derived.Test.YtfpleoblehfhbaaGreatDoorJLive
set_option linter.unusedVariables false
set_option linter.unusedSimpArgs false
set_option linter.unusedSectionVars false
namespace Go.Proofs.YtfpleoblehfhbaaGreatDoor
open Go.RowKit
attribute [local go_sem] Oper.semAt_some
def BytR (L rg : Nat) (A : Option Addr) (c : Nat) (bs : List Nat) (bad : Bool) (n : Nat) (w : World) (e : Ending) (w' : World) : Prop :=
  Fr1 rg w w' ∧ ((n ≤ bs.length ∧ e = .returned (.slice (tailA A c 0) n c) ∧ RdAt w' L rg (tailA A c n) (c - n) (bs.drop n) bad) ∨ (bs.length < n ∧ e = .returned (.slice none 0 0) ∧ RdAt w' L rg A c bs true))
set_option maxRecDepth 100000 in
theorem rbytesI_any {w : World} {L rg c : Nat} {A : Option Addr} {bs : List Nat} {bad : Bool} (R : RdAt w L rg A c bs bad) (hn : bs.length ≤ 9000000) (n : Nat) (hn63 : n ≤ 9000000000) :
    Calls Tryz.prog 125 #[.pointer (some ⟨rg, 0, none⟩), .int .i64 n] w (BytR L rg A c bs bad n w) := by
  have c0 := R.box.cell 0
  have c1 := R.box.cell 1
  have z0 := R.box.frozen 0
  have z1 := R.box.frozen 1
  have hc := R.cap
  by_cases h : bs.length < n
  · have hd : decide ((bs.length : Int) < (n : Int)) = true := by simp; omega
    have HF := Lib.hid (show BytR L rg A c bs bad n w (.returned (.slice none 0 0)) (w.setCell ⟨rg, 1, none⟩ (.bool true)) from
      ⟨Fr1.set _ _ _ _, .inr ⟨h, rfl, ⟨R.box.set_ 1 _, R.cap, R.rd.below (Below.setCell (Below.refl _ _) (p := ⟨rg, 1, none⟩) R.far _), R.far, R.b8⟩⟩⟩)
    clear R
    go_enter Tryz.func125, Tryz.ntmps125
    go_wp2_with fail
    go_ret
    exact HF.out
  · have hd : decide ((bs.length : Int) < (n : Int)) = false := by simp; omega
    have hln : (bs.drop n).length = bs.length - n := by simp
    have HF := Lib.hid (show ∀ A1 A2 k2 c2, tailA A c 0 = A1 → tailA A c n = A2 → bs.length - n = k2 → c - n = c2 → BytR L rg A c bs bad n w (.returned (.slice A1 n c)) (w.setCell ⟨rg, 0, none⟩ (.slice A2 k2 c2)) from by
      rintro A1 A2 k2 c2 rfl rfl rfl rfl
      refine ⟨Fr1.set _ _ _ _, .inl ⟨by omega, rfl, ⟨?_, by rw [hln]; omega, ?_, R.far, fun x hx => R.b8 x (List.mem_of_mem_drop hx)⟩⟩⟩
      · rw [hln]; exact R.box.set_ 0 _
      · rw [hln]; exact (reads_rest (k := n) R.rd R.cap (by omega)).below (Below.setCell (Below.refl _ _) (p := ⟨rg, 0, none⟩) R.far _))
    have hc1 : (n : Int) ≤ (c : Int) := by omega
    have hc2 : (n : Int) ≤ (bs.length : Int) := by omega
    clear R
    by_cases hcn : c = n
    · subst hcn
      go_enter Tryz.func125, Tryz.ntmps125
      go_wp2_with fail
      all_goals go_ret
      all_goals refine HF.out _ _ _ _ ?_ ?_ ?_ ?_
      all_goals first | omega | (simp [tailA, Addr.add, *]; done) | (simp [tailA, Addr.add, *]; omega)
    · have hcn' : n ≠ c := fun e => hcn e.symm
      go_enter Tryz.func125, Tryz.ntmps125
      go_wp2_with fail
      all_goals go_ret
      all_goals refine HF.out _ _ _ _ ?_ ?_ ?_ ?_
      all_goals first | omega | (simp [tailA, Addr.add, *]; done) | (simp [tailA, Addr.add, *]; omega)
end Go.Proofs.YtfpleoblehfhbaaGreatDoor

namespace Go.Proofs.YtfpleoblehfhbaaGreatDoor
open Go.RowKit
attribute [local go_sem] Oper.semAt_some
theorem okB_may {x : Hd} (h : x.spare < 4) : okB x = x.may := by unfold okB; rw [decide_eq_true h, Bool.and_true]
theorem okB_size {x : Hd} (h : 65535 < x.size) : okB x = false := by unfold okB Hd.may; rw [decide_eq_false (by omega)]; rfl
theorem okB_fmt {x : Hd} (h : 5 ≤ x.fmt) : okB x = false := by unfold okB Hd.may; rw [show decide (x.fmt ≤ 4) = false from decide_eq_false (by omega)]; simp
theorem okB_fmt0 {x : Hd} (h : x.fmt ≤ 0) : okB x = false := by unfold okB Hd.may; rw [show decide (1 ≤ x.fmt) = false from decide_eq_false (by omega)]; simp
theorem okB_spare {x : Hd} (h : 4 ≤ x.spare) : okB x = false := by unfold okB; rw [show decide (x.spare < 4) = false from decide_eq_false (by omega)]; simp
set_option maxHeartbeats 2000000 in
theorem may2_any (x : Hd) (h1 : x.size < 4294967296) (h2 : x.fmt < 16) (h3 : x.spare < 16) (h4 : x.cls < 4294967296) (h5 : x.ser < 4294967296) (w : World) (hs : Spares w) :
    Calls Tryz.prog 134 #[x.val] w fun e w' => e = .returned (.bool (okB x)) ∧ Below w.heap.size w w' := by
  by_cases ha : 65535 < x.size
  · have HF := Lib.hid (okB_size ha)
    obtain ⟨n, t, s, c, r⟩ := x
    simp only at ha h1 h2 h3 h4 h5
    unfold Hd.val
    have hai : (65535 : Int) < (n : Int) := by omega
    go_enter Tryz.func134, Tryz.ntmps134
    go_wp2_with fail
    go_ret
    exact ⟨by rw [HF.out]; rfl, (Below.refl _ _).alloc (Nat.le_refl _) _⟩
  by_cases hb : 5 ≤ x.fmt
  · have HF := Lib.hid (okB_fmt hb)
    obtain ⟨n, t, s, c, r⟩ := x
    simp only at ha hb h1 h2 h3 h4 h5
    unfold Hd.val
    go_enter Tryz.func134, Tryz.ntmps134
    go_wp2_with fail
    go_ret
    exact ⟨by rw [HF.out]; rfl, (Below.refl _ _).alloc (Nat.le_refl _) _⟩
  by_cases hc : 4 ≤ x.spare
  · by_cases h0 : x.fmt ≤ 0
    · have HF := Lib.hid (okB_fmt0 h0)
      obtain ⟨n, t, s, c, r⟩ := x
      simp only at ha hb hc h0 h1 h2 h3 h4 h5
      unfold Hd.val
      go_enter Tryz.func134, Tryz.ntmps134
      go_wp2_with fail
      go_ret
      exact ⟨by rw [HF.out]; rfl, (Below.refl _ _).alloc (Nat.le_refl _) _⟩
    · have HF := Lib.hid (okB_spare hc)
      obtain ⟨n, t, s, c, r⟩ := x
      simp only at ha hb hc h0 h1 h2 h3 h4 h5
      have hci : (3 : Int) < (s : Int) := by omega
      unfold Hd.val
      go_enter Tryz.func134, Tryz.ntmps134
      go_wp2_with fail
      go_ret
      exact ⟨by rw [HF.out]; rfl, (Below.refl _ _).alloc (Nat.le_refl _) _⟩
  · rw [okB_may (by omega)]
    exact may_any x ⟨by omega, by omega, by omega, h4, h5⟩ w hs
/-- Pack of a header that may not be. -/
theorem PackNo_any (x : Hd) (h1 : x.size < 4294967296) (h2 : x.fmt < 16) (h3 : x.spare < 16) (h4 : x.cls < 4294967296) (h5 : x.ser < 4294967296) (hm : okB x = false) (w : World) (hs : Spares w) :
    Calls Tryz.prog 114 #[x.val] w fun e w' => e = .returned (.tuple #[.agg #[.int .u32 0, .int .u32 0, .int .u32 0], .int .i64 1]) ∧ Below w.heap.size w w' := by
  have hv : x.val = .agg #[.int .i64 x.size, .int .i64 x.fmt, .int .i64 x.spare, .int .u32 x.cls, .int .u32 x.ser] := rfl
  rw [hv]
  go_enter Tryz.func114, Tryz.ntmps114
  go_wp2_with fail
  rw [← hv]
  refine (may2_any x h1 h2 h3 h4 h5 _ (hs.below (((Below.refl _ _).alloc (Nat.le_refl _) _).alloc (by simp) _))).mono ?_
  rintro e w1 ⟨rfl, hb1⟩
  rw [hm]
  have hb : Below w.heap.size w w1 := (((Below.refl _ _).alloc (Nat.le_refl _) _).alloc (by simp) _).trans (hb1.mono (by simp; omega))
  have B2 := Blk.below (Blk.new (w.alloc _) _ _) hb1 (by simp)
  rw [World.size_alloc] at B2
  clear hb1
  obtain ⟨d0, d1, d2⟩ := B2.cells3
  have z2 := B2.fz
  have hz2 := B2.lt
  go_wp2_with fail
  have B3 := B2.setAll3 (.int .u32 0) (.int .u32 0) (.int .u32 0)
  obtain ⟨f0, f1, f2⟩ := B3.cells3
  refine bodyPost_ret (v := .tuple #[.agg #[.int .u32 0, .int .u32 0, .int .u32 0], .int .i64 1]) (by simp [results, Tryz.results114, go_sem, f0, f1, f2]) rfl ⟨rfl, ?_⟩
  exact ((hb.setCell (by simp) _).setCell (by simp) _).setCell (by simp) _
set_option maxHeartbeats 2000000 in
theorem rmay2_any (x : Hd) (h1 : x.size ≤ 65535) (h2 : x.fmt < 16) (h3 : x.spare < 16) (h4 : x.cls < 4294967296) (h5 : x.ser < 4294967296) (w : World) :
    Calls Tryz.prog 102 #[x.val] w fun e w' => e = .returned (.bool (okB x)) ∧ Below w.heap.size w w' := by
  by_cases hb : 5 ≤ x.fmt
  · have HF := Lib.hid (okB_fmt hb)
    obtain ⟨n, t, s, c, r⟩ := x
    simp only at hb h1 h2 h3 h4 h5
    unfold Hd.val
    go_enter Tryz.func102, Tryz.ntmps102
    go_wp2_with fail
    go_ret
    exact ⟨by rw [HF.out]; rfl, (Below.refl _ _).alloc (Nat.le_refl _) _⟩
  by_cases hc : 4 ≤ x.spare
  · by_cases h0 : x.fmt ≤ 0
    · have HF := Lib.hid (okB_fmt0 h0)
      obtain ⟨n, t, s, c, r⟩ := x
      simp only at hb hc h0 h1 h2 h3 h4 h5
      unfold Hd.val
      go_enter Tryz.func102, Tryz.ntmps102
      go_wp2_with fail
      go_ret
      exact ⟨by rw [HF.out]; rfl, (Below.refl _ _).alloc (Nat.le_refl _) _⟩
    · have HF := Lib.hid (okB_spare hc)
      obtain ⟨n, t, s, c, r⟩ := x
      simp only at hb hc h0 h1 h2 h3 h4 h5
      have hci : (3 : Int) < (s : Int) := by omega
      unfold Hd.val
      go_enter Tryz.func102, Tryz.ntmps102
      go_wp2_with fail
      go_ret
      exact ⟨by rw [HF.out]; rfl, (Below.refl _ _).alloc (Nat.le_refl _) _⟩
  · rw [okB_may (by omega)]
    exact rmay_any x ⟨by omega, by omega, by omega, h4, h5⟩ w
end Go.Proofs.YtfpleoblehfhbaaGreatDoor
