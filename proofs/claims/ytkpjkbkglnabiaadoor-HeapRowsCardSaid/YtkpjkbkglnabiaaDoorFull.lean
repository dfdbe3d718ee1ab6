/- HeapFull, walked: an allocation is refused for want of room just if it would not fit; then a smaller one that does is taken. -/
import Derived.Test.YtkpjkbkglnabiaaDoorBegun
set_option linter.unusedVariables false
namespace Go.Proofs.YtkpjkbkglnabiaaDoor
open Go.RowKit

theorem ret_bool {a : Bool} (h : a = true) : Ending.returned (.bool a) = .returned (.bool true) := by rw [h]
def mayB (n : Int) : Bool := decide (64 ≤ n) && decide (n ≤ 1048576)
theorem mayL_any (n : Int) (w : World) : Calls Tryd.prog 10 #[.int .i64 n] w (Said (.bool (mayB n)) w) := by
  by_cases h1 : 64 ≤ n
  · by_cases h2 : n ≤ 1048576
    · have HF := Lib.hid (show mayB n = true by simp [mayB, h1, h2])
      go_enter Tryd.func10, Tryd.ntmps10
      go_wp2_with fail
      go_ret
      exact ⟨by rw [HF.out]; rfl, rfl⟩
    · have HF := Lib.hid (show mayB n = false by simp [mayB, h2])
      go_enter Tryd.func10, Tryd.ntmps10
      go_wp2_with fail
      go_ret
      exact ⟨by rw [HF.out]; rfl, rfl⟩
  · have HF := Lib.hid (show mayB n = false by simp [mayB, h1])
    go_enter Tryd.func10, Tryd.ntmps10
    go_wp2_with fail
    go_ret
    exact ⟨by rw [HF.out]; rfl, rfl⟩

section
variable {h : HM} {l : List Ob}
theorem HM.Scr.allocE3 (s : h.Scr l) (k : Nat) (hk : k ≤ 65535) : h.AllocE 0 3 k = if h.words.length + 3 + k ≤ h.size then 0 else 4 := by
  have hl := s.last_lt
  have hok : allocOk 3 k = true := by simp [allocOk]; omega
  have hc : h.clsB 0 = true := by simp [HM.clsB]
  have e1 : (mkHd 0 3 k).size = k := by simp [mkHd]
  have e2 : (mkHd 0 3 k).cls = 0 := rfl
  unfold HM.AllocE HM.allocE
  rw [if_pos hok, e1, e2, hc, if_neg (by decide)]
  by_cases hf : h.words.length + 3 + k ≤ h.size
  · rw [if_pos hf, if_neg (by omega)]
  · rw [if_neg hf, if_pos (by omega)]
theorem HM.Scr.alloc_fits (s : h.Scr l) (k : Nat) (hk : k ≤ 65535) (hf : h.words.length + 3 + k ≤ h.size) :
    h.AllocE 0 3 k = 0 ∧ h.AllocO 0 3 k = 2 * h.words.length ∧ (h.AllocH 0 3 k).words.length = h.words.length + 3 + k ∧ (h.AllocH 0 3 k).size = h.size := by
  have e := s.allocE3 k hk
  rw [if_pos hf] at e
  refine ⟨e, by rw [HM.AllocO, if_pos e], ?_, ?_⟩
  · rw [HM.AllocH_eq, if_pos e]; simp [HM.pushH, mkHd]; omega
  · rw [HM.AllocH_eq, if_pos e]; rfl
theorem HM.Scr.alloc_full (s : h.Scr l) (k : Nat) (hk : k ≤ 65535) (hf : ¬ h.words.length + 3 + k ≤ h.size) :
    h.AllocE 0 3 k = 4 ∧ h.AllocO 0 3 k = 0 ∧ h.AllocH 0 3 k = h := by
  have e := s.allocE3 k hk
  rw [if_neg hf] at e
  exact ⟨e, by rw [HM.AllocO, if_neg (by omega)], by rw [HM.AllocH_eq, if_neg (by omega)]⟩
end

set_option maxRecDepth 100000 in
set_option maxHeartbeats 4000000 in
theorem full_any (W : World) (E : Env W) (n : Int) (A : Option Addr) (nd c : Nat) (ds : List Dd) (hnd : nd ≤ 9223372036854775807) (hl : ds.length = nd) (hds : DeedsAt W W.heap.size A ds) (m : Int) :
    Calls Tryd.prog 3 #[.int .i64 n, .slice A nd c, .int .i64 m] W (Told (.bool true) W) := by
  have HE := Lib.hid E
  have HM0 := Lib.hid (mayL_any n W)
  by_cases hb : mayB n = true ∧ 0 ≤ m ∧ m ≤ 65535
  · obtain ⟨h1, h2, h3⟩ := hb
    rw [h1] at HM0
    have hn : 64 ≤ n ∧ n ≤ 1048576 := by simpa [mayB] using h1
    obtain ⟨k, rfl⟩ := Int.eq_ofNat_of_zero_le (by omega : 0 ≤ n)
    obtain ⟨q, rfl⟩ := Int.eq_ofNat_of_zero_le h2
    have HB := Lib.hid (begun_any W E k (by omega) (by omega) A nd c ds hnd hl hds)
    have HS := Lib.hid ((HM.new_scr (n := k) (by omega) (by omega)).run ds hds.fit)
    clear hds hl h1 E
    go_enter Tryd.func3, Tryd.ntmps3
    go_wp2_with fail
    refine HM0.out.mono ?_
    rintro e w' ⟨rfl, rfl⟩
    go_wp2_with fail
    refine HB.out.mono ?_
    rintro e w1 ⟨p, g, v, rfl, L, -, -⟩
    obtain ⟨l, s, -, hz, -, -⟩ := HS.out
    clear HB HS HM0
    generalize (HM.new k).runH ds = h at *
    replace hz : h.size = k := hz
    have hroom := s.good.fit.room
    have hhi := s.good.fit.hi
    have HSC := Lib.hid s
    have HZ := Lib.hid hz
    clear s hz
    go_wp2_with fail
    refine (awake_any _ L.envw).mono ?_
    rintro e w2 ⟨rfl, hb2⟩
    have L2 := L.after hb2
    clear L hb2
    go_wp2_with fail
    refine L2.size.mono ?_
    rintro e w' ⟨rfl, rfl⟩
    go_wp2_with fail
    refine L2.top.mono ?_
    rintro e w' ⟨rfl, rfl⟩
    by_cases hf : h.words.length + 3 + q ≤ h.size
    · obtain ⟨f1, f2, f3, f4⟩ := HSC.out.alloc_fits q (by omega) hf
      go_wp2_with fail
      refine (L2.alloc 0 (by decide) 3 q).mono ?_
      rintro e w3 ⟨p3, rfl, L3, -⟩
      rw [f1, f2]
      have HL3 := Lib.hid L3.size
      have HL4 := Lib.hid L3.top
      rw [f4] at HL3
      rw [f3] at HL4
      have HBW := Lib.hid L3.below
      have hone := HSC.out.good.fit.one
      clear f1 f2 f3 f4 L3 L2 HSC HZ
      have hne : ((2 * h.words.length : Nat) : Int) ≠ 0 := by omega
      generalize h.words.length = N at *
      generalize h.size = S at *
      have hle : (3 : Int) + q ≤ (S : Int) - (N : Int) := by omega
      go_wp2_with fail
      refine (num_any 0 (by decide) _).mono ?_
      rintro e w' ⟨rfl, rfl⟩
      go_wp2_with fail
      refine HL3.out.mono ?_
      rintro e w' ⟨rfl, rfl⟩
      go_wp2_with fail
      refine HL4.out.mono ?_
      rintro e w' ⟨rfl, rfl⟩
      go_wp2_with fail
      go_ret
      exact ⟨ret_bool (by simp; omega), HBW.out⟩
    · obtain ⟨f1, f2, f3⟩ := HSC.out.alloc_full q (by omega) hf
      have hng : ¬ (3 : Int) + q ≤ (h.size : Int) - (h.words.length : Int) := by omega
      go_wp2_with fail
      refine (L2.alloc 0 (by decide) 3 q).mono ?_
      rintro e w3 ⟨p3, rfl, L3, -⟩
      rw [f1, f2]
      rw [f3] at L3
      have HL3 := Lib.hid L3.size
      have HL4 := Lib.hid L3.top
      have HLL := Lib.hid L3
      have HBW := Lib.hid L3.below
      clear L3 L2 f1 f2 f3
      by_cases h3 : (h.size : Int) - (h.words.length : Int) < 3
      · clear HSC
        generalize h.words.length = N at *
        generalize h.size = S at *
        go_wp2_with fail
        refine (num_any 4 (by decide) _).mono ?_
        rintro e w' ⟨rfl, rfl⟩
        go_wp2_with fail
        refine HL3.out.mono ?_
        rintro e w' ⟨rfl, rfl⟩
        go_wp2_with fail
        refine HL4.out.mono ?_
        rintro e w' ⟨rfl, rfl⟩
        go_wp2_with fail
        go_ret
        exact ⟨rfl, HBW.out⟩
      · obtain ⟨k2, hk2, hk3⟩ : ∃ k2 : Nat, min ((h.size : Int) - (h.words.length : Int) - 3) 65535 = k2 ∧ k2 ≤ 65535 ∧ h.words.length + 3 + k2 ≤ h.size := ⟨min (h.size - h.words.length - 3) 65535, by omega, by omega⟩
        obtain ⟨f1, f2, f3, f4⟩ := HSC.out.alloc_fits k2 hk3.1 hk3.2
        have hone := HSC.out.good.fit.one
        have hne : ((2 * h.words.length : Nat) : Int) ≠ 0 := by omega
        have HAL := Lib.hid (HLL.out.alloc 0 (by decide) 3 k2)
        rw [f1, f2] at HAL
        clear HSC f1 f2 f3 f4 hk3 HLL
        generalize h.AllocH 0 3 (k2 : Int) = h2 at *
        generalize h.words.length = N at *
        generalize h.size = S at *
        have HK2 := Lib.hid hk2
        clear hk2
        go_wp2_with fail
        refine (num_any 4 (by decide) _).mono ?_
        rintro e w' ⟨rfl, rfl⟩
        go_wp2_with fail
        refine HL3.out.mono ?_
        rintro e w' ⟨rfl, rfl⟩
        go_wp2_with fail
        refine HL4.out.mono ?_
        rintro e w' ⟨rfl, rfl⟩
        have hk4 := HK2.out
        go_wp2_with fail
        refine HAL.out.mono ?_
        rintro e w4 ⟨p4, rfl, L4, -⟩
        have HB4 := Lib.hid L4.below
        clear L4 HAL HK2 hk4
        go_wp2_with fail
        refine (num_any 0 (by decide) _).mono ?_
        rintro e w' ⟨rfl, rfl⟩
        go_wp2_with fail
        go_ret
        exact ⟨ret_bool (by simp; omega), HB4.out⟩
  · have HA := Lib.hid (awake_any W E)
    clear hds E
    by_cases h1 : mayB n = true
    · rw [h1] at HM0
      by_cases h2 : 0 ≤ m
      · have h3 : 65535 < m := Int.not_le.1 fun h3 => hb ⟨h1, h2, h3⟩
        clear hb h1
        go_enter Tryd.func3, Tryd.ntmps3
        go_wp2_with fail
        refine HM0.out.mono ?_
        rintro e w' ⟨rfl, rfl⟩
        go_wp2_with fail
        refine HA.out.mono ?_
        rintro e w2 ⟨rfl, hb2⟩
        go_wp2_with fail
        go_ret
        exact ⟨rfl, hb2⟩
      · have h3 : m < 0 := by omega
        clear hb h1 h2
        go_enter Tryd.func3, Tryd.ntmps3
        go_wp2_with fail
        refine HM0.out.mono ?_
        rintro e w' ⟨rfl, rfl⟩
        go_wp2_with fail
        refine HA.out.mono ?_
        rintro e w2 ⟨rfl, hb2⟩
        go_wp2_with fail
        go_ret
        exact ⟨rfl, hb2⟩
    · rw [show mayB n = false by simpa using h1] at HM0
      clear hb h1
      go_enter Tryd.func3, Tryd.ntmps3
      go_wp2_with fail
      refine HM0.out.mono ?_
      rintro e w' ⟨rfl, rfl⟩
      go_wp2_with fail
      refine HA.out.mono ?_
      rintro e w2 ⟨rfl, hb2⟩
      go_wp2_with fail
      go_ret
      exact ⟨rfl, hb2⟩
end Go.Proofs.YtkpjkbkglnabiaaDoor
