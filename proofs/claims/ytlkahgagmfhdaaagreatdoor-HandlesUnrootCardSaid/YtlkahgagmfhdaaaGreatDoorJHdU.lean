/- HandlesUnroot: plain data. -/
/- HandlesUnroot, walked. -/
import Derived.Test.YtlkahgagmfhdaaaGreatDoorJHdW
import Derived.Test.YtlkahgagmfhdaaaGreatDoorJKCol
import Derived.Test.YtlkahgagmfhdaaaGreatDoorJAll
import Derived.Test.YtlkahgagmfhdaaaGreatDoorJKRColN
set_option linter.unusedVariables false
set_option linter.unusedSimpArgs false
set_option linter.unusedSectionVars false
namespace Go.Proofs.YtlkahgagmfhdaaaGreatDoor
open Go.RowKit

def ut (e m : Nat) : TM := ⟨(1, e) :: List.replicate 255 (0, 0), 4, 2, m⟩
def uf (m : Nat) : TM := ⟨List.replicate 256 (0, 0), 4, 2, m⟩
theorem ut_at (e m k : Nat) : (ut e m).at k = if k = 0 then (1, e) else (0, 0) := by
  unfold TM.at ut
  cases k with
  | zero => rfl
  | succ k =>
    rw [if_neg (by omega)]
    simp only [List.getD_eq_getElem?_getD, List.getElem?_cons_succ, List.getElem?_replicate]
    split <;> rfl
theorem uf_at (m k : Nat) : (uf m).at k = (0, 0) := by
  unfold TM.at uf
  simp only [List.getD_eq_getElem?_getD, List.getElem?_replicate]
  split <;> rfl
theorem any_zero (p : Nat → Bool) (h : ∀ k, k ≠ 0 → p k = false) : (List.range 256).any p = p 0 := by
  cases h0 : p 0 with
  | true => rw [List.any_eq_true]; exact ⟨0, List.mem_range.2 (by omega), h0⟩
  | false =>
    rw [List.any_eq_false]
    intro k hk
    by_cases e : k = 0
    · rw [e, h0]; decide
    · rw [h k e]; decide
theorem brk_ut (h : HM) (e m : Nat) : brkB h (ut e m) = (h.badA 4 || !h.isB (h.objK 0)) := by
  unfold brkB
  rw [any_zero]
  · show (h.badA 4 || lostK h (ut e m) 0) = _
    unfold lostK
    rw [ut_at, if_pos rfl, (usedB_iff (1, e)).2 (by intro hh; cases hh)]
    rfl
  · intro k hk
    unfold lostK
    rw [ut_at, if_neg hk]
    rfl
theorem brk_uf (h : HM) (m : Nat) : brkB h (uf m) = h.badA 4 := by
  unfold brkB
  rw [any_zero]
  · show (h.badA 4 || lostK h (uf m) 0) = _
    unfold lostK
    rw [uf_at]
    simp [usedB]
  · intro k hk
    unfold lostK
    rw [uf_at]
    rfl
theorem gone_none {e m : Nat} (h : m < e) : (ut e m).goneK 256 = [] := by
  unfold TM.goneK
  rw [List.filter_eq_nil_iff]
  intro k hk
  unfold TM.goneB
  rw [ut_at]
  split
  · show ¬ (usedB (1, e) && decide (e ≤ m)) = true
    rw [decide_eq_false (by omega), Bool.and_false]
    decide
  · show ¬ (usedB (0, 0) && _) = true
    rw [show usedB (0, 0) = false from rfl, Bool.false_and]
    decide
theorem gone_one {e m : Nat} (h : e ≤ m) : (ut e m).goneK 256 = [0] := by
  unfold TM.goneK
  have : (ut e m).goneB = fun k => decide (k = 0) := by
    funext k
    unfold TM.goneB
    rw [ut_at]
    by_cases hk : k = 0
    · rw [if_pos hk, decide_eq_true hk, (usedB_iff (1, e)).2 (by intro hh; cases hh)]
      exact decide_eq_true h
    · rw [if_neg hk, decide_eq_false hk]
      rfl
  rw [this]
  decide +kernel
theorem tik_none {h : HM} {e m n : Nat} (hb : brkB h (ut e m) = false) (hn : m + n ≤ 1099511627776) (h1 : m + n < e) : tikE h (ut e m) n = 0 ∧ tikT h (ut e m) n = ut e (m + n) ∧ tikH h (ut e m) n = h := by
  have he : tikE h (ut e m) n = 0 := by
    unfold tikE
    rw [hb, if_neg (by decide), if_neg]
    have : (ut e m).now = m := rfl
    rw [this]
    omega
  have hg : ((ut e m).pass n).goneK 256 = [] := gone_none h1
  refine ⟨he, ?_, ?_⟩
  · unfold tikT
    rw [if_pos he, Int.toNat_natCast, hg]
    rfl
  · unfold tikH
    rw [if_pos he, Int.toNat_natCast, hg]
    rfl
theorem tik_one {h : HM} {e m n : Nat} (hb : brkB h (ut e m) = false) (hn : m + n ≤ 1099511627776) (h1 : e ≤ m + n) : tikE h (ut e m) n = 0 ∧ tikT h (ut e m) n = uf (m + n) ∧ tikH h (ut e m) n = h.clrK 0 := by
  have he : tikE h (ut e m) n = 0 := by
    unfold tikE
    rw [hb, if_neg (by decide), if_neg]
    have : (ut e m).now = m := rfl
    rw [this]
    omega
  have hg : ((ut e m).pass n).goneK 256 = [0] := gone_one h1
  refine ⟨he, ?_, ?_⟩
  · unfold tikT
    rw [if_pos he, Int.toNat_natCast, hg]
    rfl
  · unfold tikH
    rw [if_pos he, Int.toNat_natCast, hg]
    rfl
theorem fnd_ut {h : HM} {e m : Nat} (hb : brkB h (ut e m) = false) : fndE h (ut e m) 1 = 0 ∧ (ut e m).find 1 = 0 := by
  have hf : (ut e m).find 1 = 0 := rfl
  refine ⟨?_, hf⟩
  unfold fndE
  rw [hb, if_neg (by decide), hf, if_neg (by omega)]
theorem rnw_ut {h : HM} {e m n : Nat} (hb : brkB h (ut e m) = false) (h1 : 1 ≤ n) (h2 : n ≤ 1000000) : rnwE h (ut e m) 1 n = 0 ∧ rnwT h (ut e m) 1 n = ut (m + n) m := by
  have he : rnwE h (ut e m) 1 n = 0 := by
    unfold rnwE
    rw [(fnd_ut hb).1, if_pos rfl]
    unfold leaseB
    rw [decide_eq_true (by omega), decide_eq_true (by omega)]
    rfl
  refine ⟨he, ?_⟩
  unfold rnwT
  rw [if_pos he, (fnd_ut hb).2]
  rfl
theorem fnd_uf {h : HM} {m : Nat} (hb : brkB h (uf m) = false) : fndE h (uf m) 1 = 160 := by
  unfold fndE
  rw [hb, if_neg (by decide), if_pos]
  right
  have : (uf m).find 1 = (uf 0).find 1 := rfl
  rw [this]
  decide +kernel
def uw1 : HM := nwH hwk0 4
def ut0 : TM := TM.fresh 4 1
def uw2 : HM := uw1.putH uw1.arr 0 12
def ul1 : List Ob := [⟨⟨2, 1, 0, 0, 1⟩, [0, 0]⟩, ⟨⟨2, 1, 0, 0, 2⟩, [0, 0]⟩, ⟨⟨2, 1, 0, 0, 3⟩, [0, 0]⟩, ⟨⟨4, 1, 0, 0, 4⟩, [0, 0, 0, 0]⟩]
def ul2 : List Ob := [⟨⟨2, 1, 0, 0, 1⟩, [0, 0]⟩, ⟨⟨2, 1, 0, 0, 2⟩, [0, 0]⟩, ⟨⟨2, 1, 0, 0, 3⟩, [0, 0]⟩, ⟨⟨4, 1, 0, 0, 4⟩, [12, 0, 0, 0]⟩]
def uw3 : HM := colH uw2 ul2
def ul3 : List Ob := [⟨⟨2, 1, 0, 0, 1⟩, [0, 0]⟩, ⟨⟨2, 1, 0, 0, 2⟩, [0, 0]⟩, ⟨⟨4, 1, 0, 0, 4⟩, [12, 0, 0, 0]⟩]
def uw4 : HM := uw3.clrK 0
def ul4 : List Ob := [⟨⟨2, 1, 0, 0, 1⟩, [0, 0]⟩, ⟨⟨2, 1, 0, 0, 2⟩, [0, 0]⟩, ⟨⟨4, 1, 0, 0, 4⟩, [0, 0, 0, 0]⟩]
def uw5 : HM := colH uw4 ul4
theorem u_new : nwE hwk0 4 1 = 0 := by decide +kernel
theorem u_p1 : parseW uw1.words = some ul1 := by kernel_rfl
theorem u_p2 : parseW uw2.words = some ul2 := by kernel_rfl
theorem u_c3 : colL uw2 ul2 = ul3 := by kernel_rfl
theorem u_p4 : parseW uw4.words = some ul4 := by kernel_rfl
theorem u_f1 : findN ul1 2 = 12 := by kernel_rfl
theorem u_f3 : findN ul3 2 = 12 := by kernel_rfl
theorem u_f4 : findN ul4 2 = 12 := by kernel_rfl
theorem u_f5 : findN (colL uw4 ul4) 2 = 0 ∧ findN (colL uw4 ul4) 1 = 2 := by constructor <;> kernel_rfl
theorem u_b1 : brkB uw1 ut0 = false := by decide +kernel
theorem u_i1 : uw1.isB 12 = true := by decide +kernel
theorem u_b2 : (uw2.badA 4 || !uw2.isB (uw2.objK 0)) = false := by decide +kernel
theorem u_b3 : (uw3.badA 4 || !uw3.isB (uw3.objK 0)) = false := by decide +kernel
theorem u_b4 : uw4.badA 4 = false := by decide +kernel
theorem iss_u {n : Nat} (h1 : 1 ≤ n) (h2 : n ≤ 1000000) : issE uw1 ut0 12 n = 0 ∧ issT uw1 ut0 12 n = ut n 0 ∧ issH uw1 ut0 12 n = uw2 ∧ issV uw1 ut0 12 n = 1 := by
  have he : issE uw1 ut0 12 n = 0 := by
    unfold issE
    have hl : leaseB (n : Int) = true := by
      unfold leaseB
      rw [decide_eq_true (by omega), decide_eq_true (by omega)]
      rfl
    rw [u_b1, u_i1, hl, if_neg (by decide), if_neg (by decide), if_neg (by decide), if_neg (by decide +kernel), if_neg (by decide)]
  have hfr : ut0.free = 0 := by decide +kernel
  refine ⟨he, ?_, ?_, ?_⟩
  · unfold issT
    rw [if_pos he, hfr]
    show (⟨(List.replicate 256 (0, 0)).set 0 (1, 0 + n), 4, 2, 0⟩ : TM) = ⟨(1, n) :: List.replicate 255 (0, 0), 4, 2, 0⟩
    rw [Nat.zero_add]
    rfl
  · unfold issH
    rw [if_pos he, hfr]
    rfl
  · unfold issV
    rw [if_pos he]
    rfl
end Go.Proofs.YtlkahgagmfhdaaaGreatDoor

namespace Go.Proofs.YtlkahgagmfhdaaaGreatDoor
open Go.RowKit
attribute [local go_sem] Oper.semAt_some

theorem Live.list {W w : World} {p : HP} {g : Nat} {h : HM} {l : List Ob} (L : Live W w p g h) (hp : parseW h.words = some l) : h.Good l := by
  obtain ⟨l', G⟩ := L.good
  have h1 := parseW_obs G.laid.ok
  rw [← G.laid.words, hp] at h1
  rw [Option.some.inj h1]
  exact G
theorem Live.find {W w : World} {p : HP} {g : Nat} {h : HM} {l : List Ob} (L : Live W w p g h) (G : h.Good l) (s : Nat) (hs : s < 4294967296) : Calls Tryz.prog 25 #[.pointer (some ⟨g, 0, none⟩), .int .u32 (s : Nat)] w (Told (.int .u32 (findN l s : Nat)) w) := by
  have hh := find_any L.at_ G L.envw.spares s hs
  rw [ptr, L.hg] at hh
  exact hh
theorem HT.collect {W w : World} {p : HP} {g gt : Nat} {h : HM} {t : TM} {l : List Ob} (T : HT W w p g gt h t) (G : h.Good l) : Calls Tryz.prog 28 #[.pointer (some ⟨g, 0, none⟩)] w fun e w' => ∃ p', e = .returned (colV h l) ∧ HT W w' p' g gt (colH h l) t ∧ Step p p' w w' :=
  (T.live.collect G).mono fun e w' ⟨p', h1, L', s⟩ => ⟨p', h1, ⟨L', T.tab.same (s.block gt T.tab.lt T.apart), T.ok, T.new⟩, s⟩
set_option maxRecDepth 100000 in
set_option maxHeartbeats 8000000 in
theorem unrootL_any (W : World) (E : Env W) (le re be : Int) : Calls Tryz.prog 4 #[.int .i64 le, .int .i64 re, .int .i64 be] W (Told (.bool true) W) := by
  have HAW := Lib.hid (fun (w : World) (E : Env w) => hawake_any w E)
  have HE := Lib.hid E
  have HNU := Lib.hid (fun E hE w' => hnum_any E hE w')
  by_cases hg : 1 ≤ le ∧ le ≤ 1000000 ∧ 1 ≤ re ∧ re ≤ 1000000 ∧ 0 ≤ be ∧ be < le
  · obtain ⟨g1, g2, g3, g4, g5, g6⟩ := hg
    have HH := Lib.hid (show Calls Tryz.prog 22 #[.agg #[.int .i64 200, .int .i64 3, .int .i64 0, .int .u64 0, .slice none 0 0]] W (HeapsP W 200 3) from heaps_any W E 200 3 0 0 none 0 0)
    obtain ⟨L, rfl⟩ := Int.eq_ofNat_of_zero_le (show 0 ≤ le by omega)
    obtain ⟨R, rfl⟩ := Int.eq_ofNat_of_zero_le (show 0 ≤ re by omega)
    obtain ⟨B, rfl⟩ := Int.eq_ofNat_of_zero_le g5
    have HN := Lib.hid (show 1 ≤ L ∧ L ≤ 1000000 ∧ 1 ≤ R ∧ R ≤ 1000000 ∧ B < L by omega)
    have a1 : IntKind.i64.wrap ((R : Int) - 1) = ((R - 1 : Nat) : Int) := by
      rw [show ((R - 1 : Nat) : Int) = (R : Int) - 1 by omega]
      exact IntWalk.i64_in _ (by omega)
    clear E
    go_enter Tryz.func4, Tryz.ntmps4
    go_wp2_with fail
    refine HH.out.mono ?_
    rintro e w1 (⟨hz, -, -⟩ | ⟨-, -, p1, q1, g, k, rfl, T1, hb1⟩)
    · omega
    have L1 := Lib.hid (show Live W w1 p1 g hwk0 from T1.live)
    have HA1 := Lib.hid (HAW.out w1 T1.live.envw)
    clear T1 hb1 HH g1 g2 g3 g4 g5 g6
    go_wp2_with fail
    refine HA1.out.mono ?_
    rintro e w2 ⟨rfl, hb2⟩
    have L2 := Lib.hid (L1.out.after hb2)
    have HNW := Lib.hid (show Calls Tryz.prog 23 #[.pointer (some ⟨g, 0, none⟩), .int .i64 4, .int .u64 1] w2 (NewP W p1 g hwk0 4 1 w2) from tnew_any L2.out 4 1 (by decide))
    clear hb2 L1 HA1
    go_wp2_with fail
    refine HNW.out.mono ?_
    rintro e w3 (⟨hne, -⟩ | ⟨-, p3, gt, rfl, T3, s3, hgt⟩)
    · exact absurd u_new hne
    have HT3 := Lib.hid (show HT W w3 p3 g gt uw1 ut0 from T3)
    have HF3 := HT3.out.live.find (HT3.out.live.list u_p1) 2 (by decide)
    rw [u_f1] at HF3
    have HF3 := Lib.hid HF3
    clear T3 s3 hgt HNW L2
    go_wp2_with fail
    refine (HNU.out 0 (by decide) _).mono ?_
    rintro e w4 ⟨rfl, rfl⟩
    go_wp2_with fail
    refine HF3.out.mono ?_
    rintro e w4 ⟨rfl, hb4⟩
    have T4 := HT3.out.after hb4
    obtain ⟨i1, i2, i3, i4⟩ := iss_u HN.out.1 HN.out.2.1
    have H4 := tissue_any T4 12 (by decide) L
    rw [i1, i2, i3, i4] at H4
    have HI := Lib.hid H4
    clear T4 hb4 H4 i1 i2 i3 i4 HT3 HF3
    go_wp2_with fail
    refine HI.out.mono ?_
    rintro e w5 ⟨rfl, T5, K5⟩
    have HT5 := Lib.hid T5
    have b5 : brkB uw2 (ut L 0) = false := by rw [brk_ut]; exact u_b2
    have HK5 := Lib.hid (tik_none (m := 0) (n := B) b5 (by have := HN.out; omega) (by have := HN.out; omega))
    have HTK := Lib.hid (ttick_any T5 B (by omega) (by have := HN.out; omega))
    clear T5 K5 HI b5
    go_wp2_with fail
    refine (HNU.out 0 (by decide) _).mono ?_
    rintro e w6 ⟨rfl, rfl⟩
    go_wp2_with fail
    refine HTK.out.mono ?_
    rintro e w6 ⟨v6, rfl, -, T6, K6⟩
    rw [HK5.out.2.1, HK5.out.2.2, Nat.zero_add] at T6
    have G2 := Lib.hid (T6.live.list u_p2)
    have HC6 := Lib.hid (T6.collect G2.out)
    have G3 := Lib.hid (show uw3.Good ul3 by have := col_good G2.out; rw [u_c3] at this; exact this)
    have HAG := Lib.hid (show colH uw3 ul3 = uw3 by have := colH_again G2.out; rw [u_c3] at this; exact this)
    have b7 := Lib.hid (fun e m => show brkB uw3 (ut e m) = false by rw [brk_ut]; exact u_b3)
    clear T6 K6 HTK HT5 HK5
    generalize tikE uw2 (ut L 0) B = E6 at *
    go_wp2_with fail
    refine HC6.out.mono ?_
    rintro e w7 ⟨p7, rfl, T7, s7⟩
    have HT7 := Lib.hid (show HT W w7 p7 g gt uw3 (ut L B) from T7)
    have HF7 := HT7.out.live.find G3.out 2 (by decide)
    rw [u_f3] at HF7
    have HF7 := Lib.hid HF7
    clear T7 s7 HC6
    generalize colV uw2 ul2 = v7 at *
    go_wp2_with fail
    refine HF7.out.mono ?_
    rintro e w8 ⟨rfl, hb8⟩
    have T8 := HT7.out.after hb8
    have hr := rnw_ut (n := R) (b7.out L B) HN.out.2.2.1 HN.out.2.2.2.1
    have H8 := trenew_any T8 1 (by decide) R
    rw [hr.1, hr.2] at H8
    have HR8 := Lib.hid H8
    clear T8 hb8 H8 hr HT7 HF7
    go_wp2_with fail
    refine HR8.out.mono ?_
    rintro e w9 ⟨rfl, T9, K9⟩
    have HK9 := Lib.hid (tik_none (m := B) (n := R - 1) (b7.out (B + R) B) (by have := HN.out; omega) (by have := HN.out; omega))
    have HTK := Lib.hid (ttick_any T9 ((R - 1 : Nat) : Int) (by omega) (by have := HN.out; omega))
    clear T9 K9 HR8
    go_wp2_with fail
    refine (HNU.out 0 (by decide) _).mono ?_
    rintro e w10 ⟨rfl, rfl⟩
    go_wp2_with fail
    refine HTK.out.mono ?_
    rintro e w10 ⟨v10, rfl, -, T10, K10⟩
    rw [HK9.out.2.1, HK9.out.2.2] at T10
    have HC10 := T10.collect G3.out
    rw [HAG.out] at HC10
    have HC10 := Lib.hid HC10
    clear T10 K10 HTK HK9
    generalize tikE uw3 (ut (B + R) B) ((R - 1 : Nat) : Int) = E10 at *
    generalize colV uw3 ul3 = v11 at *
    go_wp2_with fail
    refine HC10.out.mono ?_
    rintro e w11 ⟨p11, rfl, T11, s11⟩
    have HT11 := Lib.hid T11
    have HF11 := T11.live.find G3.out 2 (by decide)
    rw [u_f3] at HF11
    have HF11 := Lib.hid HF11
    clear T11 s11 HC10
    go_wp2_with fail
    refine HF11.out.mono ?_
    rintro e w12 ⟨rfl, hb12⟩
    have T12 := HT11.out.after hb12
    have HK12 := Lib.hid (tik_one (m := B + (R - 1)) (n := 1) (b7.out (B + R) (B + (R - 1))) (by have := HN.out; omega) (by have := HN.out; omega))
    have HTK := Lib.hid (show Calls Tryz.prog 27 #[.pointer (some ⟨gt, 0, none⟩), .int .i64 1] w12 (TickP W p11 g gt uw3 (ut (B + R) (B + (R - 1))) ((1 : Nat) : Int) w12) from ttick_any T12 ((1 : Nat) : Int) (by decide) (by decide))
    clear T12 hb12 HT11 HF11
    go_wp2_with fail
    refine HTK.out.mono ?_
    rintro e w13 ⟨v13, rfl, -, T13, K13⟩
    rw [HK12.out.2.1, HK12.out.2.2] at T13
    have HT13 := Lib.hid (show HT W w13 p11 g gt uw4 (uf (B + (R - 1) + 1)) from T13)
    have H13 := tget_any HT13.out 1 (by decide)
    rw [fnd_uf (by rw [brk_uf]; exact u_b4)] at H13
    have HG13 := Lib.hid H13
    clear T13 K13 H13 HTK HK12
    generalize tikE uw3 (ut (B + R) (B + (R - 1))) ((1 : Nat) : Int) = E13 at *
    generalize gotV uw4 (uf (B + (R - 1) + 1)) 1 = o13 at *
    go_wp2_with fail
    refine HG13.out.mono ?_
    rintro e w14 ⟨rfl, hb14⟩
    have HT14 := Lib.hid (HT13.out.after hb14)
    have G4 := Lib.hid (HT14.out.live.list u_p4)
    have HF14 := HT14.out.live.find G4.out 2 (by decide)
    rw [u_f4] at HF14
    have HF14 := Lib.hid HF14
    clear hb14 HT13 HG13
    go_wp2_with fail
    refine (HNU.out 160 (by decide) _).mono ?_
    rintro e w15 ⟨rfl, rfl⟩
    go_wp2_with fail
    refine HF14.out.mono ?_
    rintro e w15 ⟨rfl, hb15⟩
    have HC15 := Lib.hid ((HT14.out.after hb15).collect G4.out)
    clear hb15 HT14 HF14
    generalize colV uw4 ul4 = v16 at *
    go_wp2_with fail
    refine HC15.out.mono ?_
    rintro e w16 ⟨p16, rfl, T16, s16⟩
    have HT16 := Lib.hid T16
    have HF16 := T16.live.find (col_good G4.out) 2 (by decide)
    rw [u_f5.1] at HF16
    have HF16 := Lib.hid HF16
    clear T16 s16 HC15
    go_wp2_with fail
    refine HF16.out.mono ?_
    rintro e w17 ⟨rfl, hb17⟩
    have HT17 := Lib.hid (HT16.out.after hb17)
    have HF17 := HT17.out.live.find (col_good G4.out) 1 (by decide)
    rw [u_f5.2] at HF17
    have HF17 := Lib.hid HF17
    clear hb17 HT16 HF16
    go_wp2_with fail
    refine HF17.out.mono ?_
    rintro e w18 ⟨rfl, hb18⟩
    have HB18 := Lib.hid (HT17.out.after hb18).live.below
    clear hb18 HF17
    go_wp2_with fail
    go_ret
    exact ⟨rfl, HB18.out⟩
  · have hc : le < 1 ∨ (¬ le < 1 ∧ 1000000 < le) ∨ (¬ le < 1 ∧ ¬ 1000000 < le ∧ re < 1) ∨ (¬ le < 1 ∧ ¬ 1000000 < le ∧ ¬ re < 1 ∧ 1000000 < re) ∨ (¬ le < 1 ∧ ¬ 1000000 < le ∧ ¬ re < 1 ∧ ¬ 1000000 < re ∧ be < 0) ∨ (¬ le < 1 ∧ ¬ 1000000 < le ∧ ¬ re < 1 ∧ ¬ 1000000 < re ∧ ¬ be < 0 ∧ le ≤ be) := by omega
    have HA := Lib.hid (HAW.out W E)
    clear hg E
    rcases hc with h1 | ⟨h1, h2⟩ | ⟨h1, h2, h3⟩ | ⟨h1, h2, h3, h4⟩ | ⟨h1, h2, h3, h4, h5⟩ | ⟨h1, h2, h3, h4, h5, h6⟩
    all_goals
      go_enter Tryz.func4, Tryz.ntmps4
      go_wp2_with fail
      refine HA.out.mono ?_
      rintro e w2 ⟨rfl, hb2⟩
      have HB2 := Lib.hid hb2
      clear hb2
      go_wp2_with fail
      go_ret
      exact ⟨rfl, HB2.out⟩
theorem unrootC_any (W : World) (E : Env W) (le : Int) (_ : (Lit.int .i64 le).wf = true) (re : Int) (_ : (Lit.int .i64 re).wf = true) (be : Int) (_ : (Lit.int .i64 be).wf = true) : Calls Tryz.prog 4 #[.int .i64 le, .int .i64 re, .int .i64 be] W (Told (.bool true) W) := unrootL_any W E le re be
end Go.Proofs.YtlkahgagmfhdaaaGreatDoor
