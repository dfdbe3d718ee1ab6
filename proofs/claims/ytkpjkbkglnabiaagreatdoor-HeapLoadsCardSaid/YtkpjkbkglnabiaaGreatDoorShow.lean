/- Show of the program's heap. -/
import Derived.Test.YtkpjkbkglnabiaaGreatDoorText
import Derived.Test.YtkpjkbkglnabiaaGreatDoorTail
import Derived.Test.YtkpjkbkglnabiaaGreatDoorGet
import Derived.Deep.LoopGhost
set_option linter.unusedVariables false
namespace Go.Proofs.YtkpjkbkglnabiaaGreatDoor
open Go.RowKit Go.Sort Go.Lib

theorem oopT_len (o : Nat) (ho : o < 4294967296) : (oopT o).length ≤ 22 := by
  unfold oopT
  split
  · simp
  · split
    · have h1 := smallV_lo o ho
      have h2 := smallV_hi o ho
      have := Lib.itoa_length_le (smallV o) (by omega) (by omega)
      omega
    · have := Lib.itoa_length_le ((o / 2 : Nat) : Int) (by omega) (by omega)
      rw [List.length_cons]; omega
theorem HM.elT_len {h : HM} (f : h.Fit) (o : Nat) (i : Int) : (h.elT o i).length ≤ 22 := by
  unfold HM.elT
  have b1 := h.byteN_lt o i
  have b2 := HM.readN_lt f o i [3]
  have b3 := HM.readN_lt f o i [1, 4]
  split
  · have := Lib.itoa_length_le (h.byteN o i : Nat) (by omega) (by omega); omega
  · split
    · have := Lib.itoa_length_le (h.readN o i [3] : Nat) (by omega) (by omega); omega
    · exact oopT_len _ b3

/-- The formats' names. -/
def fmtT (t : Nat) : List UInt8 := [[], [112, 111, 105, 110, 116, 101, 114, 115], [98, 121, 116, 101, 115], [119, 111, 114, 100, 115], [119, 101, 97, 107]].getD t []
def HM.headT (h : HM) (o : Nat) : List UInt8 :=
  oopT o ++ 32 :: 35 :: Lib.itoa ((h.hd (o / 2)).ser : Nat) ++ 32 :: fmtT (h.hd (o / 2)).fmt ++ 32 :: Lib.itoa ((h.hd (o / 2)).len : Nat) ++ 32 :: [99, 108, 97, 115, 115] ++ 32 :: oopT (h.hd (o / 2)).cls
/-- The text up to element k. -/
def HM.upT (h : HM) (o : Nat) (k : Nat) : List UInt8 := (List.range k).flatMap fun i : Nat => 32 :: h.elT o (i : Int)
def HM.showT (h : HM) (o : Nat) : List UInt8 := h.headT o ++ (if (h.hd (o / 2)).len = 0 then [] else 58 :: h.upT o (h.hd (o / 2)).len)
def HM.showV (h : HM) (o : Nat) : Value := if h.isB o then .tuple #[str (h.showT o), .int .i64 0] else .tuple #[str [], .int .i64 3]
def HM.partT (h : HM) (o : Nat) (k : Nat) : List UInt8 := h.headT o ++ (if k = 0 then [] else 58 :: h.upT o k)
theorem HM.upT_succ (h : HM) (o k : Nat) : h.upT o (k + 1) = h.upT o k ++ 32 :: h.elT o k := by
  unfold HM.upT
  rw [List.range_succ, List.flatMap_append]
  simp
theorem HM.upT_len {h : HM} (f : h.Fit) (o k : Nat) : (h.upT o k).length ≤ 23 * k := by
  induction k with
  | zero => simp [HM.upT]
  | succ k ih =>
    rw [HM.upT_succ]
    have := HM.elT_len f o k
    simp; omega
theorem join_head (a b c d e g : List UInt8) : Lib.join [a, 35 :: b, c, d, e, g] [32] = a ++ 32 :: 35 :: b ++ 32 :: c ++ 32 :: d ++ 32 :: e ++ 32 :: g := by
  simp [Lib.join, List.intercalate]

theorem join6 (w : World) (x : Unit) (e : TypeId) (a b c d f : List UInt8) (hl : a.length + b.length + c.length + d.length + f.length ≤ 1000) :
    Calls Tryz.prog 71 #[.slice (some ⟨w.heap.size, 0, none⟩) 6 6, .string ⟨#[32]⟩]
      (w.alloc (.cells #[.string ⟨a.toArray⟩, .string ((⟨#[35]⟩ : ByteArray) ++ ⟨b.toArray⟩), .string ⟨c.toArray⟩, .string ⟨d.toArray⟩, .string ⟨#[99, 108, 97, 115, 115]⟩, .string ⟨f.toArray⟩] e))
      fun d' w' => d' = .returned (str (a ++ 32 :: 35 :: b ++ 32 :: c ++ 32 :: d ++ 32 :: [99, 108, 97, 115, 115] ++ 32 :: f)) ∧ Below w.heap.size w w' := by
  have hj := join_head a b c d [99, 108, 97, 115, 115] f
  have key := Tryz.strings_Join w.heap.size 0 6 [⟨a.toArray⟩, ⟨(35 :: b).toArray⟩, ⟨c.toArray⟩, ⟨d.toArray⟩, ⟨#[99, 108, 97, 115, 115]⟩, ⟨f.toArray⟩] ⟨#[32]⟩
    (w.alloc (.cells #[.string ⟨a.toArray⟩, .string ((⟨#[35]⟩ : ByteArray) ++ ⟨b.toArray⟩), .string ⟨c.toArray⟩, .string ⟨d.toArray⟩, .string ⟨#[99, 108, 97, 115, 115]⟩, .string ⟨f.toArray⟩] e))
    (fun j u hj => by
      have e35 : ((⟨#[35]⟩ : ByteArray) ++ ⟨b.toArray⟩) = ⟨(35 :: b).toArray⟩ := str_add [35] b
      rw [Nat.zero_add, (Blk.new w _ _).cell, e35]
      have hlt : j < 6 := by simpa using (List.getElem?_eq_some_iff.1 hj).1
      rcases (by omega : j = 0 ∨ j = 1 ∨ j = 2 ∨ j = 3 ∨ j = 4 ∨ j = 5) with h | h | h | h | h | h <;> subst h <;> simp at hj ⊢ <;> exact hj)
    (by simp) (by simp) (by simp) (by simp [hj]; omega)
  refine key.mono fun d' w' ⟨he, hb⟩ => ⟨?_, ((Below.refl _ _).alloc (Nat.le_refl _) _).trans (hb.mono (by simp))⟩
  rw [he]
  unfold str
  have : List.map (fun x : ByteArray => x.data.toList) [⟨a.toArray⟩, ⟨(35 :: b).toArray⟩, ⟨c.toArray⟩, ⟨d.toArray⟩, ⟨#[99, 108, 97, 115, 115]⟩, ⟨f.toArray⟩] = [a, 35 :: b, c, d, [99, 108, 97, 115, 115], f] := by simp
  rw [this, hj]

set_option maxRecDepth 100000 in
set_option maxHeartbeats 8000000 in
theorem show_any {w : World} {p : HP} {h : HM} (H : HAt w p h) (f : h.Fit) (hh : h.Heads) (hs : Spares w) (hp : Pow w) (o : Nat) (ho : o < 4294967296) :
    Calls Tryz.prog 27 #[ptr p.g, .int .u32 o] w fun e w' => e = .returned (h.showV o) ∧ Below w.heap.size w w' := by
  have HC := Lib.hid (Header_any H f hh hs o ho)
  cases hi : h.isB o
  · have HH := Lib.hid (show h.headerV o = .tuple #[.agg #[.int .i64 0, .int .i64 0, .int .i64 0, .int .u32 0, .int .u32 0], .int .i64 3] by simp [HM.headerV, hi])
    have HF := Lib.hid (show h.showV o = .tuple #[str [], .int .i64 3] by simp [HM.showV, hi])
    rw [HH.out] at HC
    clear HH hi
    unfold ptr at HC ⊢
    go_enter Tryz.func27, Tryz.ntmps27
    go_wp2_with fail
    refine HC.out.mono ?_
    rintro e w1 ⟨rfl, hb1⟩
    go_wp2_with fail
    go_ret2
    exact ⟨by rw [HF.out]; rfl, hb1.alloc hb1.size _⟩
  · have hd := HM.isB_hd hh hi
    have HH := Lib.hid (show h.headerV o = .tuple #[(h.hd (o / 2)).val, .int .i64 0] by simp [HM.headerV, hi])
    have HX := Lib.hid (show (h.hd (o / 2)).val = .agg #[.int .i64 (h.hd (o / 2)).size, .int .i64 (h.hd (o / 2)).fmt, .int .i64 (h.hd (o / 2)).spare, .int .u32 (h.hd (o / 2)).cls, .int .u32 (h.hd (o / 2)).ser] from rfl)
    have hfit := HM.hd_fit f (o / 2)
    have HFIT := Lib.hid hfit
    have hmay : (h.hd (o / 2)).may = true := by have := hd.2; unfold okhd at this; simp only [Bool.and_eq_true] at this; exact this.1
    have hf4 : (h.hd (o / 2)).fmt ≤ 4 ∧ 1 ≤ (h.hd (o / 2)).fmt ∧ (h.hd (o / 2)).size ≤ 65535 := by
      unfold Hd.may at hmay
      simp only [Bool.and_eq_true, Bool.or_eq_true, decide_eq_true_eq] at hmay
      omega
    have hlen : (h.hd (o / 2)).len ≤ 262140 := by unfold Hd.len; split <;> omega
    have HFV := Lib.hid (show h.showV o = .tuple #[str (h.showT o), .int .i64 0] by simp [HM.showV, hi])
    have HEL := Lib.hid (fun w' (hb : Below w.heap.size w w') (i : Int) => element_any (H.below hb) f hh (hs.below hb) (hp.below hb) o ho i)
    have HLN := Lib.hid (fun w' => length_any (h.hd (o / 2)) hfit (fun e => hd.sane e) w')
    have hc := hfit.cls
    have hr := hfit.ser
    have HO := Lib.hid (fun w' (hb : Below w.heap.size w w') => oshow_any o ho w' (hp.below hb))
    have HOC := Lib.hid (fun w' (hb : Below w.heap.size w w') => oshow_any (h.hd (o / 2)).cls hc w' (hp.below hb))
    have HIS := Lib.hid (fun w' (hb : Below w.heap.size w w') => itoa_any ((h.hd (o / 2)).ser : Nat) (by omega) (by omega) w' (hp.below hb))
    have HIL := Lib.hid (fun w' (hb : Below w.heap.size w w') => itoa_any ((h.hd (o / 2)).len : Nat) (by omega) (by omega) w' (hp.below hb))
    have hl1 := Lib.itoa_length_le ((h.hd (o / 2)).ser : Nat) (by omega) (by omega)
    have hl2 := Lib.itoa_length_le ((h.hd (o / 2)).len : Nat) (by omega) (by omega)
    have hl3 := oopT_len o ho
    have hl4 := oopT_len _ hc
    have hl5 : (fmtT (h.hd (o / 2)).fmt).length ≤ 8 := by
      have := hf4.1
      rcases (by omega : (h.hd (o / 2)).fmt = 0 ∨ (h.hd (o / 2)).fmt = 1 ∨ (h.hd (o / 2)).fmt = 2 ∨ (h.hd (o / 2)).fmt = 3 ∨ (h.hd (o / 2)).fmt = 4) with e | e | e | e | e <;> rw [e] <;> decide
    have HHL := Lib.hid (show (h.headT o).length ≤ 200 by unfold HM.headT; simp; omega)
    have HHT := Lib.hid (show h.headT o = oopT o ++ 32 :: 35 :: Lib.itoa ((h.hd (o / 2)).ser : Nat) ++ 32 :: fmtT (h.hd (o / 2)).fmt ++ 32 :: Lib.itoa ((h.hd (o / 2)).len : Nat) ++ 32 :: [99, 108, 97, 115, 115] ++ 32 :: oopT (h.hd (o / 2)).cls from rfl)
    have hn1 : ¬ 9223372036854775807 < 1 + (Lib.itoa ((h.hd (o / 2)).ser : Nat)).length := by omega
    have HST := Lib.hid (show h.showT o = h.partT o (h.hd (o / 2)).len from rfl)
    rw [HH.out, HX.out] at HC
    rw [HX.out] at HEL HLN
    clear HH hi hd hmay hl2 hl3 hl4 hl5
    generalize h.hd (o / 2) = x at *
    have HLEN := Lib.hid (show ∃ L, x.len = L from ⟨_, rfl⟩)
    generalize x.len = L at *
    obtain ⟨S, t, s, c, r⟩ := x
    dsimp only at *
    have hf5 := hf4.1
    have hf6 : (t : Int) < 5 := by omega
    have hf7 : (0 : Int) ≤ (t : Int) := by omega
    clear hfit hf4
    unfold ptr at HC HEL ⊢
    unfold str at HO HOC HIS HIL
    go_enter Tryz.func27, Tryz.ntmps27
    go_wp2_with fail
    refine HC.out.mono ?_
    rintro e w1 ⟨rfl, hb1⟩
    go_wp2_with fail
    have hb := ((hb1.alloc hb1.size (.cells #[.int .i64 S, .int .i64 t, .int .i64 s, .int .u32 c, .int .u32 r] 101)).alloc (by have := hb1.size; simp; omega) (.cells #[.string ⟨#[]⟩, .string ⟨#[112, 111, 105, 110, 116, 101, 114, 115]⟩, .string ⟨#[98, 121, 116, 101, 115]⟩, .string ⟨#[119, 111, 114, 100, 115]⟩, .string ⟨#[119, 101, 97, 107]⟩] 114))
    obtain ⟨N1, hN1⟩ : ∃ N1, w1.heap.size = N1 := ⟨_, rfl⟩
    have B1 := (Blk.new w1 101 #[.int .i64 S, .int .i64 t, .int .i64 s, .int .u32 c, .int .u32 r]).alloc (.cells #[.string ⟨#[]⟩, .string ⟨#[112, 111, 105, 110, 116, 101, 114, 115]⟩, .string ⟨#[98, 121, 116, 101, 115]⟩, .string ⟨#[119, 111, 114, 100, 115]⟩, .string ⟨#[119, 101, 97, 107]⟩] 114)
    have B2 := Blk.new (w1.alloc (.cells #[.int .i64 S, .int .i64 t, .int .i64 s, .int .u32 c, .int .u32 r] 101)) 114 #[.string ⟨#[]⟩, .string ⟨#[112, 111, 105, 110, 116, 101, 114, 115]⟩, .string ⟨#[98, 121, 116, 101, 115]⟩, .string ⟨#[119, 111, 114, 100, 115]⟩, .string ⟨#[119, 101, 97, 107]⟩]
    rw [show (w1.alloc (.cells #[.int .i64 S, .int .i64 t, .int .i64 s, .int .u32 c, .int .u32 r] 101)).heap.size = N1 + 1 by simp [hN1]] at B2
    rw [hN1] at B1 ⊢
    have hNw : w.heap.size ≤ N1 := hN1 ▸ hb1.size
    generalize ((w1.alloc (.cells #[.int .i64 S, .int .i64 t, .int .i64 s, .int .u32 c, .int .u32 r] 101)).alloc (.cells #[.string ⟨#[]⟩, .string ⟨#[112, 111, 105, 110, 116, 101, 114, 115]⟩, .string ⟨#[98, 121, 116, 101, 115]⟩, .string ⟨#[119, 111, 114, 100, 115]⟩, .string ⟨#[119, 101, 97, 107]⟩] 114)) = W2 at *
    clear hb1 hN1
    have ct : W2.cell? ⟨N1 + 1, t, none⟩ = some (.string ⟨(fmtT t).toArray⟩) := by
      rcases (by omega : t = 0 ∨ t = 1 ∨ t = 2 ∨ t = 3 ∨ t = 4) with e | e | e | e | e <;> subst e
      · exact B2.cell 0
      · exact B2.cell 1
      · exact B2.cell 2
      · exact B2.cell 3
      · exact B2.cell 4
    obtain ⟨d0, d1, d2, d3, d4⟩ := B1.cells5
    have k0 := cell_regrown d0
    have k1 := cell_regrown d1
    have k2 := cell_regrown d2
    have k3 := cell_regrown d3
    have k4 := cell_regrown d4
    have kt := cell_regrown ct
    have hbr := fun d os => hb.trans ((below_regrown W2 d os).mono hb.size)
    have HBR := Lib.hid hbr
    have cO : ∀ d os, Calls Tryz.prog 68 #[.int .u32 o] (grow (redrawn W2 d) os) fun e w'' => e = .returned (.string ⟨(oopT o).toArray⟩) ∧ ∃ p : Regrown, w'' = grow (redrawn W2 p.d) p.os := fun d os => Calls.regrown_of (HO.out _ (HBR.out d os))
    have cC : ∀ d os, Calls Tryz.prog 68 #[.int .u32 c] (grow (redrawn W2 d) os) fun e w'' => e = .returned (.string ⟨(oopT c).toArray⟩) ∧ ∃ p : Regrown, w'' = grow (redrawn W2 p.d) p.os := fun d os => Calls.regrown_of (HOC.out _ (HBR.out d os))
    have cS : ∀ d os, Calls Tryz.prog 69 #[.int .i64 r] (grow (redrawn W2 d) os) fun e w'' => e = .returned (.string ⟨(itoa r).toArray⟩) ∧ ∃ p : Regrown, w'' = grow (redrawn W2 p.d) p.os := fun d os => Calls.regrown_of (HIS.out _ (HBR.out d os))
    have cL : ∀ d os, Calls Tryz.prog 69 #[.int .i64 L] (grow (redrawn W2 d) os) fun e w'' => e = .returned (.string ⟨(itoa L).toArray⟩) ∧ ∃ p : Regrown, w'' = grow (redrawn W2 p.d) p.os := fun d os => Calls.regrown_of (HIL.out _ (HBR.out d os))
    have cN : ∀ d os, Calls Tryz.prog 70 #[.agg #[.int .i64 S, .int .i64 t, .int .i64 s, .int .u32 c, .int .u32 r]] (grow (redrawn W2 d) os) fun e w'' => e = .returned (.int .i64 L) ∧ ∃ p : Regrown, w'' = grow (redrawn W2 p.d) p.os := fun d os => Calls.regrown_of (HLN.out _)
    have CO := Lib.hid cO
    have CC := Lib.hid cC
    have CS := Lib.hid cS
    have CL := Lib.hid cL
    have CN := Lib.hid cN
    have v1 : IntKind.i64.wrap (r : Int) = (r : Int) := IntWalk.i64_in _ (by omega)
    have HB := Lib.hid hb
    have HB1 := Lib.hid B1
    clear cO cC cS cL cN hbr hb B1 B2
    refine wp_region_below_tail 17 (by kernel_rfl) (by kernel_rfl) ?_
    simp only [List.take_succ_cons, List.take_zero, List.drop_succ_cons, List.drop_zero]
    repeat (quiet_step (first | with_reducible exact CO.out _ _ | with_reducible exact CC.out _ _ | with_reducible exact CS.out _ _ | with_reducible exact CL.out _ _ | with_reducible exact CN.out _ _))
    refine wpQuiet_nil ?_
    intro _ hw'
    obtain ⟨⟨dq, osq⟩, hw''⟩ := hw'
    subst hw''
    have HBq := HBR.out dq osq
    have BQ : Blk (grow (redrawn W2 dq) osq) N1 101 #[.int .i64 S, .int .i64 t, .int .i64 s, .int .u32 c, .int .u32 r] := Eq.trans ((below_regrown W2 dq osq).block N1 (Blk.lt HB1.out)) HB1.out
    generalize grow (redrawn W2 dq) osq = wq at HBq BQ ⊢
    clear k0 k1 k2 k3 k4 kt d0 d1 d2 d3 d4 ct CO CC CS CL CN HB HB1 HBR
    have HJ := Lib.hid (fun x => join6 wq x 9 (oopT o) (Lib.itoa (r : Int)) (fmtT t) (Lib.itoa (L : Int)) (oopT c) (by have := HHL.out; rw [HHT.out] at this; simp at this ⊢; omega))
    go_wp2_with fail
    refine (HJ.out ()).mono ?_
    rintro e w3 ⟨rfl, hb3⟩
    have hb4 := below_top HBq hb3
    have B3 := BQ.below hb3 BQ.lt
    rw [← HHT.out]
    unfold str
    clear hb3 BQ HBq
    obtain ⟨d0, d1, d2, d3, d4⟩ := B3.cells5
    go_wp2_with fail
    refine (HLN.out _).mono ?_
    rintro e w4 ⟨rfl, hb5⟩
    have hb6 := below_top hb4 hb5
    have B4 := B3.below hb5 B3.lt
    have HB6 := Lib.hid hb6
    have HB4 := Lib.hid B4
    have HP0 := Lib.hid (show h.headT o = h.partT o 0 by simp [HM.partT])
    rw [HP0.out]
    clear hb4 hb5 hb6 B3 B4 d0 d1 d2 d3 d4 v1
    go_wp2_with fail
    go_loopw [10, 44] (fun tx i wr => ∃ k : Nat, k ≤ L ∧ i = .int .i64 k ∧ tx = .string ⟨(h.partT o k).toArray⟩ ∧ Blk wr N1 101 #[.int .i64 S, .int .i64 t, .int .i64 s, .int .u32 c, .int .u32 r] ∧ Below w.heap.size w wr) (fun _ i _ => L - (Go.Lib.intOf i).toNat)
    case atStart => exact ⟨0, by omega, rfl, rfl, HB4.out, HB6.out⟩
    case round =>
      clear HB4 HB6
      obtain ⟨k, hk, rfl, rfl, B5, hb7⟩ := hrel
      by_cases hlt : k < L
      · have HE := Lib.hid (HEL.out _ hb7 (k : Int))
        have hw : h.partT o (k + 1) = h.partT o k ++ (if k = 0 then [58] else []) ++ 32 :: h.elT o k := by
          unfold HM.partT
          rw [if_neg (by omega), HM.upT_succ]
          by_cases h0 : k = 0
          · subst h0; simp [HM.upT]
          · rw [if_neg h0, if_neg h0]; simp
        have HW := Lib.hid hw
        have hpl : (h.partT o k).length ≤ 8000000 := by
          unfold HM.partT
          have := HHL.out
          have := HM.upT_len f o k
          split <;> simp <;> omega
        have hel := HM.elT_len f o (k : Int)
        obtain ⟨d0, d1, d2, d3, d4⟩ := B5.cells5
        have B5' := Lib.hid B5
        have HB7 := Lib.hid hb7
        generalize hPT : h.partT o k = PT at *
        generalize hET : h.elT o (k : Int) = ET at *
        have n1 : ¬ 9223372036854775807 < PT.length + 1 := by omega
        have n2 : ¬ 9223372036854775807 < 1 + ET.length := by omega
        have n3 : ¬ 9223372036854775807 < PT.length + (1 + ET.length) := by omega
        have n4 : ¬ 9223372036854775807 < PT.length + 1 + (1 + ET.length) := by omega
        clear hPT hET hw hpl hel hb7 B5
        unfold str at HE
        by_cases h0 : k = 0
        · subst h0
          rw [if_pos rfl] at HW
          go_wp2_with fail
          refine HE.out.mono ?_
          rintro e w6 ⟨rfl, hb8⟩
          go_wp2_with fail
          go_roundw
          case rel => exact ⟨0 + 1, by omega, rfl, by rw [HW.out, ← str_add, ← str_add]; rfl, B5'.out.below hb8 B5'.out.lt, below_top HB7.out hb8⟩
          case measure => simp [Go.Lib.intOf]; omega
        · rw [if_neg h0] at HW
          have ki : ((k : Int) == 0) = false := by simp; omega
          clear h0
          go_wp2_with fail
          refine HE.out.mono ?_
          rintro e w6 ⟨rfl, hb8⟩
          go_wp2_with fail
          go_roundw
          case rel => exact ⟨k + 1, by omega, by go_num, by rw [HW.out, List.append_nil, ← str_add]; rfl, B5'.out.below hb8 B5'.out.lt, below_top HB7.out hb8⟩
          case measure => simp [Go.Lib.intOf]; omega
      · obtain rfl : k = L := by omega
        have HB7 := Lib.hid hb7
        rw [← HST.out]
        clear hb7 B5
        go_wp2_with fail
        go_ret2
        exact ⟨by rw [HFV.out]; rfl, HB7.out⟩
end Go.Proofs.YtkpjkbkglnabiaaGreatDoor
