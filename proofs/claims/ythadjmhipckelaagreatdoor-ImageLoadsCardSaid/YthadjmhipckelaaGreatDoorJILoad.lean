import Derived.Test.YthadjmhipckelaaGreatDoorJIParse
import Derived.Test.YthadjmhipckelaaGreatDoorJISave
set_option linter.unusedVariables false
set_option linter.unusedSimpArgs false
namespace Go.Proofs.YthadjmhipckelaaGreatDoor
section
open Go.RowKit
attribute [local go_sem] Oper.semAt_some
noncomputable def ildE (b : List Nat) (size : Int) : Nat := if size < 64 ∨ 1048576 < size then 1 else takeE b size.toNat
def ILoadP (b : List Nat) (size : Int) (w : World) (e : Ending) (w' : World) : Prop :=
 Below w.heap.size w w' ∧ ((ildE b size ≠ 0 ∧ e = .returned (.tuple #[.pointer none, .int .i64 (ildE b size : Nat)])) ∨
  (ildE b size = 0 ∧ ∃ (p : HP) (l : List Ob), e = .returned (.tuple #[ptr p.g, .int .i64 0]) ∧ (takeH b size.toNat).Good l ∧ HAt w' p (takeH b size.toNat) ∧ ∀ k, p.has k → w.heap.size ≤ k))
set_option maxRecDepth 100000 in
set_option maxHeartbeats 4000000 in
theorem iload_any {w : World} {n c : Nat} {A : Option Addr} {bs : List Nat} (size : Int) (hs : Spares w) (hr : Reads w w.heap.size 1 A n (u8c bs)) (hA : 0 < n → ∃ g0 o0, A = some ⟨g0, o0, none⟩) (hc : n ≤ c) (hn : n ≤ 9223372036854775807) (h8 : ∀ x ∈ bs, x < 256) :
 Calls Tryz.prog 4 #[.slice A n c, .int .i64 size] w (ILoadP bs size w) := by
 by_cases hsz : size < 64 ∨ 1048576 < size
 ·have HF := Lib.hid (show ildE bs size = 1 from if_pos hsz)
  by_cases h0 : size < 64
  ·have hd1 : decide (size < 64) = true := by simpa using h0
   clear hsz h0 hs hr hA hc hn h8
   go_enter Tryz.func4, Tryz.ntmps4
   go_wp2_with fail
   go_ret2
   exact ⟨Below.refl _ _, .inl ⟨by rw [HF.out]; decide, by rw [HF.out]; rfl⟩⟩
  ·have hd1 : decide (size < 64) = false := by simpa using h0
   have hd2 : 1048576 < size := by omega
   clear hsz h0 hs hr hA hc hn h8
   go_enter Tryz.func4, Tryz.ntmps4
   go_wp2_with fail
   go_ret2
   exact ⟨Below.refl _ _, .inl ⟨by rw [HF.out]; decide, by rw [HF.out]; rfl⟩⟩
 ·obtain ⟨s, hs'⟩ := Int.eq_ofNat_of_zero_le (show 0 ≤ size by omega)
  subst hs'
  have h1 : 64 ≤ s := by omega
  have h2 : s ≤ 1048576 := by omega
  have HF := Lib.hid (show ildE bs (s : Int) = takeE bs s from (if_neg hsz).trans (by rw [Int.toNat_natCast]))
  have HT := Lib.hid (take_any hs hr hA hc hn h8 h1 h2)
  have hd1 : decide ((s : Int) < 64) = false := by simp; omega
  have hd2 : decide ((s : Int) > 1048576) = false := by simp; omega
  clear hsz hs hr hA hc hn h8 h1 h2
  unfold ILoadP
  rw [Int.toNat_natCast, HF.out]
  go_enter Tryz.func4, Tryz.ntmps4
  go_wp2_with fail
  refine HT.out.mono ?_
  rintro e w1 ⟨hb1, ⟨h3, rfl⟩ | ⟨h3, r, l, p, A1, A2, n1, c1, n2, c2, hr, hG, rfl, hat, hnew⟩⟩
  ·have HB := Lib.hid (hb1.alloc hb1.size (.cells #[.int .i64 0, .int .i64 0, .int .u32 0, .slice none 0 0, .slice none 0 0] 47))
   have H3 := Lib.hid h3
   clear hb1 h3 HT HF
   unfold rdV
   go_wp2_with fail
   go_ret2
   exact ⟨HB.out, .inl ⟨H3.out, rfl⟩⟩
  ·have HB1 := Lib.hid hb1
   have HBX := Lib.hid ((Below.refl w1.heap.size w1).alloc (Nat.le_refl _) (.cells #[.int .i64 r.ver, .int .i64 l.length, .int .u32 r.last, .slice A1 n1 c1, .slice A2 n2 c2] 47))
   have HG := Lib.hid hG
   have HAT := Lib.hid hat
   have HNW := Lib.hid hnew
   have H3 := Lib.hid h3
   clear hb1 hG hat hnew h3 HF HT
   unfold ptr
   go_wp2_with fail
   go_ret2
   exact ⟨below_top HB1.out HBX.out, .inr ⟨H3.out, p, l, rfl, HG.out, HAT.out.below HBX.out, HNW.out⟩⟩
end
end Go.Proofs.YthadjmhipckelaaGreatDoor
