/- p[1:] of a []int, and a way from a beginning. -/
import Derived.Test.YtpajpdjjpgbklaaDoorJValues
import Derived.Test.YtpajpdjjpgbklaaDoorJFollow
import Derived.Test.YtpajpdjjpgbklaaDoorJDiffW
import Derived.Lib.QuietBelow
set_option linter.unusedVariables false
namespace Go.Proofs.YtpajpdjjpgbklaaDoor
open Go.RowKit
attribute [local go_sem] Oper.semAt_some

theorem slice_from1 (wx : World) (ad : Addr) (n c : Nat) (hn : 1 ≤ n) :
    (Instr.slice 33 (.slice (some ad) n c) (some (.int .i64 1)) none none).run Tryd.prog wx = .ok (.slice (if c = 1 then some ad else some (ad.add 1)) (n - 1) (c - 1)) wx := by
  obtain ⟨i0, hi0, hz0, hz1, hz2⟩ := info_parts info_int
  have he : Program.elem Tryd.prog 33 = 3 := by simp [Program.elem, Tryd.underlying33]
  have hz : ∀ w, (Go.sizeOf 3).run Tryd.prog w = .ok 1 w := fun w => by go_simp
  rw [run_slice_l (P := Tryd.prog) wx 33 (some ad) n c (by rw [he]; exact Tryd.underlying33) .i64 1 (by omega) (by omega), he, hz]
  simp only [Result.andThen, sliced]
  simp
theorem reads_tail {w : World} {B n c : Nat} {ad : Addr} {k : Int} {r : List Int} (h : Reads w B 1 (some ad) n (intZ (k :: r))) (hc : n ≤ c) : Reads w B 1 (if c = 1 then some ad else some (ad.add 1)) (n - 1) (intZ r) := by
  have hl : r.length + 1 = n := by have := h.1; rw [intZ_len, List.length_cons] at this; omega
  refine ⟨by rw [intZ_len]; omega, fun hn => ?_⟩
  obtain ⟨ad', e, hb, hx⟩ := h.2 (by omega)
  injection e with e
  subst e
  have hc1 : ¬ c = 1 := by omega
  rw [if_neg hc1]
  refine ⟨ad.add 1, rfl, by rw [block_of_add]; exact hb, fun j u hu => ?_⟩
  have := hx (j + 1) u (by simpa [intZ] using hu)
  rw [show (ad.add 1).add j = ad.add (j + 1) by simp [Addr.add, Nat.add_assoc, Nat.add_comm 1 j]]
  exact this
theorem follow_to {w : World} {p : HP} {h : HM} {ls : List Ob} (H : HAt w p h) (G : h.Good ls) (hs : Spares w) {o u : Nat} (ho : o < 4294967296) (A : Option Addr) (n c : Nat) {path : List Int} (hn : n ≤ 9223372036854775807) (hr : Reads w w.heap.size 1 A n (intZ path)) (hf : h.followM o path = (u, 0)) :
    Calls Tryd.prog 17 #[ptr p.g, .int .u32 o, .slice A n c] w (Told (.tuple #[.int .u32 (u : Nat), .int .i64 0]) w) := by
  have := follow_any (c := c) H G.fit G.laid.heads hs o ho A n path hn hr
  rw [hf] at this
  exact this
/-- In a round of reads. -/
theorem follow_tail {w : World} {p : HP} {h : HM} {ls : List Ob} (H : HAt w p h) (G : h.Good ls) (hs : Spares w) {o u : Nat} (ho : o < 4294967296) {ad : Addr} {n c : Nat} {k : Int} {r : List Int} (hn : n ≤ 9223372036854775807) (hr : Reads w w.heap.size 1 (some ad) n (intZ (k :: r))) (hc : n ≤ c) (hf : h.followM o r = (u, 0)) (d : Nat) (os : Array Obj) :
    Calls Tryd.prog 17 #[ptr p.g, .int .u32 o, .slice (if c = 1 then some ad else some (ad.add 1)) (n - 1) (c - 1)] (Go.Sort.grow (redrawn w d) os) (Told (.tuple #[.int .u32 (u : Nat), .int .i64 0]) (Go.Sort.grow (redrawn w d) os)) := by
  have hb := below_regrown w d os
  exact follow_to (H.below hb) G (hs.below hb) ho _ _ _ (by omega) (((reads_tail hr hc).below hb).more hb.size) hf
/-- What Header answers, as one value. -/
theorem header_is (h : HM) (o : Nat) : ∃ (X : Hd) (E : Int), h.headerV o = .tuple #[.agg #[.int .i64 X.size, .int .i64 X.fmt, .int .i64 X.spare, .int .u32 X.cls, .int .u32 X.ser], .int .i64 E] ∧ (h.isB o = true → X = h.hd (o / 2)) := by
  cases hi : h.isB o
  · exact ⟨⟨0, 0, 0, 0, 0⟩, 3, by simp [HM.headerV, hi], fun h => by cases h⟩
  · exact ⟨h.hd (o / 2), 0, by simp [HM.headerV, hi, Hd.val], fun _ => rfl⟩
theorem bytes_conv {w : World} {g c len c2 : Nat} {xs : List Nat} (hr : Row w g 5 c (u8c xs)) (hl : len ≤ xs.length) :
    (convert 46 9 (.slice (some ⟨g, 0, none⟩) len c2)).run Tryd.prog w = .ok (.string (strN (xs.take len))) w := by
  refine run_convert_bytes_arg (P := Tryd.prog) w 46 5 Tryd.underlying46 Tryd.underlying5 g 0 len c2 ((xs.take len).map fun x : Nat => (x : Int)) (by simp [hl]) (fun i hi => ?_) _ Tryd.underlying9
  rw [Nat.zero_add]
  refine hr.cell ?_
  unfold u8c
  rw [List.getElem?_map, List.getElem?_eq_getElem (by omega), List.getD_eq_getElem?_getD, List.getElem?_map, List.getElem?_take, if_pos hi, List.getElem?_eq_getElem (by omega)]
  rfl
end Go.Proofs.YtpajpdjjpgbklaaDoor
