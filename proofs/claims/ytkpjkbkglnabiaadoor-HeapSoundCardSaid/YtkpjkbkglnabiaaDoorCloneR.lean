/- slices.Clone and slices.Equal of any slices of words and oops (marks): by what they read as. -/
import Derived.Test.YtkpjkbkglnabiaaDoorClone
set_option linter.unusedVariables false
namespace Go.Proofs.YtkpjkbkglnabiaaDoor
open Go.RowKit

set_option maxHeartbeats 400000 in
theorem cloneR_u32 {w : World} (ad : Addr) (n c : Nat) {xs : List Value} (hr : Reads w w.heap.size 1 (some ad) n xs) (h1 : ∀ u ∈ xs, u.oneCell' = true) (hn : 0 < n) (hm : n ≤ 2097152) :
    Calls Tryd.prog 49 #[.slice (some ad) n c] w (NewRow 30 xs w) := by
  obtain ⟨i0, hi0, hz0, hz1, hz2⟩ := info_parts info_u32
  have hnil := fun w => Lib.run_eql_slice_nil (P := Tryd.prog) w 46 30 (some ad) n c 0 0 Tryd.underlying46
  have HR2 := Lib.hid (hr.alloc (Nat.le_refl _) (.cells #[] 30))
  have HL := Lib.hid (show xs.length = n by have := hr.1; omega)
  clear hr
  have H1 := Lib.hid h1; clear h1
  go_enter Tryd.func49, Tryd.ntmps49
  go_wp2_with (at_builtin; refine wpList_append_any _ rfl (.tmp 5) (.tmp 6) _ rfl w.heap.size 30 i0 _ 1 4 Tryd.underlying46 hi0 hz0 hz1 hz2 rfl (by omega) (.slice (some ⟨w.heap.size, 0, none⟩) 0 0) 0 [] rfl (owns_empty w _) _ (some ad) n c xs rfl HR2.out H1.out (by simp only [maxLen]; omega) (by omega) (by simp) ?_; intro v1 w1 hown1 hg1 hat1)
  have hb1 : Below w.heap.size w w1 := ((Below.refl _ _).alloc (Nat.le_refl _) _).grown hg1 (by simp) (fun k hk => by simp [Value.ownBlock] at hk; omega)
  rw [Nat.zero_add, List.nil_append] at hown1
  obtain ⟨g1, c1, rfl, hrow, hlen, hge⟩ := Row.of_any hown1 hn
  clear hown1 hg1 hat1
  go_wp2_with fail
  go_ret
  exact ⟨g1, c1, by rw [HL.out]; rfl, hrow, hge, hb1⟩

set_option maxHeartbeats 400000 in
theorem cloneR_oop {w : World} (ad : Addr) (n c : Nat) {xs : List Value} (hr : Reads w w.heap.size 1 (some ad) n xs) (h1 : ∀ u ∈ xs, u.oneCell' = true) (hn : 0 < n) (hm : n ≤ 2097152) :
    Calls Tryd.prog 50 #[.slice (some ad) n c] w (NewRow 31 xs w) := by
  obtain ⟨i0, hi0, hz0, hz1, hz2⟩ := info_parts info_oop
  have hnil := fun w => Lib.run_eql_slice_nil (P := Tryd.prog) w 26 31 (some ad) n c 0 0 Tryd.underlying26
  have HR2 := Lib.hid (hr.alloc (Nat.le_refl _) (.cells #[] 31))
  have HL := Lib.hid (show xs.length = n by have := hr.1; omega)
  clear hr
  have H1 := Lib.hid h1; clear h1
  go_enter Tryd.func50, Tryd.ntmps50
  go_wp2_with (at_builtin; refine wpList_append_any _ rfl (.tmp 5) (.tmp 6) _ rfl w.heap.size 31 i0 _ 1 4 Tryd.underlying26 hi0 hz0 hz1 hz2 rfl (by omega) (.slice (some ⟨w.heap.size, 0, none⟩) 0 0) 0 [] rfl (owns_empty w _) _ (some ad) n c xs rfl HR2.out H1.out (by simp only [maxLen]; omega) (by omega) (by simp) ?_; intro v1 w1 hown1 hg1 hat1)
  have hb1 : Below w.heap.size w w1 := ((Below.refl _ _).alloc (Nat.le_refl _) _).grown hg1 (by simp) (fun k hk => by simp [Value.ownBlock] at hk; omega)
  rw [Nat.zero_add, List.nil_append] at hown1
  obtain ⟨g1, c1, rfl, hrow, hlen, hge⟩ := Row.of_any hown1 hn
  clear hown1 hg1 hat1
  go_wp2_with fail
  go_ret
  exact ⟨g1, c1, by rw [HL.out]; rfl, hrow, hge, hb1⟩
end Go.Proofs.YtkpjkbkglnabiaaDoor
