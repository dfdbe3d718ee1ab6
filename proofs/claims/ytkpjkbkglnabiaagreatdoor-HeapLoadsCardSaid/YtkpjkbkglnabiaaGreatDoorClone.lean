/- slices.Clone of a row; Words, Roots: new memory. -/
import Derived.Test.YtkpjkbkglnabiaaGreatDoorDeed
import Derived.Test.YtkpjkbkglnabiaaGreatDoorApp
import Derived.Lib.LazyBuf
set_option linter.unusedVariables false
namespace Go.Proofs.YtkpjkbkglnabiaaGreatDoor
open Go.RowKit

theorem info_u32 : (Tryz.prog.info? 29).map (fun i => (i.zero, i.size, i.bytes)) = some (some (.int .u32 0), 1, 4) := by kernel_rfl
theorem info_bool : (Tryz.prog.info? 4).map (fun i => (i.zero, i.size, i.bytes)) = some (some (.bool false), 1, 1) := by kernel_rfl
theorem info_oop : (Tryz.prog.info? 30).map (fun i => (i.zero, i.size, i.bytes)) = some (some (.int .u32 0), 1, 4) := by kernel_rfl
theorem info_u8 : (Tryz.prog.info? 5).map (fun i => (i.zero, i.size, i.bytes)) = some (some (.int .u8 0), 1, 1) := by kernel_rfl

/-- A new row: of the call's own, not there before. -/
def NewRow (e : TypeId) (xs : List Value) (w : World) (d : Ending) (w' : World) : Prop :=
  ∃ g c, d = .returned (.slice (some ⟨g, 0, none⟩) xs.length c) ∧ Row w' g e c xs ∧ w.heap.size ≤ g ∧ Below w.heap.size w w'

theorem one_u32s (l : List Nat) : ∀ u ∈ u32s l, u.oneCell' = true := by
  intro u hu; obtain ⟨x, _, rfl⟩ := List.mem_map.1 hu; rfl
theorem one_bools (l : List Bool) : ∀ u ∈ bools l, u.oneCell' = true := by
  intro u hu; obtain ⟨x, _, rfl⟩ := List.mem_map.1 hu; rfl

theorem owns_empty (w : World) (e : TypeId) : (w.alloc (.cells #[] e)).ownsRow w.heap.size e 1 (.slice (some ⟨w.heap.size, 0, none⟩) 0 0) 0 [] :=
  ⟨rfl, .inr ⟨w.heap.size, 0, #[], rfl, Nat.le_refl _, Blk.new w e #[], by omega, by decide, rfl, rfl⟩⟩

set_option maxHeartbeats 400000 in
theorem clone_u32 {w : World} {g c : Nat} {xs : List Value} (hr : Row w g 29 c xs) (h1 : ∀ u ∈ xs, u.oneCell' = true) (hn : 0 < xs.length) (hm : xs.length ≤ 2097152) :
    Calls Tryz.prog 53 #[.slice (some ⟨g, 0, none⟩) xs.length c] w (NewRow 29 xs w) := by
  obtain ⟨i0, hi0, hz0, hz1, hz2⟩ := info_parts info_u32
  have hnil := fun w => Lib.run_eql_slice_nil (P := Tryz.prog) w 42 29 (some ⟨g, 0, none⟩) xs.length c 0 0 Tryz.underlying42
  have HR := Lib.hid (hr.alloc (.cells #[] 29)); clear hr
  have HR2 := Lib.hid (HR.out.reads HR.out.lt); clear HR
  generalize hl : xs.length = n at *
  have HL := Lib.hid hl; clear hl
  have H1 := Lib.hid h1; clear h1
  go_enter Tryz.func53, Tryz.ntmps53
  go_wp2_with (at_builtin; refine wpList_append_any _ rfl (.tmp 5) (.tmp 6) _ rfl w.heap.size 29 i0 _ 1 4 Tryz.underlying42 hi0 hz0 hz1 hz2 rfl (by omega) (.slice (some ⟨w.heap.size, 0, none⟩) 0 0) 0 [] rfl (owns_empty w _) _ (some ⟨g, 0, none⟩) n c xs rfl HR2.out H1.out (by simp only [maxLen]; omega) (by omega) (by simp) ?_; intro v1 w1 hown1 hg1 hat1)
  have hb1 : Below w.heap.size w w1 := ((Below.refl _ _).alloc (Nat.le_refl _) _).grown hg1 (by simp) (fun k hk => by simp [Value.ownBlock] at hk; omega)
  rw [Nat.zero_add, List.nil_append] at hown1
  obtain ⟨g1, c1, rfl, hrow, hlen, hge⟩ := Row.of_any hown1 hn
  clear hown1 hg1 hat1
  go_wp2_with fail
  go_ret
  exact ⟨g1, c1, by rw [HL.out]; rfl, hrow, hge, hb1⟩

set_option maxHeartbeats 400000 in
theorem clone_bool {w : World} {g c : Nat} {xs : List Value} (hr : Row w g 4 c xs) (h1 : ∀ u ∈ xs, u.oneCell' = true) (hn : 0 < xs.length) (hm : xs.length ≤ 2097152) :
    Calls Tryz.prog 54 #[.slice (some ⟨g, 0, none⟩) xs.length c] w (NewRow 4 xs w) := by
  obtain ⟨i0, hi0, hz0, hz1, hz2⟩ := info_parts info_bool
  have hnil := fun w => Lib.run_eql_slice_nil (P := Tryz.prog) w 89 4 (some ⟨g, 0, none⟩) xs.length c 0 0 Tryz.underlying89
  have HR := Lib.hid (hr.alloc (.cells #[] 4)); clear hr
  have HR2 := Lib.hid (HR.out.reads HR.out.lt); clear HR
  generalize hl : xs.length = n at *
  have HL := Lib.hid hl; clear hl
  have H1 := Lib.hid h1; clear h1
  go_enter Tryz.func54, Tryz.ntmps54
  go_wp2_with (at_builtin; refine wpList_append_any _ rfl (.tmp 5) (.tmp 6) _ rfl w.heap.size 4 i0 _ 1 1 Tryz.underlying89 hi0 hz0 hz1 hz2 rfl (by omega) (.slice (some ⟨w.heap.size, 0, none⟩) 0 0) 0 [] rfl (owns_empty w _) _ (some ⟨g, 0, none⟩) n c xs rfl HR2.out H1.out (by simp only [maxLen]; omega) (by omega) (by simp) ?_; intro v1 w1 hown1 hg1 hat1)
  have hb1 : Below w.heap.size w w1 := ((Below.refl _ _).alloc (Nat.le_refl _) _).grown hg1 (by simp) (fun k hk => by simp [Value.ownBlock] at hk; omega)
  rw [Nat.zero_add, List.nil_append] at hown1
  obtain ⟨g1, c1, rfl, hrow, hlen, hge⟩ := Row.of_any hown1 hn
  clear hown1 hg1 hat1
  go_wp2_with fail
  go_ret
  exact ⟨g1, c1, by rw [HL.out]; rfl, hrow, hge, hb1⟩

set_option maxHeartbeats 400000 in
theorem clone_oop {w : World} {g c : Nat} {xs : List Value} (hr : Row w g 30 c xs) (h1 : ∀ u ∈ xs, u.oneCell' = true) (hn : 0 < xs.length) (hm : xs.length ≤ 2097152) :
    Calls Tryz.prog 55 #[.slice (some ⟨g, 0, none⟩) xs.length c] w (NewRow 30 xs w) := by
  obtain ⟨i0, hi0, hz0, hz1, hz2⟩ := info_parts info_oop
  have hnil := fun w => Lib.run_eql_slice_nil (P := Tryz.prog) w 43 30 (some ⟨g, 0, none⟩) xs.length c 0 0 Tryz.underlying43
  have HR := Lib.hid (hr.alloc (.cells #[] 30)); clear hr
  have HR2 := Lib.hid (HR.out.reads HR.out.lt); clear HR
  generalize hl : xs.length = n at *
  have HL := Lib.hid hl; clear hl
  have H1 := Lib.hid h1; clear h1
  go_enter Tryz.func55, Tryz.ntmps55
  go_wp2_with (at_builtin; refine wpList_append_any _ rfl (.tmp 5) (.tmp 6) _ rfl w.heap.size 30 i0 _ 1 4 Tryz.underlying43 hi0 hz0 hz1 hz2 rfl (by omega) (.slice (some ⟨w.heap.size, 0, none⟩) 0 0) 0 [] rfl (owns_empty w _) _ (some ⟨g, 0, none⟩) n c xs rfl HR2.out H1.out (by simp only [maxLen]; omega) (by omega) (by simp) ?_; intro v1 w1 hown1 hg1 hat1)
  have hb1 : Below w.heap.size w w1 := ((Below.refl _ _).alloc (Nat.le_refl _) _).grown hg1 (by simp) (fun k hk => by simp [Value.ownBlock] at hk; omega)
  rw [Nat.zero_add, List.nil_append] at hown1
  obtain ⟨g1, c1, rfl, hrow, hlen, hge⟩ := Row.of_any hown1 hn
  clear hown1 hg1 hat1
  go_wp2_with fail
  go_ret
  exact ⟨g1, c1, by rw [HL.out]; rfl, hrow, hge, hb1⟩


section
variable {w : World} {p : HP} {h : HM}
theorem words_any (H : HAt w p h) (f : h.Fit) : Calls Tryz.prog 51 #[ptr p.g] w (NewRow 29 (u32s h.words) w) := by
  have hm := Lib.hid (made_any H (by have := f.lo; omega) f.hi)
  have c0 := H.c0
  have h1 := f.one
  have h2 := f.room
  have h3 := f.hi
  have HC := Lib.hid (clone_u32 H.2.1 (one_u32s _) (by rw [u32s_len]; omega) (by rw [u32s_len]; omega))
  rw [u32s_len] at HC
  unfold ptr at hm ⊢
  go_enter Tryz.func51, Tryz.ntmps51
  go_wp2_with fail
  refine hm.out.mono ?_
  rintro e w' ⟨rfl, rfl⟩
  go_wp2_with fail
  refine HC.out.mono ?_
  rintro e w1 ⟨g, c, rfl, hrow, hge, hb⟩
  go_wp2_with fail
  go_ret
  exact ⟨g, c, rfl, hrow, hge, hb⟩
theorem roots_any (H : HAt w p h) (f : h.Fit) : Calls Tryz.prog 52 #[ptr p.g] w (NewRow 30 (u32s h.roots) w) := by
  have hm := Lib.hid (made_any H (by have := f.lo; omega) f.hi)
  have c0 := H.c2
  have h1 := f.roots
  have HC := Lib.hid (clone_oop H.2.2.2 (one_u32s _) (by rw [u32s_len]; omega) (by rw [u32s_len]; omega))
  rw [u32s_len] at HC
  have H1 := Lib.hid h1
  clear h1
  unfold ptr at hm ⊢
  go_enter Tryz.func52, Tryz.ntmps52
  go_wp2_with fail
  refine hm.out.mono ?_
  rintro e w' ⟨rfl, rfl⟩
  go_wp2_with fail
  refine HC.out.mono ?_
  rintro e w1 ⟨g, c, rfl, hrow, hge, hb⟩
  go_wp2_with fail
  go_ret
  exact ⟨g, c, rfl, hrow, hge, hb⟩
end
end Go.Proofs.YtkpjkbkglnabiaaGreatDoor
