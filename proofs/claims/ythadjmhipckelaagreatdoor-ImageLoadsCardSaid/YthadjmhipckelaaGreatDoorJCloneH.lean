import Derived.Test.YthadjmhipckelaaGreatDoorJClone
import Derived.Deep.RegionHeld3
import Derived.Deep.DeepCutAuto
set_option linter.unusedVariables false
namespace Go.Proofs.YthadjmhipckelaaGreatDoor
section
open Go.RowKit
def CRow (W w : World) (e : TypeId) (xs : List Value) : Option (Nat × Nat) → Prop
 | none => True
 | some (g, c) => W.heap.size ≤ g ∧ Row w g e c xs
def CAcc (W : World) (h : HM) (w : World) (a b c : Option (Nat × Nat)) : Prop :=
 Below W.heap.size W w ∧ CRow W w 32 (u32s h.words) a ∧ CRow W w 4 (bools h.starts) b ∧ CRow W w 72 (u32s h.roots) c
section
variable {W w w' : World} {p : HP} {h : HM} {a b c : Option (Nat × Nat)}
theorem CRow.below {e : TypeId} {xs : List Value} (h : CRow W w e xs a) (hb : Below w.heap.size w w') : CRow W w' e xs a := by
 cases a with
 | none => trivial
 | some x => exact ⟨h.1, h.2.below hb⟩
theorem CAcc.start (W : World) (h : HM) : CAcc W h W.drew none none none := ⟨⟨rfl, rfl, rfl, Nat.le_refl _, fun _ _ => rfl⟩, trivial, trivial, trivial⟩
theorem CAcc.below (k : CAcc W h w a b c) (hb : Below w.heap.size w w') : CAcc W h w' a b c :=
 ⟨below_top k.1 hb, k.2.1.below hb, k.2.2.1.below hb, k.2.2.2.below hb⟩
def CW (W : World) (h : HM) (b c : Option (Nat × Nat)) (e : Ending) (w' : World) : Prop := ∃ g cap, e = .returned (.slice (some ⟨g, 0, none⟩) h.words.length cap) ∧ CAcc W h w' (some (g, cap)) b c
def CS (W : World) (h : HM) (a c : Option (Nat × Nat)) (e : Ending) (w' : World) : Prop := ∃ g cap, e = .returned (.slice (some ⟨g, 0, none⟩) h.starts.length cap) ∧ CAcc W h w' a (some (g, cap)) c
def CR (W : World) (h : HM) (a b : Option (Nat × Nat)) (e : Ending) (w' : World) : Prop := ∃ g cap, e = .returned (.slice (some ⟨g, 0, none⟩) h.roots.length cap) ∧ CAcc W h w' a b (some (g, cap))
theorem cacc_words (k : CAcc W h w none b c) (H : HAt W p h) (f : h.Fit) : Calls Tryz.prog 38 #[.slice (some ⟨p.gw, 0, none⟩) h.words.length p.cw] w (CW W h b c) := by
 have h1 := f.one; have h2 := f.room; have h3 := f.hi
 have hh := clone_u32 (H.below k.1).2.1 (one_u32s _) (by rw [u32s_len]; omega) (by rw [u32s_len]; omega)
 rw [u32s_len] at hh
 refine hh.mono ?_
 rintro e w' ⟨g, cap, rfl, hrow, hge, hb⟩
 have k2 := k.below hb
 exact ⟨g, cap, by rw [u32s_len], k2.1, ⟨Nat.le_trans k.1.size hge, hrow⟩, k2.2.2.1, k2.2.2.2⟩
theorem cacc_marks (k : CAcc W h w a none c) (H : HAt W p h) (f : h.Fit) : Calls Tryz.prog 106 #[.slice (some ⟨p.gs, 0, none⟩) h.starts.length p.cs] w (CS W h a c) := by
 have h1 := f.one; have h2 := f.room; have h3 := f.hi; have h4 := f.marks
 have hh := clone_bool (H.below k.1).2.2.1 (one_bools _) (by rw [bools_len]; omega) (by rw [bools_len]; omega)
 rw [bools_len] at hh
 refine hh.mono ?_
 rintro e w' ⟨g, cap, rfl, hrow, hge, hb⟩
 have k2 := k.below hb
 exact ⟨g, cap, by rw [bools_len], k2.1, k2.2.1, ⟨Nat.le_trans k.1.size hge, hrow⟩, k2.2.2.2⟩
theorem cacc_roots (k : CAcc W h w a b none) (H : HAt W p h) (f : h.Fit) : Calls Tryz.prog 39 #[.slice (some ⟨p.gr, 0, none⟩) h.roots.length p.cr] w (CR W h a b) := by
 have h1 := f.roots
 have hh := clone_oop (H.below k.1).2.2.2 (one_u32s _) (by rw [u32s_len]; omega) (by rw [u32s_len]; omega)
 rw [u32s_len] at hh
 refine hh.mono ?_
 rintro e w' ⟨g, cap, rfl, hrow, hge, hb⟩
 have k2 := k.below hb
 exact ⟨g, cap, by rw [u32s_len], k2.1, k2.2.1, k2.2.2.1, ⟨Nat.le_trans k.1.size hge, hrow⟩⟩
theorem CAcc.close {g1 c1 g2 c2 g3 c3 : Nat} (k : CAcc W h w (some (g1, c1)) (some (g2, c2)) (some (g3, c3))) :
 NewHeap HAt ptr h W (.returned (ptr w.heap.size)) (w.alloc (.cells #[.slice (some ⟨g1, 0, none⟩) h.words.length c1, .slice (some ⟨g2, 0, none⟩) h.starts.length c2, .slice (some ⟨g3, 0, none⟩) h.roots.length c3, .int .i64 h.size, .int .u32 h.last] 85)) := by
 obtain ⟨hb, ⟨h1, r1⟩, ⟨h2, r2⟩, ⟨h3, r3⟩⟩ := k
 refine ⟨⟨w.heap.size, g1, c1, g2, c2, g3, c3⟩, rfl, ⟨Blk.new w _ _, r1.alloc _, r2.alloc _, r3.alloc _⟩, ?_, hb.alloc hb.size _⟩
 rintro k (rfl | rfl | rfl | rfl)
 ·exact hb.size
 ·exact h1
 ·exact h2
 ·exact h3
end
set_option maxRecDepth 100000 in
set_option maxHeartbeats 4000000 in
theorem Clone_any {w : World} {p : HP} {h : HM} (H : HAt w p h) (f : h.Fit) :
 Calls Tryz.prog 74 #[ptr p.g] w (NewHeap HAt ptr h w) := by
 have hm := Lib.hid (made_any H (by have := f.lo; omega) f.hi)
 have hpg := H.lt (.inl rfl)
 have HC := Lib.hid (fun (w1 : World) (hb : Below w.heap.size w w1) => (H.below hb).1.cells5)
 have HW := Lib.hid (fun (w1 : World) (b c : Option (Nat × Nat)) (k : CAcc w h w1 none b c) => cacc_words k H f)
 have HS := Lib.hid (fun (w1 : World) (a c : Option (Nat × Nat)) (k : CAcc w h w1 a none c) => cacc_marks k H f)
 have HR := Lib.hid (fun (w1 : World) (a b : Option (Nat × Nat)) (k : CAcc w h w1 a b none) => cacc_roots k H f)
 have A0 := CAcc.start w h
 obtain ⟨c0, c1, c2, c3, c4⟩ := H.1.cells5
 clear H f
 unfold ptr at hm ⊢
 go_enter Tryz.func74, Tryz.ntmps74
 go_wp2_with fail
 refine hm.out.mono ?_
 rintro e w' ⟨rfl, rfl⟩
 go_upto_region 3 with fail
 go_cut [2] (fun v wx => NewHeap HAt ptr h w (.returned v) wx)
 case first =>
  go_region_held3 (fun w' => w'.cell? ⟨p.g, 0, none⟩ = some (.slice (some ⟨p.gw, 0, none⟩) h.words.length p.cw) ∧ w'.cell? ⟨p.g, 1, none⟩ = some (.slice (some ⟨p.gs, 0, none⟩) h.starts.length p.cs) ∧ w'.cell? ⟨p.g, 2, none⟩ = some (.slice (some ⟨p.gr, 0, none⟩) h.roots.length p.cr) ∧ w'.cell? ⟨p.g, 3, none⟩ = some (.int .i64 h.size) ∧ w'.cell? ⟨p.g, 4, none⟩ = some (.int .u32 h.last))
   (first | exact ⟨c0, c1, c2, c3, c4⟩ | exact HC.out _ (by (first | exact (by assumption : CAcc _ _ _ _ _ _).1)) | go_keep)
   (first
     | (go_at_call 38; refine (HW.out _ _ _ (by assumption)).mono ?_; rintro e w1 ⟨g1, cap1, rfl, HA1⟩)
     | (go_at_call 106; refine (HS.out _ _ _ (by assumption)).mono ?_; rintro e w2 ⟨g2, cap2, rfl, HA2⟩)
     | (go_at_call 39; refine (HR.out _ _ _ (by assumption)).mono ?_; rintro e w3 ⟨g3, cap3, rfl, HA3⟩))
  all_goals go_wp2_with fail
  all_goals go_meet
  all_goals exact CAcc.close (by assumption)
 case rest =>
  go_wp2_with fail
  go_ret
  exact hcut
end
end Go.Proofs.YthadjmhipckelaaGreatDoor
