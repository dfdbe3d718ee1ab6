/- Like: has the program's heap what the document's has? Of one and the same heap: yes. -/
import Derived.Test.YtkpjkbkglnabiaaDoorFull
import Derived.Test.YtkpjkbkglnabiaaDoorSameL
import Derived.Deep.RegionHeld3
set_option linter.unusedVariables false
namespace Go.Proofs.YtkpjkbkglnabiaaDoor
open Go.RowKit

theorem rtop_any {w : World} {q : HP} {h : HM} (R : RAt w q h) (hl : h.words.length ≤ 1048576) : Calls Tryd.prog 48 #[.pointer (some ⟨q.g, 0, none⟩)] w (Said (.int .i64 (h.words.length : Nat)) w) := by
  have c1 := R.c1
  go_enter Tryd.func48, Tryd.ntmps48
  go_wp2_with fail
  go_ret
  exact ⟨rfl, rfl⟩

set_option maxRecDepth 100000 in
set_option maxHeartbeats 4000000 in
theorem like_any {W w : World} {p q : HP} {g : Nat} {h : HM} (L : Live W w p g h) (R : RAt w q h) :
    Calls Tryd.prog 19 #[.pointer (some ⟨g, 0, none⟩), .pointer (some ⟨q.g, 0, none⟩)] w (Told (.bool true) w) := by
  have hf := L.fit
  have r1 := hf.room
  have r2 := hf.hi
  have hrl := hf.roots
  have HSZ := Lib.hid (fun (w1 : World) (hb : Below w.heap.size w w1) => (L.after hb).size)
  have HTP := Lib.hid (fun (w1 : World) (hb : Below w.heap.size w w1) => (L.after hb).top)
  have HLS := Lib.hid (fun (w1 : World) (hb : Below w.heap.size w w1) => (L.after hb).last)
  have HWD := Lib.hid (fun (w1 : World) (hb : Below w.heap.size w w1) => (L.after hb).words)
  have HRT := Lib.hid (fun (w1 : World) (hb : Below w.heap.size w w1) => (L.after hb).roots)
  have HTQ := Lib.hid (fun (w1 : World) (hb : Below w.heap.size w w1) => rtop_any (R.below hb) (by omega))
  have HSW := Lib.hid (fun (w1 w2 : World) (hb : Below w.heap.size w w2) (g1 c1 : Nat) (r : Row w2 g1 30 c1 (u32s h.words)) => sameWords_any (some ⟨g1, 0, none⟩) (some ⟨q.gw, 0, none⟩) h.words.length h.words.length c1 q.cw h.words h.words w2 (by omega) (by omega)
    (by have := r.reads r.lt; rw [u32s_len] at this; exact this) (by have := (R.below hb).2.1.reads (R.below hb).2.1.lt; rw [u32s_len] at this; exact this))
  have HSO := Lib.hid (fun (w1 w2 : World) (hb : Below w.heap.size w w2) (g1 c1 : Nat) (r : Row w2 g1 31 c1 (u32s h.roots)) => sameOops_any (some ⟨g1, 0, none⟩) (some ⟨q.gr, 0, none⟩) h.roots.length h.roots.length c1 q.cr h.roots h.roots w2 (by omega) (by omega)
    (by have := r.reads r.lt; rw [u32s_len] at this; exact this) (by have := (R.below hb).2.2.2.reads (R.below hb).2.2.2.lt; rw [u32s_len] at this; exact this))
  rw [sameL_self] at HSW HSO
  have HC := Lib.hid (fun (w1 : World) (hb : Below w.heap.size w w1) => (R.below hb).1.cells5)
  obtain ⟨c0, c1, c2, c3, c4⟩ := R.1.cells5
  have HL1 := Lib.hid (u32s_len h.words)
  have HL2 := Lib.hid (u32s_len h.roots)
  have hB0 : Below w.heap.size w w.drew := below_drew (Below.refl _ _)
  clear L R hf hrl
  go_enter Tryd.func19, Tryd.ntmps19
  go_wp2_with fail
  go_region_held3 (fun w' => w'.cell? ⟨q.g, 0, none⟩ = some (.int .i64 h.size) ∧ w'.cell? ⟨q.g, 1, none⟩ = some (.slice (some ⟨q.gw, 0, none⟩) h.words.length q.cw) ∧ w'.cell? ⟨q.g, 2, none⟩ = some (.slice (some ⟨q.gr, 0, none⟩) h.roots.length q.cr) ∧ w'.cell? ⟨q.g, 3, none⟩ = some (.int .u32 h.last) ∧ w'.cell? ⟨q.g, 4, none⟩ = some (.slice (some ⟨q.gs, 0, none⟩) h.starts.length q.cs))
    (first | exact ⟨c0, c1, c2, c3, c4⟩ | exact HC.out _ (by assumption) | go_keep)
    (first
      | (go_at_call 13; refine (HSZ.out _ (by assumption)).mono ?_; rintro e w' ⟨rfl, rfl⟩)
      | (go_at_call 14; refine (HTP.out _ (by assumption)).mono ?_; rintro e w' ⟨rfl, rfl⟩)
      | (go_at_call 22; refine (HLS.out _ (by assumption)).mono ?_; rintro e w' ⟨rfl, rfl⟩)
      | (go_at_call 48; refine (HTQ.out _ (by assumption)).mono ?_; rintro e w' ⟨rfl, rfl⟩)
      | (go_at_call 20; refine (HWD.out _ (by assumption)).mono ?_; rintro e w1 ⟨g1, k1, rfl, rw1, -, hb1⟩; rw [HL1.out]; have hB1 := below_top (by assumption) hb1)
      | (go_at_call 21; refine (HRT.out _ (by assumption)).mono ?_; rintro e w3 ⟨g3, k3, rfl, rw3, -, hb3⟩; rw [HL2.out]; have hB3 := below_top (by assumption) hb3)
      | (go_at_call 26; refine (HSW.out w _ (by assumption) _ _ (by assumption)).mono ?_; rintro e w2 ⟨rfl, hb2⟩; have hB2 := below_top (by assumption) hb2)
      | (go_at_call 27; refine (HSO.out w _ (by assumption) _ _ (by assumption)).mono ?_; rintro e w4 ⟨rfl, hb4⟩; have hB4 := below_top (by assumption) hb4))
  all_goals go_wp2_with fail
  all_goals go_ret
  all_goals exact ⟨rfl, by assumption⟩
end Go.Proofs.YtkpjkbkglnabiaaDoor
