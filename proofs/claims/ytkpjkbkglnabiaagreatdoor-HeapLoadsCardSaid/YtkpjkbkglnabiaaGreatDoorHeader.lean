/- (*Heap).header, Header, length, Length, pointers. -/
import Derived.Test.YtkpjkbkglnabiaaGreatDoorUnpack
set_option linter.unusedVariables false
namespace Go.Proofs.YtkpjkbkglnabiaaGreatDoor
open Go.RowKit

def HM.w (h : HM) (i : Nat) : Nat := h.words.getD i 0
def HM.hd (h : HM) (i : Nat) : Hd := unhd (h.w i) (h.w (i + 1)) (h.w (i + 2))
/-- There is a header at word i. -/
def HM.hdAt (h : HM) (i : Nat) : Prop := i + 3 + (h.hd i).size ≤ h.words.length ∧ okhd (h.w i) (h.w (i + 1)) (h.w (i + 2)) = true
theorem HM.Fit.w {h : HM} (f : HM.Fit h) (i : Nat) : h.w i < 4294967296 := f.word i
theorem HM.hd_fit {h : HM} (f : h.Fit) (i : Nat) : (h.hd i).Fit := unhd_fit _ _ _ (f.w _) (f.w _)

set_option maxHeartbeats 1000000 in
theorem header_any {w : World} {p : HP} {h : HM} (H : HAt w p h) (f : h.Fit) (hs : Spares w) (i : Nat) (hi : h.hdAt i) :
    Calls Tryz.prog 95 #[ptr p.g, .int .i64 i] w fun e w' => e = .returned (h.hd i).val ∧ Below w.heap.size w w' := by
  obtain ⟨h3, hok⟩ := hi
  have h3 : i + 3 ≤ h.words.length := by omega
  have q0 : w.cell? ⟨p.gw, i, none⟩ = some (.int .u32 (h.w i : Nat)) := H.word (by omega)
  have q1 : w.cell? ⟨p.gw, i + 1, none⟩ = some (.int .u32 (h.w (i + 1) : Nat)) := H.word (by omega)
  have q2 : w.cell? ⟨p.gw, i + 2, none⟩ = some (.int .u32 (h.w (i + 2) : Nat)) := H.word (by omega)
  have c0 := H.c0
  have hcap : h.words.length ≤ p.cw := by have := H.2.1; obtain ⟨_, _, h1, _⟩ := this; simpa [u32s] using h1
  have hcm : p.cw ≤ 9223372036854775807 := by have := H.2.1; obtain ⟨_, _, _, h1, _⟩ := this; unfold maxLen at h1; exact h1
  have b0 := f.w i
  have b1 := f.w (i + 1)
  have b2 := f.w (i + 2)
  have hlg : p.gw < w.heap.size := H.lt (.inr (.inl rfl))
  have hng : w.heap.size ≠ p.gw := by omega
  have hlh : p.g < w.heap.size := H.lt (.inl rfl)
  have HX := Lib.hid (show (h.hd i).val = (unhd (h.w i) (h.w (i + 1)) (h.w (i + 2))).val from rfl)
  have hx2 : (unhd (h.w i) (h.w (i + 1)) (h.w (i + 2))).val = .agg #[.int .i64 (h.w i % 16777216 : Nat), .int .i64 (h.w i / 16777216 % 8 : Nat), .int .i64 (h.w i / 134217728 % 4 : Nat), .int .u32 (h.w (i + 1)), .int .u32 (h.w (i + 2))] := rfl
  have HX2 := Lib.hid hx2
  have HOK := Lib.hid hok
  have HS := Lib.hid hs
  clear hok hs hx2
  generalize h.w i = a at *
  generalize h.w (i + 1) = b at *
  generalize h.w (i + 2) = c at *
  have har : ∀ (a : Addr) (c : Nat) (w : World), (Instr.arrayAt 104 (.slice (some a) 3 c)).run Tryz.prog w = .ok (.pointer (some a)) w := fun a c w => by
    have ht : Tryz.prog.underlying 104 = some (.array 3 29) := Tryz.underlying104
    simp [Instr.arrayAt, run_underlying ht]
  unfold ptr
  go_enter Tryz.func95, Tryz.ntmps95
  go_wp2_with fail
  refine (unpack_any a b c b0 b1 b2 _ (HS.out.below ((Below.refl _ _).alloc (Nat.le_refl _) _)) HOK.out).mono ?_
  rintro e w1 ⟨rfl, hb1⟩
  rw [HX2.out]
  rw [HX2.out] at HX
  clear HX2 HOK
  generalize a % 16777216 = n at *
  generalize a / 16777216 % 8 = t at *
  generalize a / 134217728 % 4 = s at *
  have hb : Below w.heap.size w w1 := ((Below.refl _ _).alloc (Nat.le_refl _) _).trans (hb1.mono (by simp))
  have B1 := Blk.below (Blk.new w _ _) hb1 (by simp)
  have hz : w.heap.size < w1.heap.size := by have := hb1.size; simp at this; omega
  have hne : w1.heap.size ≠ w.heap.size := by omega
  clear hb1 har q0 q1 q2 c0
  obtain ⟨d0, d1, d2, d3, d4⟩ := B1.cells5
  have z1 := B1.fz
  go_wp2_with fail
  obtain ⟨r0, r1, r2, r3, r4⟩ := ((B1.setAll5 (.int .i64 n) (.int .i64 t) (.int .i64 s) (.int .u32 b) (.int .u32 c)).alloc (.cells #[.int .i64 n, .int .i64 t, .int .i64 s, .int .u32 b, .int .u32 c] 101)).cells5
  refine bodyPost_ret (v := .agg #[.int .i64 n, .int .i64 t, .int .i64 s, .int .u32 b, .int .u32 c]) (by simp [results, Tryz.results95, go_sem, r0, r1, r2, r3, r4]) rfl ⟨by rw [HX.out], ?_⟩
  exact (((((hb.setCell (by simp) _).setCell (by simp) _).setCell (by simp) _).setCell (by simp) _).setCell (by simp) _).alloc (by simp [World.setCell]; omega) _

/-- What Header answers. -/
def HM.headerV (h : HM) (o : Nat) : Value := if h.isB o then .tuple #[(h.hd (o / 2)).val, .int .i64 0] else .tuple #[.agg #[.int .i64 0, .int .i64 0, .int .i64 0, .int .u32 0, .int .u32 0], .int .i64 3]
/-- Where marks stand there are headers. -/
def HM.Heads (h : HM) : Prop := ∀ i, h.starts.getD i false = true → h.hdAt i

set_option maxHeartbeats 1000000 in
theorem Header_any {w : World} {p : HP} {h : HM} (H : HAt w p h) (f : h.Fit) (hh : h.Heads) (hs : Spares w) (o : Nat) (ho : o < 4294967296) :
    Calls Tryz.prog 67 #[ptr p.g, .int .u32 o] w fun e w' => e = .returned (h.headerV o) ∧ Below w.heap.size w w' := by
  have hlg : p.g < w.heap.size := H.lt (.inl rfl)
  cases hi : h.isB o
  · have HF := Lib.hid (show h.headerV o = .tuple #[.agg #[.int .i64 0, .int .i64 0, .int .i64 0, .int .u32 0, .int .u32 0], .int .i64 3] by simp [HM.headerV, hi])
    have hb0 : ∀ o, Below w.heap.size w (w.alloc o) := fun o => (Below.refl _ _).alloc (Nat.le_refl _) _
    have HI := Lib.hid (fun x => is_any (H.below (hb0 x)) f o ho)
    clear hb0
    rw [hi] at HI
    clear hi
    unfold ptr at HI ⊢
    go_enter Tryz.func67, Tryz.ntmps67
    go_wp2_with fail
    refine (HI.out _).mono ?_
    rintro e w1 ⟨rfl, rfl⟩
    go_wp2_with fail
    refine bodyPost_ret (v := .tuple #[.agg #[.int .i64 0, .int .i64 0, .int .i64 0, .int .u32 0, .int .u32 0], .int .i64 3]) (by simp [results, Tryz.results67, go_sem]) rfl ⟨by rw [HF.out], ?_⟩
    exact (Below.refl _ _).alloc (Nat.le_refl _) _
  · have hk : objB o = true := by unfold HM.isB at hi; simp only [Bool.and_eq_true] at hi; exact hi.1
    have hd : h.hdAt (o / 2) := hh _ (by unfold HM.isB at hi; simp only [Bool.and_eq_true] at hi; exact hi.2)
    have HF := Lib.hid (show h.headerV o = .tuple #[(h.hd (o / 2)).val, .int .i64 0] by simp [HM.headerV, hi])
    have hb0 : ∀ o, Below w.heap.size w (w.alloc o) := fun o => (Below.refl _ _).alloc (Nat.le_refl _) _
    have HI := Lib.hid (fun x => is_any (H.below (hb0 x)) f o ho)
    rw [hi] at HI
    have HA := Lib.hid (fun w => at_any p.g o ho hk w)
    have HH := Lib.hid (fun x => header_any (H.below (hb0 x)) f (hs.below (hb0 x)) (o / 2) hd)
    have HX := Lib.hid (show (h.hd (o / 2)).val = .agg #[.int .i64 (h.hd (o / 2)).size, .int .i64 (h.hd (o / 2)).fmt, .int .i64 (h.hd (o / 2)).spare, .int .u32 (h.hd (o / 2)).cls, .int .u32 (h.hd (o / 2)).ser] from rfl)
    clear hi hk hb0 hd
    generalize o / 2 = q at *
    generalize h.hd q = x at *
    unfold ptr at HI HA HH ⊢
    go_enter Tryz.func67, Tryz.ntmps67
    go_wp2_with fail
    refine (HI.out _).mono ?_
    rintro e w1 ⟨rfl, rfl⟩
    go_wp2_with fail
    refine (HA.out _).mono ?_
    rintro e w1 ⟨rfl, rfl⟩
    go_wp2_with fail
    refine (HH.out _).mono ?_
    rintro e w1 ⟨rfl, hb1⟩
    rw [HX.out]
    have hb : Below w.heap.size w w1 := ((Below.refl _ _).alloc (Nat.le_refl _) _).trans (hb1.mono (by simp))
    have B1 := Blk.below (Blk.new w _ _) hb1 (by simp)
    clear hb1
    obtain ⟨d0, d1, d2, d3, d4⟩ := B1.cells5
    have z1 := B1.fz
    have hz := B1.lt
    go_wp2_with fail
    refine bodyPost_ret (v := .tuple #[.agg #[.int .i64 x.size, .int .i64 x.fmt, .int .i64 x.spare, .int .u32 x.cls, .int .u32 x.ser], .int .i64 0]) (by simp [results, Tryz.results67, go_sem, d0, d1, d2, d3, d4]) rfl ⟨by rw [HF.out, HX.out], ?_⟩
    exact ((((hb.setCell (by simp) _).setCell (by simp) _).setCell (by simp) _).setCell (by simp) _).setCell (by simp) _
end Go.Proofs.YtkpjkbkglnabiaaGreatDoor
