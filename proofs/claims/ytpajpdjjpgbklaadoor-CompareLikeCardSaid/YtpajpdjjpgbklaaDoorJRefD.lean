/- The document's heap: what only reads. -/
/- The document's heap: lengths, places. -/
/- The document's heap: elements read, elements written. -/
/- The document's heap: elements, classes, roots written. -/
import Derived.Test.YtpajpdjjpgbklaaDoorJLive
import Derived.StillTailTactics
set_option linter.unusedVariables false
set_option linter.unusedSectionVars false
namespace Go.Proofs.YtpajpdjjpgbklaaDoor
open Go.RowKit

theorem below_alloc1 {W w : World} {o : Obj} (h : Below W.heap.size W w) : Below W.heap.size W (w.alloc o) := h.alloc h.size o
theorem below_set5 {W w : World} {a b c d e : Value} {g : Nat} (h : Below W.heap.size W w) (hg : W.heap.size ≤ g := by simp) : Below W.heap.size W (((((w.setCell ⟨g, 0, none⟩ a).setCell ⟨g, 1, none⟩ b).setCell ⟨g, 2, none⟩ c).setCell ⟨g, 3, none⟩ d).setCell ⟨g, 4, none⟩ e) :=
  ((((h.setCell (p := ⟨g, 0, none⟩) hg _).setCell (p := ⟨g, 1, none⟩) hg _).setCell (p := ⟨g, 2, none⟩) hg _).setCell (p := ⟨g, 3, none⟩) hg _).setCell (p := ⟨g, 4, none⟩) hg _
theorem begin_one (b : Bool) : (((if b = true then 1 else 0 : Int)) == 1) = b := by cases b <;> rfl
section
variable {w : World} {p : HP} {h : HM} (R : RAt w p h) (f : h.Fit)
include R f
theorem ris_any (o : Nat) (ho : o < 4294967296) :
    Calls Tryd.prog 54 #[ptr p.g, .int .u32 o] w (Said (.bool (h.isB o)) w) := by
  have c4 := R.c4
  have hlen := f.marks
  have hroom := f.room
  have hhi := f.hi
  unfold ptr
  by_cases h0 : o = 0
  · subst h0
    have HF := Lib.hid (show h.isB 0 = false by simp [HM.isB, objB, kindM])
    go_enter Tryd.func54, Tryd.ntmps54
    go_wp2_with fail
    go_ret
    exact ⟨by rw [HF.out]; rfl, rfl⟩
  have hb : ((o : Int) != 0) = true := by simpa using h0
  by_cases h1 : o % 2 = 1
  · have HF := Lib.hid (show h.isB o = false by simp [HM.isB, objB, kindM, h0, h1])
    have hb2 : ((o : Int) % 2 == 0) = false := by simp; omega
    clear h0 h1
    go_enter Tryd.func54, Tryd.ntmps54
    go_wp2_with fail
    go_ret
    exact ⟨by rw [HF.out]; rfl, rfl⟩
  have hb2 : ((o : Int) % 2 == 0) = true := by simp; omega
  have hk : objB o = true := (objB_iff o).2 ⟨h0, by omega⟩
  by_cases hl : o / 2 < h.starts.length
  · have hcell := R.mark hl
    have HF := Lib.hid (show h.isB o = h.starts.getD (o / 2) false by simp [HM.isB, hk])
    generalize h.starts.getD (o / 2) false = b at *
    have hq : ((o : Int) / 2) = ((o / 2 : Nat) : Int) := by omega
    generalize o / 2 = q at *
    have hlt : (q : Int) < (h.starts.length : Int) := by omega
    have h1b := begin_one b
    clear hk h0 h1
    cases b
    all_goals
      go_enter Tryd.func54, Tryd.ntmps54
      go_wp2_with fail
      go_ret
      exact ⟨by rw [HF.out]; rfl, rfl⟩
  · have HF := Lib.hid (show h.isB o = false by rw [HM.isB, List.getD_eq_getElem?_getD, List.getElem?_eq_none (by omega)]; simp)
    have hq : ((o : Int) / 2) = ((o / 2 : Nat) : Int) := by omega
    generalize o / 2 = q at *
    have hlt : (h.starts.length : Int) ≤ (q : Int) := by omega
    clear hk h0 h1
    go_enter Tryd.func54, Tryd.ntmps54
    go_wp2_with fail
    go_ret
    exact ⟨by rw [HF.out]; rfl, rfl⟩
theorem risclass_any (o : Nat) (ho : o < 4294967296) :
    Calls Tryd.prog 97 #[ptr p.g, .int .u32 o] w (Said (.bool (h.clsB o)) w) := by
  have HI := Lib.hid (ris_any R f o ho)
  unfold ptr at HI ⊢
  by_cases h0 : o = 0
  · have HF := Lib.hid (show h.clsB o = true by simp [HM.clsB, h0])
    have hb : ((o : Int) == 0) = true := by simp; omega
    clear h0
    go_enter Tryd.func97, Tryd.ntmps97
    go_wp2_with fail
    go_ret
    exact ⟨by rw [HF.out]; rfl, rfl⟩
  · have HF := Lib.hid (show h.clsB o = h.isB o by simp [HM.clsB, h0])
    have hb : ((o : Int) == 0) = false := by simp; omega
    generalize h.isB o = b at *
    clear h0
    go_enter Tryd.func97, Tryd.ntmps97
    go_wp2_with fail
    refine HI.out.mono ?_
    rintro e w1 ⟨rfl, rfl⟩
    go_wp2_with fail
    go_ret
    exact ⟨by rw [HF.out]; rfl, rfl⟩
theorem rvalb_any (o : Nat) (ho : o < 4294967296) :
    Calls Tryd.prog 98 #[ptr p.g, .int .u32 o] w (Said (.bool (h.valB o)) w) := by
  have HI := Lib.hid (ris_any R f o ho)
  unfold ptr at HI ⊢
  by_cases h0 : o = 0
  · have HF := Lib.hid (show h.valB o = true by simp [HM.valB, objB, kindM, h0])
    have hb : ((o : Int) == 0) = true := by simp; omega
    clear h0
    go_enter Tryd.func98, Tryd.ntmps98
    go_wp2_with fail
    go_ret
    exact ⟨by rw [HF.out]; rfl, rfl⟩
  have hb : ((o : Int) == 0) = false := by simp; omega
  by_cases h1 : o % 2 = 1
  · have HF := Lib.hid (show h.valB o = true by simp [HM.valB, objB, kindM, h0, h1])
    have hb2 : ((o : Int) % 2 == 1) = true := by simp; omega
    clear h0 h1
    go_enter Tryd.func98, Tryd.ntmps98
    go_wp2_with fail
    go_ret
    exact ⟨by rw [HF.out]; rfl, rfl⟩
  · have HF := Lib.hid (show h.valB o = h.isB o by simp [HM.valB, objB, kindM, h0, h1])
    have hb2 : ((o : Int) % 2 == 1) = false := by simp; omega
    generalize h.isB o = b at *
    clear h0 h1
    go_enter Tryd.func98, Tryd.ntmps98
    go_wp2_with fail
    refine HI.out.mono ?_
    rintro e w1 ⟨rfl, rfl⟩
    go_wp2_with fail
    go_ret
    exact ⟨by rw [HF.out]; rfl, rfl⟩
set_option maxHeartbeats 2000000 in
set_option maxRecDepth 100000 in
theorem rheader_any (o : Nat) (ho : o < 4294967296) (hd : h.hdAt (o / 2)) :
    Calls Tryd.prog 39 #[ptr p.g, .int .u32 o] w (Told (h.hd (o / 2)).val w) := by
  have hb0 : ∀ o, Below w.heap.size w (w.alloc o) := fun o => (Below.refl _ _).alloc (Nat.le_refl _) _
  have B0 := R.1.alloc (.cells #[.int .i64 0, .int .i64 0, .int .i64 0, .int .u32 0, .int .u32 0] 55)
  have R' := R.below (hb0 (.cells #[.int .i64 0, .int .i64 0, .int .i64 0, .int .u32 0, .int .u32 0] 55))
  have c1 := R'.c1
  have hroom := f.room
  have hhi := f.hi
  have hd1 := hd.1
  have hd2 := hd.2
  have hw0 := R'.word (i := o / 2) (by omega)
  have hw1 := R'.word (i := o / 2 + 1) (by omega)
  have hw2 := R'.word (i := o / 2 + 2) (by omega)
  have HU := Lib.hid (fun w => runpack_any (h.w (o / 2)) (h.w (o / 2 + 1)) (h.w (o / 2 + 2)) (f.word _) (f.word _) (f.word _) w)
  have HV := Lib.hid (show unpackV (h.w (o / 2)) (h.w (o / 2 + 1)) (h.w (o / 2 + 2)) = .tuple #[(h.hd (o / 2)).val, .bool true] by unfold unpackV; rw [hd2]; rfl)
  rw [HV.out] at HU
  change _ = some (Value.int .u32 ((h.w (o / 2) : Nat) : Int)) at hw0
  change _ = some (Value.int .u32 ((h.w (o / 2 + 1) : Nat) : Int)) at hw1
  change _ = some (Value.int .u32 ((h.w (o / 2 + 2) : Nat) : Int)) at hw2
  have hq : ((o : Int) / 2) = ((o / 2 : Nat) : Int) := by omega
  have HX := Lib.hid (show (h.hd (o / 2)).val = .agg #[.int .i64 (h.hd (o / 2)).size, .int .i64 (h.hd (o / 2)).fmt, .int .i64 (h.hd (o / 2)).spare, .int .u32 (h.hd (o / 2)).cls, .int .u32 (h.hd (o / 2)).ser] from rfl)
  generalize o / 2 = q at *
  generalize h.w q = x0 at *
  generalize h.w (q + 1) = x1 at *
  generalize h.w (q + 2) = x2 at *
  have hlt0 : (q : Int) < (h.words.length : Int) := by omega
  have hlt1 : (q : Int) + 1 < (h.words.length : Int) := by omega
  have hlt2 : (q : Int) + 2 < (h.words.length : Int) := by omega
  have e1 : IntKind.i64.wrap ((q : Int) + 1) = (q : Int) + 1 := IntWalk.i64_in _ (by omega)
  have e2 : IntKind.i64.wrap ((q : Int) + 2) = (q : Int) + 2 := IntWalk.i64_in _ (by omega)
  have p1 : 0 ≤ (q : Int) + 1 := by omega
  have p2 : 0 ≤ (q : Int) + 2 := by omega
  have t1 : ((q : Int) + 1).toNat = q + 1 := by omega
  have t2 : ((q : Int) + 2).toNat = q + 2 := by omega
  have hg0 := R.1.lt
  clear R R' hd hd1 hd2 hb0 HV
  generalize h.hd q = x at *
  unfold ptr
  go_enter Tryd.func39, Tryd.ntmps39
  go_wp2_with fail
  generalize hW : w.alloc _ = W
  rw [hW] at c1 hw0 hw1 hw2 B0
  have hbW : Below w.heap.size w W := by rw [← hW]; exact (Below.refl _ _).alloc (Nat.le_refl _) _
  have BR : Blk W w.heap.size 55 #[.int .i64 0, .int .i64 0, .int .i64 0, .int .u32 0, .int .u32 0] := by rw [← hW]; exact Blk.new _ _ _
  clear hW B0
  have KC := Lib.hid (show ∀ W', Below W.heap.size W W' → W'.cell? ⟨p.g, 1, none⟩ = some (.slice (some ⟨p.gw, 0, none⟩) h.words.length p.cw) ∧ W'.cell? ⟨p.gw, q, none⟩ = some (.int .u32 (x0 : Int)) ∧ W'.cell? ⟨p.gw, q + 1, none⟩ = some (.int .u32 (x1 : Int)) ∧ W'.cell? ⟨p.gw, q + 2, none⟩ = some (.int .u32 (x2 : Int)) from fun W' hb =>
    ⟨(hb.cell (World.block_lt_of_cell? _ _ c1)).trans c1, (hb.cell (World.block_lt_of_cell? _ _ hw0)).trans hw0, (hb.cell (World.block_lt_of_cell? _ _ hw1)).trans hw1, (hb.cell (World.block_lt_of_cell? _ _ hw2)).trans hw2⟩)
  have HUA := Lib.hid (show Calls Tryd.prog 66 #[.agg #[.int .u32 x0, .int .u32 x1, .int .u32 x2]] W.drew fun e w1 => e = .returned (.tuple #[.agg #[.int .i64 x.size, .int .i64 x.fmt, .int .i64 x.spare, .int .u32 x.cls, .int .u32 x.ser], .bool true]) ∧ Below W.heap.size W w1 from
    by rw [← HX.out]; exact (HU.out _).mono fun _ _ ⟨h1, h2⟩ => ⟨h1, below_top (below_drew (Below.refl _ _)) h2⟩)
  have HUB := Lib.hid (show Calls Tryd.prog 66 #[.agg #[.int .u32 x0, .int .u32 x1, .int .u32 x2]] (W.alloc (.cells #[.int .i64 0, .int .i64 0, .int .i64 0, .int .u32 0, .int .u32 0] 55)).drew fun e w1 => e = .returned (.tuple #[.agg #[.int .i64 x.size, .int .i64 x.fmt, .int .i64 x.spare, .int .u32 x.cls, .int .u32 x.ser], .bool true]) ∧ Below W.heap.size W w1 ∧ Blk w1 W.heap.size 55 #[.int .i64 0, .int .i64 0, .int .i64 0, .int .u32 0, .int .u32 0] from
    by rw [← HX.out]; exact (HU.out _).mono fun _ _ ⟨h1, h2⟩ => ⟨h1, below_top (below_drew (below_alloc1 (Below.refl _ _))) h2, ((Blk.new W _ _).drew).below h2 (by simp [World.drew])⟩)
  have hb0 := Below.refl W.heap.size W
  have hn1 : W.heap.size ≠ p.gw := by have := World.block_lt_of_cell? _ _ hw0; simp only at this; omega
  have hn2 : W.heap.size ≠ p.g := by have := World.block_lt_of_cell? _ _ c1; simp only at this; omega
  go_cut [6] (fun v wx => ∃ g, v = ptr g ∧ Below W.heap.size W wx ∧ Blk wx g 55 #[.int .i64 x.size, .int .i64 x.fmt, .int .i64 x.spare, .int .u32 x.cls, .int .u32 x.ser] ∧ W.heap.size ≤ g)
  case first =>
    go_region_held3 (fun w' => w'.cell? ⟨p.g, 1, none⟩ = some (.slice (some ⟨p.gw, 0, none⟩) h.words.length p.cw) ∧ w'.cell? ⟨p.gw, q, none⟩ = some (.int .u32 (x0 : Int)) ∧ w'.cell? ⟨p.gw, q + 1, none⟩ = some (.int .u32 (x1 : Int)) ∧ w'.cell? ⟨p.gw, q + 2, none⟩ = some (.int .u32 (x2 : Int)))
      (first | with_reducible exact KC.out _ hb0 | with_reducible exact KC.out _ (Below.drew hb0) | with_reducible exact KC.out _ (below_alloc1 hb0) | with_reducible exact KC.out _ (Below.drew (below_alloc1 hb0)) | with_reducible exact KC.out _ hk | with_reducible exact KC.out _ (below_alloc1 hk) | with_reducible exact KC.out _ (below_set5 hk (Nat.le_refl _)))
      (first
        | (go_at_call 66; (with_reducible refine HUA.out.mono ?_); rintro e w1 ⟨rfl, hk⟩)
        | (go_at_call 66; (with_reducible refine HUB.out.mono ?_); rintro e w1 ⟨rfl, hk, hB6⟩; obtain ⟨g0, g1, g2, g3, g4⟩ := hB6.cells5; have hgz := hB6.fz; have hgl := hB6.lt))
    all_goals go_wp2_with fail
    all_goals go_meet
    · exact ⟨_, rfl, below_alloc1 hk, Blk.new _ _ _, hk.size⟩
    · exact ⟨_, rfl, below_set5 hk (Nat.le_refl _), hB6.setAll5 _ _ _ _ _, Nat.le_refl _⟩
  case rest =>
    obtain ⟨gx, rfl, hbc, BX, hgx⟩ := hcut
    have BR' := BR.below hbc BR.lt
    have hb := hbW.trans (hbc.mono hbW.size)
    clear KC HUA HUB hb0 hbc HU hw0 hw1 hw2 c1 BR
    obtain ⟨d0, d1, d2, d3, d4⟩ := BR'.cells5
    obtain ⟨b0, b1, b2, b3, b4⟩ := BX.cells5
    have z1 := BR'.fz
    have hz := BR'.lt
    unfold ptr
    go_wp2_with fail
    refine bodyPost_ret (v := .agg #[.int .i64 x.size, .int .i64 x.fmt, .int .i64 x.spare, .int .u32 x.cls, .int .u32 x.ser]) (by simp [results, Tryd.results39, go_sem, d0, d1, d2, d3, d4]) rfl ⟨by rw [HX.out], ?_⟩
    exact (((((hb.setCell (by simp) _).setCell (by simp) _).setCell (by simp) _).setCell (by simp) _).setCell (by simp) _)
end
end Go.Proofs.YtpajpdjjpgbklaaDoor

namespace Go.Proofs.YtpajpdjjpgbklaaDoor
open Go.RowKit

/-- What place answers, for elements of format F (fs: the formats that are looked at so). -/
def HM.placeV (h : HM) (o : Nat) (i : Int) (F : Nat) (fs : List Nat) : Value :=
  .tuple #[.int .i64 ((if h.lookE o i fs = 0 then o / 2 + 3 + (if F = 2 then i.toNat / 4 else i.toNat) else 0 : Nat) : Int), .int .i64 (h.lookE o i fs)]
theorem fld1 : ∀ (a b c d e : Value) (w : World), (Instr.field 55 (.agg #[a, b, c, d, e]) 1).run Tryd.prog w = .ok b w := fun a b c d e w => by kernel_rfl
theorem fld0 : ∀ (a b c d e : Value) (w : World), (Instr.field 55 (.agg #[a, b, c, d, e]) 0).run Tryd.prog w = .ok a w := fun a b c d e w => by kernel_rfl
theorem fld4 : ∀ (a b c d e : Value) (w : World), (Instr.field 55 (.agg #[a, b, c, d, e]) 4).run Tryd.prog w = .ok e w := fun a b c d e w => by kernel_rfl
theorem contains_cases {F t : Nat} {fs : List Nat} (hf : (F = 1 ∧ fs = [1, 4]) ∨ (F = 2 ∧ fs = [2]) ∨ (F = 3 ∧ fs = [3])) :
    (fs.contains t = true ∧ t = F) ∨ (fs.contains t = true ∧ t ≠ F ∧ t = 4 ∧ F = 1) ∨ (fs.contains t = false ∧ t ≠ F ∧ t ≠ 4) ∨ (fs.contains t = false ∧ t ≠ F ∧ t = 4 ∧ F ≠ 1) := by
  rcases hf with ⟨rfl, rfl⟩ | ⟨rfl, rfl⟩ | ⟨rfl, rfl⟩
  · by_cases h1 : t = 1
    · subst h1; exact .inl ⟨by decide, rfl⟩
    · by_cases h4 : t = 4
      · subst h4; exact .inr (.inl ⟨by decide, by decide, rfl, rfl⟩)
      · exact .inr (.inr (.inl ⟨by simp [h1, h4], h1, h4⟩))
  · by_cases h1 : t = 2
    · subst h1; exact .inl ⟨by decide, rfl⟩
    · by_cases h4 : t = 4
      · subst h4; exact .inr (.inr (.inr ⟨by decide, by decide, rfl, by decide⟩))
      · exact .inr (.inr (.inl ⟨by simp [h1], h1, h4⟩))
  · by_cases h1 : t = 3
    · subst h1; exact .inl ⟨by decide, rfl⟩
    · by_cases h4 : t = 4
      · subst h4; exact .inr (.inr (.inr ⟨by decide, by decide, rfl, by decide⟩))
      · exact .inr (.inr (.inl ⟨by simp [h1], h1, h4⟩))
theorem hd_parts {h : HM} (f : h.Fit) (i : Nat) (hi : h.hdAt i) : (h.hd i).len < 4294967296 ∧ ((h.hd i).fmt = 2 → (h.hd i).spare ≤ 4 * (h.hd i).size) ∧ (h.hd i).size < 16777216 ∧ (h.hd i).fmt < 8 ∧ (h.hd i).spare < 4 := by
  have hx := HM.hd_fit f i
  refine ⟨?_, hi.sane, hx.size, hx.fmt, hx.spare⟩
  have := hx.size
  unfold Hd.len
  split <;> omega

section
variable {w : World} {p : HP} {h : HM} (R : RAt w p h) (f : h.Fit) (o : Nat) (ho : o < 4294967296)
include R f ho
theorem rlen_any (hd : h.hdAt (o / 2)) : Calls Tryd.prog 87 #[ptr p.g, .int .u32 o] w (Told (.int .i64 (h.hd (o / 2)).len) w) := by
  have HH := Lib.hid (rheader_any R f o ho hd)
  obtain ⟨h1, h2, h3, h4, h5⟩ := hd_parts f _ hd
  have HX := Lib.hid (show (h.hd (o / 2)).val = .agg #[.int .i64 (h.hd (o / 2)).size, .int .i64 (h.hd (o / 2)).fmt, .int .i64 (h.hd (o / 2)).spare, .int .u32 (h.hd (o / 2)).cls, .int .u32 (h.hd (o / 2)).ser] from rfl)
  clear hd
  generalize h.hd (o / 2) = x at *
  unfold ptr at HH ⊢
  by_cases hf : x.fmt = 2
  · have HL := Lib.hid (show ((x.len : Nat) : Int) = 4 * (x.size : Int) - x.spare by have := h2 hf; unfold Hd.len; rw [if_pos hf]; omega)
    have hq : ((x.fmt : Int) == 2) = true := by simp; omega
    clear h2 hf h1
    go_enter Tryd.func87, Tryd.ntmps87
    go_wp2_with fail
    refine HH.out.mono ?_
    rintro e w1 ⟨rfl, hb1⟩
    rw [HX.out]
    go_wp2_with fail
    go_ret
    exact ⟨by rw [HL.out]; rfl, hb1.alloc hb1.size _⟩
  · have HL := Lib.hid (show x.len = x.size by unfold Hd.len; rw [if_neg hf])
    have hq : ((x.fmt : Int) == 2) = false := by simp; omega
    clear h2 hf h1
    go_enter Tryd.func87, Tryd.ntmps87
    go_wp2_with fail
    refine HH.out.mono ?_
    rintro e w1 ⟨rfl, hb1⟩
    rw [HX.out]
    go_wp2_with fail
    go_ret
    exact ⟨by rw [HL.out]; rfl, hb1.alloc hb1.size _⟩

set_option maxRecDepth 100000 in
set_option maxHeartbeats 2000000 in
theorem rplace_any (hh : h.Heads) (i : Int) (F : Nat) (fs : List Nat) (hF : (F = 1 ∧ fs = [1, 4]) ∨ (F = 2 ∧ fs = [2]) ∨ (F = 3 ∧ fs = [3])) (hi1 : i ≤ 9223372036854775807) :
    Calls Tryd.prog 84 #[ptr p.g, .int .u32 o, .int .i64 F, .int .i64 i] w (Told (h.placeV o i F fs) w) := by
  have HI := Lib.hid (ris_any R f o ho)
  have hfl := fld1
  cases hi : h.isB o
  · have HV := Lib.hid (show h.placeV o i F fs = .tuple #[.int .i64 0, .int .i64 3] by simp [HM.placeV, HM.lookE, hi])
    rw [hi] at HI
    clear hi hF
    unfold ptr at HI ⊢
    go_enter Tryd.func84, Tryd.ntmps84
    go_wp2_with fail
    refine HI.out.mono ?_
    rintro e w1 ⟨rfl, rfl⟩
    go_wp2_with fail
    go_ret2
    exact ⟨by rw [HV.out]; rfl, Below.refl _ _⟩
  · have hd := HM.isB_hd hh hi
    have HH := Lib.hid (rheader_any R f o ho hd)
    have HL := Lib.hid (fun w' (hb : Below w.heap.size w w') => rlen_any (R.below hb) f o ho hd)
    obtain ⟨g1, g2, g3, g4, g5⟩ := hd_parts f _ hd
    have HE := Lib.hid (show h.lookE o i fs = if fs.contains (h.hd (o / 2)).fmt = false then 21 else if i < 0 ∨ ((h.hd (o / 2)).len : Int) ≤ i then 1 else 0 by simp [HM.lookE, hi])
    have HV := Lib.hid (show h.placeV o i F fs = .tuple #[.int .i64 ((if h.lookE o i fs = 0 then o / 2 + 3 + (if F = 2 then i.toNat / 4 else i.toNat) else 0 : Nat) : Int), .int .i64 (h.lookE o i fs)] from rfl)
    rw [HE.out] at HV
    rw [hi] at HI
    have HX := Lib.hid (show (h.hd (o / 2)).val = .agg #[.int .i64 (h.hd (o / 2)).size, .int .i64 (h.hd (o / 2)).fmt, .int .i64 (h.hd (o / 2)).spare, .int .u32 (h.hd (o / 2)).cls, .int .u32 (h.hd (o / 2)).ser] from rfl)
    have hcc := contains_cases (t := (h.hd (o / 2)).fmt) hF
    have hF3 : F ≤ 3 := by omega
    clear hd hi HE g2 hF hh
    have hq : ((o : Int) / 2) = ((o / 2 : Nat) : Int) := by omega
    have hq2 : o / 2 < 2147483648 := by omega
    generalize h.hd (o / 2) = x at *
    generalize o / 2 = q at *
    unfold ptr at HI HH HL ⊢
    rw [HX.out] at HH
    have bad : ∀ (t4 : Prop), (fs.contains x.fmt = false ∧ x.fmt ≠ F ∧ t4) → Hid (h.placeV o i F fs = .tuple #[.int .i64 0, .int .i64 21]) := fun _ ⟨hc, _, _⟩ => Lib.hid (by rw [HV.out, hc]; simp)
    have good : fs.contains x.fmt = true → Hid (h.placeV o i F fs = .tuple #[.int .i64 ((if (if i < 0 ∨ (x.len : Int) ≤ i then 1 else 0) = 0 then q + 3 + (if F = 2 then i.toNat / 4 else i.toNat) else 0 : Nat) : Int), .int .i64 ((if i < 0 ∨ (x.len : Int) ≤ i then 1 else 0 : Nat) : Int)]) := fun hc => Lib.hid (by rw [HV.out, hc]; simp)
    have fin : fs.contains x.fmt = true → ((((x.fmt : Int) != F) = false) ∨ (((x.fmt : Int) != F) = true ∧ ((x.fmt : Int) != 4) = false ∧ ((F : Int) != 1) = false)) →
        Calls Tryd.prog 84 #[.pointer (some ⟨p.g, 0, none⟩), .int .u32 o, .int .i64 F, .int .i64 i] w (Told (h.placeV o i F fs) w) := by
      intro hc ht
      have HG := good hc
      clear good bad HV hcc hc
      by_cases hneg : i < 0
      · have HP := Lib.hid (show h.placeV o i F fs = .tuple #[.int .i64 0, .int .i64 1] by rw [HG.out, show (if i < 0 ∨ (x.len : Int) ≤ i then 1 else 0) = 1 from if_pos (Or.inl hneg)]; simp)
        clear HG
        have hd : decide (i < 0) = true := by simpa using hneg
        rcases ht with ht | ⟨ht, ht2, ht3⟩
        all_goals
          go_enter Tryd.func84, Tryd.ntmps84
          go_wp2_with fail
          refine HI.out.mono ?_
          rintro e w1 ⟨rfl, rfl⟩
          go_wp2_with fail
          refine HH.out.mono ?_
          rintro e w1 ⟨rfl, hb1⟩
          go_wp2_with fail
          go_ret2
          exact ⟨by rw [HP.out]; rfl, hb1⟩
      · have hd : decide (i < 0) = false := by simpa using hneg
        by_cases hge : (x.len : Int) ≤ i
        · have HP := Lib.hid (show h.placeV o i F fs = .tuple #[.int .i64 0, .int .i64 1] by rw [HG.out, show (if i < 0 ∨ (x.len : Int) ≤ i then 1 else 0) = 1 from if_pos (Or.inr hge)]; simp)
          clear HG
          have hd2 : decide ((x.len : Int) ≤ i) = true := by simpa using hge
          rcases ht with ht | ⟨ht, ht2, ht3⟩
          all_goals
            go_enter Tryd.func84, Tryd.ntmps84
            go_wp2_with fail
            refine HI.out.mono ?_
            rintro e w1 ⟨rfl, rfl⟩
            go_wp2_with fail
            refine HH.out.mono ?_
            rintro e w1 ⟨rfl, hb1⟩
            go_wp2_with fail
            refine (HL.out _ hb1).mono ?_
            rintro e w2 ⟨rfl, hb2⟩
            go_wp2_with fail
            go_ret2
            exact ⟨by rw [HP.out]; rfl, below_top hb1 hb2⟩
        · have hd2 : decide ((x.len : Int) ≤ i) = false := by simpa using hge
          obtain ⟨k, rfl⟩ := Int.eq_ofNat_of_zero_le (by omega : 0 ≤ i)
          have HP := Lib.hid (show h.placeV o k F fs = .tuple #[.int .i64 ((q + 3 + (if F = 2 then k / 4 else k) : Nat) : Int), .int .i64 0] by rw [HG.out, show (if (k : Int) < 0 ∨ (x.len : Int) ≤ (k : Int) then 1 else 0) = 0 from if_neg (by omega)]; simp)
          have hk : k < 4294967296 := by omega
          clear HG
          by_cases h2 : F = 2
          · have hp2 : ((F : Int) == 2) = true := by simp; omega
            rw [if_pos h2] at HP
            clear h2
            rcases ht with ht | ⟨ht, ht2, ht3⟩
            all_goals
              go_enter Tryd.func84, Tryd.ntmps84
              go_wp2_with fail
              refine HI.out.mono ?_
              rintro e w1 ⟨rfl, rfl⟩
              go_wp2_with fail
              refine HH.out.mono ?_
              rintro e w1 ⟨rfl, hb1⟩
              go_wp2_with fail
              refine (HL.out _ hb1).mono ?_
              rintro e w2 ⟨rfl, hb2⟩
              go_wp2_with fail
              go_ret2
              exact ⟨by rw [HP.out]; simp, below_top hb1 hb2⟩
          · have hp2 : ((F : Int) == 2) = false := by simp; omega
            rw [if_neg h2] at HP
            clear h2
            rcases ht with ht | ⟨ht, ht2, ht3⟩
            all_goals
              go_enter Tryd.func84, Tryd.ntmps84
              go_wp2_with fail
              refine HI.out.mono ?_
              rintro e w1 ⟨rfl, rfl⟩
              go_wp2_with fail
              refine HH.out.mono ?_
              rintro e w1 ⟨rfl, hb1⟩
              go_wp2_with fail
              refine (HL.out _ hb1).mono ?_
              rintro e w2 ⟨rfl, hb2⟩
              go_wp2_with fail
              go_ret2
              exact ⟨by rw [HP.out]; simp, below_top hb1 hb2⟩
    rcases hcc with ⟨hc, he⟩ | ⟨hc, h1, h4, hF1⟩ | ⟨hc, h1, h4⟩ | ⟨hc, h1, h4, hF1⟩
    · exact fin hc (.inl (by simp [he]))
    · exact fin hc (.inr ⟨by simp; omega, by simp; omega, by simp; omega⟩)
    · have HB := bad _ ⟨hc, h1, h4⟩
      have ht : ((x.fmt : Int) != F) = true := by simp; omega
      have ht2 : ((x.fmt : Int) != 4) = true := by simp; omega
      clear bad good fin HV hc h1 h4
      go_enter Tryd.func84, Tryd.ntmps84
      go_wp2_with fail
      refine HI.out.mono ?_
      rintro e w1 ⟨rfl, rfl⟩
      go_wp2_with fail
      refine HH.out.mono ?_
      rintro e w1 ⟨rfl, hb1⟩
      go_wp2_with fail
      go_ret2
      exact ⟨by rw [HB.out]; rfl, hb1⟩
    · have HB := bad _ ⟨hc, h1, trivial⟩
      have ht : ((x.fmt : Int) != F) = true := by simp; omega
      have ht2 : ((x.fmt : Int) != 4) = false := by simp; omega
      have ht3 : ((F : Int) != 1) = true := by simp; omega
      clear bad good fin HV hc h1 h4 hF1
      go_enter Tryd.func84, Tryd.ntmps84
      go_wp2_with fail
      refine HI.out.mono ?_
      rintro e w1 ⟨rfl, rfl⟩
      go_wp2_with fail
      refine HH.out.mono ?_
      rintro e w1 ⟨rfl, hb1⟩
      go_wp2_with fail
      go_ret2
      exact ⟨by rw [HB.out]; rfl, hb1⟩
end
end Go.Proofs.YtpajpdjjpgbklaaDoor

namespace Go.Proofs.YtpajpdjjpgbklaaDoor
open Go.RowKit

theorem look_at {h : HM} (hh : h.Heads) {o : Nat} {i : Int} {F : Nat} {fs : List Nat} (hF : (F = 1 ∧ fs = [1, 4]) ∨ (F = 2 ∧ fs = [2]) ∨ (F = 3 ∧ fs = [3])) (he : h.lookE o i fs = 0) :
    ∃ k : Nat, i = k ∧ o / 2 + 3 + (if F = 2 then k / 4 else k) < h.words.length := by
  obtain ⟨hi, hc, h0, hlt⟩ := HM.look_ok he
  have hd := (HM.isB_hd hh hi).1
  obtain ⟨k, rfl⟩ := Int.eq_ofNat_of_zero_le h0
  refine ⟨k, rfl, ?_⟩
  unfold Hd.len at hlt
  rcases hF with ⟨rfl, rfl⟩ | ⟨rfl, rfl⟩ | ⟨rfl, rfl⟩
  · rw [if_neg (fun e => by rw [e] at hc; simp at hc)] at hlt
    rw [if_neg (by omega)]; omega
  · rw [if_pos (by simpa using hc)] at hlt
    rw [if_pos rfl]; omega
  · rw [if_neg (fun e => by rw [e] at hc; simp at hc)] at hlt
    rw [if_neg (by omega)]; omega
theorem HM.placeV_no {h : HM} {o F : Nat} {i : Int} {fs : List Nat} (he : h.lookE o i fs ≠ 0) : h.placeV o i F fs = .tuple #[.int .i64 0, .int .i64 (h.lookE o i fs)] := by
  unfold HM.placeV; rw [if_neg he]; rfl
theorem HM.placeV_at {h : HM} {o F k : Nat} {fs : List Nat} (he : h.lookE o k fs = 0) : h.placeV o k F fs = .tuple #[.int .i64 ((o / 2 + 3 + (if F = 2 then k / 4 else k) : Nat) : Int), .int .i64 0] := by
  unfold HM.placeV; rw [if_pos he, he, Int.toNat_natCast]; rfl
def RDeeds (p : HP) (h' : HM) (E : Nat) (w : World) (e : Ending) (w' : World) : Prop := e = .returned (.int .i64 E) ∧ RAt w' p h' ∧ Step p p w w'

section
variable {w : World} {p : HP} {h : HM} (R : RAt w p h) (f : h.Fit) (hh : h.Heads) (o : Nat) (ho : o < 4294967296) (i : Int) (hi63 : i ≤ 9223372036854775807)
include R f hh ho hi63

set_option maxRecDepth 100000 in
theorem rget_any : Calls Tryd.prog 55 #[ptr p.g, .int .u32 o, .int .i64 i] w (Told (.tuple #[.int .u32 (h.readN o i [1, 4] : Nat), .int .i64 (h.lookE o i [1, 4] : Nat)]) w) := by
  have HP := Lib.hid (rplace_any R f o ho hh i 1 [1, 4] (by decide) hi63)
  have hle := h.lookE_lt o i [1, 4]
  by_cases he : h.lookE o i [1, 4] = 0
  · obtain ⟨k, rfl, hk⟩ := look_at hh (F := 1) (fs := [1, 4]) (by decide) he
    rw [HM.placeV_at he] at HP
    simp only [Nat.reduceEqDiff, if_false] at HP hk
    have HN := Lib.hid (show h.readN o k [1, 4] = fw h o k by unfold HM.readN; rw [if_pos he]; rfl)
    have HC := Lib.hid (show ∀ w', Below w.heap.size w w' → w'.cell? ⟨p.g, 1, none⟩ = some (.slice (some ⟨p.gw, 0, none⟩) h.words.length p.cw) ∧ w'.cell? ⟨p.gw, o / 2 + 3 + k, none⟩ = some (.int .u32 (fw h o k : Nat)) from fun w' hb => ⟨(R.below hb).c1, (R.below hb).word hk⟩)
    have hmx := f.room
    have hmx2 := f.hi
    rw [HN.out, he]
    clear he hle HN R f hh
    generalize fw h o k = v at *
    generalize o / 2 + 3 + k = q at *
    generalize h.words.length = len at *
    unfold ptr at HP ⊢
    go_enter Tryd.func55, Tryd.ntmps55
    go_wp2_with fail
    refine HP.out.mono ?_
    rintro e w1 ⟨rfl, hb⟩
    obtain ⟨c1, cv⟩ := HC.out _ hb
    go_wp2_with fail
    go_ret2
    exact ⟨rfl, hb⟩
  · have hne : ((h.lookE o i [1, 4] : Int) != 0) = true := by simp; omega
    rw [HM.placeV_no he] at HP
    have HN := Lib.hid (show h.readN o i [1, 4] = 0 by unfold HM.readN; rw [if_neg he])
    rw [HN.out]
    generalize h.lookE o i [1, 4] = E at *
    clear he HN
    unfold ptr at HP ⊢
    go_enter Tryd.func55, Tryd.ntmps55
    go_wp2_with fail
    refine HP.out.mono ?_
    rintro e w1 ⟨rfl, hb⟩
    go_wp2_with fail
    go_ret2
    exact ⟨rfl, hb⟩

set_option maxRecDepth 100000 in
theorem rword_any : Calls Tryd.prog 59 #[ptr p.g, .int .u32 o, .int .i64 i] w (Told (.tuple #[.int .u32 (h.readN o i [3] : Nat), .int .i64 (h.lookE o i [3] : Nat)]) w) := by
  have HP := Lib.hid (rplace_any R f o ho hh i 3 [3] (by decide) hi63)
  have hle := h.lookE_lt o i [3]
  by_cases he : h.lookE o i [3] = 0
  · obtain ⟨k, rfl, hk⟩ := look_at hh (F := 3) (fs := [3]) (by decide) he
    rw [HM.placeV_at he] at HP
    simp only [Nat.reduceEqDiff, if_false] at HP hk
    have HN := Lib.hid (show h.readN o k [3] = fw h o k by unfold HM.readN; rw [if_pos he]; rfl)
    have HC := Lib.hid (show ∀ w', Below w.heap.size w w' → w'.cell? ⟨p.g, 1, none⟩ = some (.slice (some ⟨p.gw, 0, none⟩) h.words.length p.cw) ∧ w'.cell? ⟨p.gw, o / 2 + 3 + k, none⟩ = some (.int .u32 (fw h o k : Nat)) from fun w' hb => ⟨(R.below hb).c1, (R.below hb).word hk⟩)
    have hmx := f.room
    have hmx2 := f.hi
    rw [HN.out, he]
    clear he hle HN R f hh
    generalize fw h o k = v at *
    generalize o / 2 + 3 + k = q at *
    generalize h.words.length = len at *
    unfold ptr at HP ⊢
    go_enter Tryd.func59, Tryd.ntmps59
    go_wp2_with fail
    refine HP.out.mono ?_
    rintro e w1 ⟨rfl, hb⟩
    obtain ⟨c1, cv⟩ := HC.out _ hb
    go_wp2_with fail
    go_ret2
    exact ⟨rfl, hb⟩
  · have hne : ((h.lookE o i [3] : Int) != 0) = true := by simp; omega
    rw [HM.placeV_no he] at HP
    have HN := Lib.hid (show h.readN o i [3] = 0 by unfold HM.readN; rw [if_neg he])
    rw [HN.out]
    generalize h.lookE o i [3] = E at *
    clear he HN
    unfold ptr at HP ⊢
    go_enter Tryd.func59, Tryd.ntmps59
    go_wp2_with fail
    refine HP.out.mono ?_
    rintro e w1 ⟨rfl, hb⟩
    go_wp2_with fail
    go_ret2
    exact ⟨rfl, hb⟩

set_option maxRecDepth 100000 in
set_option maxHeartbeats 2000000 in
theorem rbyte_any : Calls Tryd.prog 88 #[ptr p.g, .int .u32 o, .int .i64 i] w (Told (.tuple #[.int .u8 (h.byteN o i : Nat), .int .i64 (h.lookE o i [2] : Nat)]) w) := by
  have HP := Lib.hid (rplace_any R f o ho hh i 2 [2] (by decide) hi63)
  have hle := h.lookE_lt o i [2]
  by_cases he : h.lookE o i [2] = 0
  · obtain ⟨k, rfl, hk⟩ := look_at hh (F := 2) (fs := [2]) (by decide) he
    rw [HM.placeV_at he] at HP
    simp only [if_true] at HP hk
    have HN := Lib.hid (show h.byteN o k = byteOf (fw h o (k / 4)) (k % 4) by unfold HM.byteN; rw [if_pos he]; rfl)
    have HC := Lib.hid (show ∀ w', Below w.heap.size w w' → w'.cell? ⟨p.g, 1, none⟩ = some (.slice (some ⟨p.gw, 0, none⟩) h.words.length p.cw) ∧ w'.cell? ⟨p.gw, o / 2 + 3 + k / 4, none⟩ = some (.int .u32 (fw h o (k / 4) : Nat)) from fun w' hb => ⟨(R.below hb).c1, (R.below hb).word hk⟩)
    have hmx := f.room
    have hmx2 := f.hi
    have hv : fw h o (k / 4) < 4294967296 := f.word _
    rw [HN.out, he]
    clear he hle HN R f hh
    generalize fw h o (k / 4) = v at *
    generalize o / 2 + 3 + k / 4 = q at *
    generalize h.words.length = len at *
    unfold ptr at HP ⊢
    rcases (by omega : k % 4 = 0 ∨ k % 4 = 1 ∨ k % 4 = 2 ∨ k % 4 = 3) with hr | hr | hr | hr
    all_goals
      have hmod : (k : Int) % 4 = ((k % 4 : Nat) : Int) := by omega
      rw [hr] at hmod
      have HFIN := Lib.hid (show ((byteOf v (k % 4) : Nat) : Int) = (v : Int) / ((2 ^ (8 * (k % 4)) : Nat) : Int) % 256 by unfold byteOf; simp)
      rw [hr] at HFIN
      rw [hr]
      clear hr
      go_enter Tryd.func88, Tryd.ntmps88
      go_wp2_with fail
      refine HP.out.mono ?_
      rintro e w1 ⟨rfl, hb⟩
      obtain ⟨c1, cv⟩ := HC.out _ hb
      go_wp2_with fail
      go_ret2
      refine ⟨?_, hb⟩
      rw [HFIN.out]
      first
        | (simp; done)
        | (simp; omega)
        | trace_state
  · have hne : ((h.lookE o i [2] : Int) != 0) = true := by simp; omega
    rw [HM.placeV_no he] at HP
    have HN := Lib.hid (show h.byteN o i = 0 by unfold HM.byteN; rw [if_neg he])
    rw [HN.out]
    generalize h.lookE o i [2] = E at *
    clear he HN
    unfold ptr at HP ⊢
    go_enter Tryd.func88, Tryd.ntmps88
    go_wp2_with fail
    refine HP.out.mono ?_
    rintro e w1 ⟨rfl, hb⟩
    go_wp2_with fail
    go_ret2
    exact ⟨rfl, hb⟩
end
end Go.Proofs.YtpajpdjjpgbklaaDoor

namespace Go.Proofs.YtpajpdjjpgbklaaDoor
open Go.RowKit

section
variable {w : World} {p : HP} {h : HM} (R : RAt w p h) (f : h.Fit) (hh : h.Heads) (o : Nat) (ho : o < 4294967296) (i : Int) (hi63 : i ≤ 9223372036854775807)
include R f hh ho hi63

end

section
variable {w : World} {p : HP} {h : HM} (R : RAt w p h) (f : h.Fit)
include R f
end
end Go.Proofs.YtpajpdjjpgbklaaDoor
