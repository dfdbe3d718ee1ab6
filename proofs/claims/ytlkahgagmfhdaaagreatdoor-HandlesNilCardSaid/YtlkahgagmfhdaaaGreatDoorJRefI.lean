/- The document's heap: lay. -/
/- The document's heap: Alloc. -/
/- A script in memory; what a call of a script keeps. -/
/- A table of handles over a heap, as plain data. -/
/- A table of handles: what clearing slots does, in whatever order. Plain data. -/
/- A table of handles: the slots in use by their numbers. Plain data. -/
import Derived.Test.YtlkahgagmfhdaaaGreatDoorJLive
import Derived.Test.YtlkahgagmfhdaaaGreatDoorJZeros
import Derived.Test.YtlkahgagmfhdaaaGreatDoorJAlloc
import Derived.Deep.RegionLaw
set_option linter.unusedVariables false
set_option linter.unusedSimpArgs false
set_option linter.unusedSectionVars false
namespace Go.Proofs.YtlkahgagmfhdaaaGreatDoor
open Go.RowKit

section
variable {w w1 : World} {p : HP} {h : HM}
/-- The words' row was appended to, and the field holds the new slice. -/
theorem RAt.grewWords (H : RAt w p h) {g1 c1 : Nat} {ys : List Nat} (hr : Row w1 g1 32 c1 (u32s (h.words ++ ys))) (hg : w.grownBy w1 (some p.gw)) (hat : g1 = p.gw ∨ w.heap.size ≤ g1) :
    RAt (w1.setCell ⟨p.g, 1, none⟩ (.slice (some ⟨g1, 0, none⟩) (h.words ++ ys).length c1)) { p with gw := g1, cw := c1 } { h with words := h.words ++ ys } ∧
    Step p { p with gw := g1, cw := c1 } w (w1.setCell ⟨p.g, 1, none⟩ (.slice (some ⟨g1, 0, none⟩) (h.words ++ ys).length c1)) := by
  obtain ⟨hb, hw, hs, hrt⟩ := H
  have n1 : p.g ≠ p.gw := fun e => Row.ne_blk hw hb (by decide) e.symm
  have n2 : p.gs ≠ p.gw := hs.ne_ hw (by decide)
  have n3 : p.gr ≠ p.gw := hrt.ne_ hw (by decide)
  have hb1 := hb.same (hg.block p.g hb.lt (by simpa using n1))
  have hs1 := hs.same (hg.block p.gs hs.lt (by simpa using n2))
  have hr1 := hrt.same (hg.block p.gr hrt.lt (by simpa using n3))
  refine ⟨⟨hb1.set_ 1 _, hr.far (fun e => Row.ne_blk hr hb1 (by decide) e) _, hs1.far (fun e => Row.ne_blk hs1 hb1 (by decide) e) _, hr1.far (fun e => Row.ne_blk hr1 hb1 (by decide) e) _⟩, ?_⟩
  have s1 : Step p { p with gw := g1, cw := c1 } w w1 := ⟨hg.os, hg.tape, hg.output, hg.size, fun k hk hn => hg.block k hk (by
    intro e; injection e with e; exact hn (.inr (.inl e))), rfl, by
    rintro k (hk | hk | hk | hk)
    · exact .inl (.inl hk)
    · rcases hat with e | e
      · exact .inl (.inr (.inl (hk.trans e)))
      · exact .inr (hk ▸ e)
    · exact .inl (.inr (.inr (.inl hk)))
    · exact .inl (.inr (.inr (.inr hk)))⟩
  exact s1.setCell (.inl (.inl rfl)) _
theorem RAt.grewBegins (H : RAt w p h) {g1 c1 : Nat} {ys : List Bool} (hr : Row w1 g1 5 c1 (begins (h.starts ++ ys))) (hg : w.grownBy w1 (some p.gs)) (hat : g1 = p.gs ∨ w.heap.size ≤ g1) :
    RAt (w1.setCell ⟨p.g, 4, none⟩ (.slice (some ⟨g1, 0, none⟩) (h.starts ++ ys).length c1)) { p with gs := g1, cs := c1 } { h with starts := h.starts ++ ys } ∧
    Step p { p with gs := g1, cs := c1 } w (w1.setCell ⟨p.g, 4, none⟩ (.slice (some ⟨g1, 0, none⟩) (h.starts ++ ys).length c1)) := by
  obtain ⟨hb, hw, hs, hrt⟩ := H
  have n1 : p.g ≠ p.gs := fun e => Row.ne_blk hs hb (by decide) e.symm
  have n2 : p.gw ≠ p.gs := hw.ne_ hs (by decide)
  have n3 : p.gr ≠ p.gs := hrt.ne_ hs (by decide)
  have hb1 := hb.same (hg.block p.g hb.lt (by simpa using n1))
  have hw1 := hw.same (hg.block p.gw hw.lt (by simpa using n2))
  have hr1 := hrt.same (hg.block p.gr hrt.lt (by simpa using n3))
  refine ⟨⟨hb1.set_ 4 _, hw1.far (fun e => Row.ne_blk hw1 hb1 (by decide) e) _, hr.far (fun e => Row.ne_blk hr hb1 (by decide) e) _, hr1.far (fun e => Row.ne_blk hr1 hb1 (by decide) e) _⟩, ?_⟩
  have s1 : Step p { p with gs := g1, cs := c1 } w w1 := ⟨hg.os, hg.tape, hg.output, hg.size, fun k hk hn => hg.block k hk (by
    intro e; injection e with e; exact hn (.inr (.inr (.inl e)))), rfl, by
    rintro k (hk | hk | hk | hk)
    · exact .inl (.inl hk)
    · exact .inl (.inr (.inl hk))
    · rcases hat with e | e
      · exact .inl (.inr (.inr (.inl (hk.trans e))))
      · exact .inr (hk ▸ e)
    · exact .inl (.inr (.inr (.inr hk)))⟩
  exact s1.setCell (.inl (.inl rfl)) _
end
def RMade (p : HP) (h' : HM) (v : Value) (w : World) (e : Ending) (w' : World) : Prop := ∃ p', e = .returned v ∧ RAt w' p' h' ∧ Step p p' w w'

theorem wpList_append_zeros {P : Program} {w : World} {ops : Array Oper} {rest : List Oper} {o : Oper} {a : Act} {Q : Exit → Act → World → Prop} (hgd : o.guard = none) (s x : Operand) (t tn : TypeId)
    (ho : o.op = .call { callee := .builtin .append, args := #[s, x], argTypes := #[t, tn] })
    {g c : Nat} {e : TypeId} {xs : List Value} (hr : Row w g e c xs) (i : TypeInfo) (z : Value) (bytes : Nat)
    (ht : P.underlying t = some (.slice e)) (htn : P.underlying tn = some (.int .i64)) (hi : P.info? e = some i) (hz : i.zero = some z) (hsize : i.size = 1) (hby : i.bytes = bytes)
    (hz1 : z.cells = #[z]) (hone : z.oneCell' = true) (n k : Nat) (hn : xs.length = n) (hk : 0 < k) (h63 : n + k ≤ maxLen) (hbytes : (n + k) * bytes ≤ 140737488355328)
    (hs : a.eval s = .slice (some ⟨g, 0, none⟩) n c) (hx : a.eval x = .int .i64 k)
    (h : ∀ g' c' w', Row w' g' e c' (xs ++ List.replicate k z) → w.grownBy w' (some g) → (g' = g ∨ g' = w.heap.size) → wpList P ops Q rest (a.put o.dst (.slice (some ⟨g', 0, none⟩) (n + k) c')) w') : wpList P ops Q (o :: rest) a w := by
  refine wpList_plain hgd fun K hK => ?_
  subst hn
  obtain ⟨g', c', w', hrun, h1, h2, h3⟩ := run_append_zeros hr t tn o.type i z bytes ht htn hi hz hsize hby hz1 hone k hk h63 hbytes
  exact Lib.wp_append_run w s x t tn ho _ _ hs hx _ w' hrun (hK _ _ (h g' c' w' h1 h2 h3))

def RMid (p p' : HP) (h' : HM) (w : World) (gf n : Nat) (ys : List Nat) (wr : World) : Prop :=
  RAt wr p' h' ∧ Step p p' w wr ∧ Row wr gf 32 n (u32s ys) ∧ ¬ p'.has gf
theorem RMid.next {p p' p'' : HP} {h' h'' : HM} {w wr wx : World} {gf n : Nat} {ys : List Nat} (m : RMid p p' h' w gf n ys wr) (R : RAt wx p'' h'') (s : Step p' p'' wr wx) : RMid p p'' h'' w gf n ys wx :=
  ⟨R, m.2.1.trans s, s.row m.2.2.1 m.2.2.2⟩
theorem RMid.below {p p' : HP} {h' : HM} {w wr wx : World} {gf n : Nat} {ys : List Nat} (m : RMid p p' h' w gf n ys wr) (hb : Below wr.heap.size wr wx) : RMid p p' h' w gf n ys wx :=
  m.next (m.1.below hb) (.of_below hb)

set_option maxRecDepth 100000 in
set_option maxHeartbeats 4000000 in
theorem rlay_any {w : World} {p : HP} {h : HM} (R : RAt w p h) (f : h.Fit) (c F s gf n : Nat) (ys : List Nat) (hc : c < 4294967296) (hF : F < 8) (hs : s < 4) (hn : n ≤ 65535) (hyl : ys.length = n) (hr : Row w gf 32 n (u32s ys)) (hg : ¬ p.has gf) :
    Calls Tryz.prog 160 #[ptr p.g, .int .u32 c, .int .i64 F, .int .i64 s, .slice (some ⟨gf, 0, none⟩) n n] w
      (RMade p (if h.size < h.words.length + 3 + n ∨ h.last = 4294967295 then h else h.pushH ⟨n, F, s, c, 0⟩ ys)
        (if h.size < h.words.length + 3 + n ∨ h.last = 4294967295 then .tuple #[.int .u32 0, .int .i64 4] else .tuple #[.int .u32 (2 * h.words.length : Nat), .int .i64 0]) w) := by
  have hroom := f.room
  have hhi := f.hi
  have hone := f.one
  have hl32 := f.l32
  have hmarks := f.marks
  have c0 := R.c0
  have c1 := R.c1
  have c3 := R.c3
  have f3 := R.1.frozen 3
  unfold ptr
  by_cases hfull : h.size < h.words.length + 3 + n
  · have HF := Lib.hid (show (h.size < h.words.length + 3 + n ∨ h.last = 4294967295) from .inl hfull)
    rw [if_pos HF.out, if_pos HF.out]
    have HR := Lib.hid R
    have hgt : decide ((h.size : Int) < (h.words.length : Int) + 3 + (n : Int)) = true := by simp; omega
    clear hfull R f hr
    go_enter Tryz.func160, Tryz.ntmps160
    go_wp2_with fail
    go_quiet (fail)
    go_wp2_with fail
    go_ret2
    exact ⟨p, rfl, HR.out.drewN _, (Step.refl _ _).drewN _⟩
  have hgt : decide ((h.size : Int) < (h.words.length : Int) + 3 + (n : Int)) = false := by simp; omega
  by_cases hlast : h.last = 4294967295
  · have HF := Lib.hid (show (h.size < h.words.length + 3 + n ∨ h.last = 4294967295) from .inr hlast)
    rw [if_pos HF.out, if_pos HF.out]
    have HR := Lib.hid R
    have hq : ((h.last : Int) == 4294967295) = true := by simp; omega
    clear hfull hlast R f hr
    go_enter Tryz.func160, Tryz.ntmps160
    go_wp2_with fail
    go_quiet (fail)
    go_wp2_with fail
    go_ret2
    exact ⟨p, rfl, HR.out.drewN _, (Step.refl _ _).drewN _⟩
  have HF := Lib.hid (show ¬ (h.size < h.words.length + 3 + n ∨ h.last = 4294967295) by omega)
  rw [if_neg HF.out, if_neg HF.out]
  have hq : ((h.last : Int) == 4294967295) = false := by simp; omega
  have HM0 := Lib.hid (show RMid p p h w gf n ys w from ⟨R, Step.refl _ _, hr, hg⟩)
  obtain ⟨l1, hl1⟩ : ∃ l1, h.last + 1 = l1 := ⟨_, rfl⟩
  have hcast : (h.last : Int) + 1 = (l1 : Int) := by omega
  have hl1b : l1 < 4294967296 := by omega
  have HL1 := Lib.hid hl1
  have HFT := Lib.hid f
  clear hlast R hr HF hl1 f
  go_enter Tryz.func160, Tryz.ntmps160
  go_wp2_with fail
  go_quiet (fail)
  go_wp2_with fail
  have HM2 := Lib.hid (show RMid p p { h with last := l1 } w gf n ys ((w.drewN nq).setCell ⟨p.g, 3, none⟩ (.int .u32 (l1 : Nat))) from
    (show RMid p p h w gf n ys (w.drewN nq) from HM0.out.below (below_drewN (Below.refl _ _) _)).next ((HM0.out.1.drewN nq).setLast l1) ((Step.refl _ _).setCell (.inl (.inl rfl)) _))
  clear HM0 c0 c1 c3 f3
  generalize (w.drewN nq).setCell _ _ = W2 at *
  have HPK := Lib.hid (fun w => rpack_any ⟨n, F, s, c, l1⟩ ⟨by show n < 16777216; omega, hF, hs, hc, hl1b⟩ w)
  unfold Hd.val Hd.packed at HPK
  generalize hw0 : Hd.w0 ⟨n, F, s, c, l1⟩ = w0 at *
  have HW0 := Lib.hid hw0
  clear hw0
  refine (HPK.out _).mono ?_
  rintro e w3 ⟨rfl, hb3⟩
  clear HPK
  go_upto_region 5 with fail
  have HM4 := Lib.hid ((HM2.out.below hb3).below (below_alloc1 (o := .cells #[.int .u32 w0, .int .u32 c, .int .u32 l1] 248) (Below.refl _ w3)))
  have HT4 := Lib.hid (Blk.new w3 248 #[.int .u32 w0, .int .u32 c, .int .u32 l1])
  clear HM2 hb3
  generalize w3.alloc (.cells #[.int .u32 w0, .int .u32 c, .int .u32 l1] 248) = W4 at *
  generalize w3.heap.size = gT at *
  have k1 := HM4.out.1.c1
  have k4 := HM4.out.1.c4
  simp only [hmarks] at k4
  have hown := HM4.out.1.2.2.1.owns
  rw [begins_len] at hown
  simp only [hmarks] at hown
  have HO := Lib.hid hown
  have z4 := HM4.out.1.1.frozen 4
  have n1 : p.g ≠ p.gs := fun e => Row.ne_blk HM4.out.1.2.2.1 HM4.out.1.1 (by decide) e.symm
  have hgg : p.g < W4.heap.size := HM4.out.1.lt (.inl rfl)
  clear hown
  obtain ⟨i0, hi0, hz0, hz1, hz2⟩ := info_parts info_u8
  go_upto_region 7 with (at_builtin; refine wpList_append_any _ rfl (.tmp 62) (.tmp 63) _ rfl 0 5 i0 _ 1 1 Tryz.underlying22 hi0 hz0 hz1 hz2 rfl (by omega) (.slice (some ⟨p.gs, 0, none⟩) h.words.length p.cs) h.words.length _ rfl (HO.out.alloc _) (W4.heap.size + 1) (some ⟨W4.heap.size, 0, none⟩) 1 1 (u8c [1]) rfl ⟨rfl, fun _ => ⟨_, rfl, by simp, cell_one_new _ _ _⟩⟩ (one_u8c _) (by simp only [maxLen]; omega) (by omega) (by omega) ?_; intro v5 w5 hown5 hg5 hat5; obtain ⟨g5, c5, rfl, hrow5, hlen5, _⟩ := Row.of_any hown5 (by omega); have k5 := (hg5.cell_far ⟨p.g, 4, none⟩ (by simp; omega) (by simp [Value.ownBlock]; exact n1)).trans ((World.cell?_alloc_lt _ _ _ hgg).trans k4); have z5 := (hg5.frozen_far ⟨p.g, 4, none⟩ (by simp; omega) (by simp [Value.ownBlock]; exact n1)).trans (((below_alloc1 (Below.refl _ W4)).frozen (p := ⟨p.g, 4, none⟩) hgg).trans z4); clear hown5)
  have hu5 : begins h.starts ++ u8c [1] = begins (h.starts ++ [true]) := by simp [begins, u8c]
  have hl5 : (h.starts ++ [true]).length = h.words.length + 1 := by simp [hmarks]
  rw [hu5] at hrow5
  have HM4' := HM4.out.below (below_alloc1 (o := .cells #[.int .u8 1] 5) (Below.refl _ W4))
  obtain ⟨H6, s6⟩ := RAt.grewBegins (ys := [true]) HM4'.1 hrow5 hg5 (by
    rcases hat5 with e | e
    · left; simpa [Value.ownBlock] using e
    · right; simp only [Value.ownBlock, Option.some.injEq] at e; omega)
  simp only [hl5] at H6 s6
  have HM6 := Lib.hid (HM4'.next H6 s6)
  have BT6 := Lib.hid (show Blk (w5.setCell ⟨p.g, 4, none⟩ (.slice (some ⟨g5, 0, none⟩) (h.words.length + 1) c5)) gT 248 #[.int .u32 w0, .int .u32 c, .int .u32 l1] from
    ((HT4.out.alloc _).same (hg5.block gT (HT4.out.alloc _).lt (by simp only [Value.ownBlock]; intro e; injection e with e; exact Row.ne_blk HM4.out.1.2.2.1 HT4.out (by decide) e.symm))).far (p := ⟨p.g, 4, none⟩) (fun e => Blk.ne_ HT4.out HM4.out.1.1 (by decide) e) _)
  clear HM4' hu5 hl5 hrow5 hg5 hat5 hlen5 k5 z5 HM4 HT4 k1 k4 HO z4 n1 hgg H6 s6
  generalize w5.setCell _ _ = W6 at *
  generalize hp6 : ({ p with gs := g5, cs := c5 } : HP) = p6 at *
  have HG6 := Lib.hid (show p6.g = p.g by rw [← hp6])
  clear hp6
  have q1 := HM6.out.1.c1
  have q4 := HM6.out.1.c4
  have zz4 := HM6.out.1.1.frozen 4
  have hsl : (h.starts ++ [true]).length = h.words.length + 1 := by simp [hmarks]
  simp only [hsl] at q4
  rw [HG6.out] at q1 q4 zz4
  have n1 : p.g ≠ p6.gs := fun e => Row.ne_blk HM6.out.1.2.2.1 HM6.out.1.1 (by decide) (by rw [HG6.out]; exact e.symm)
  have hgg : p.g < W6.heap.size := by have := HM6.out.1.lt (.inl rfl); rw [HG6.out] at this; exact this
  have HSL := Lib.hid (show (begins (h.starts ++ [true])).length = h.words.length + 1 by rw [begins_len]; exact hsl)
  have a1 : IntKind.i64.wrap (2 + (n : Int)) = 2 + (n : Int) := IntWalk.i64_in _ (by omega)
  clear hsl
  go_upto_region 8 with (at_builtin; refine wpList_append_zeros rfl (.tmp 71) (.tmp 74) _ _ rfl (show Row W6 p6.gs 5 p6.cs (begins (h.starts ++ [true])) from HM6.out.1.2.2.1) i0 _ 1 Tryz.underlying22 Tryz.underlying3 hi0 hz0 hz1 hz2 rfl rfl (h.words.length + 1) (2 + n) HSL.out (by omega) (by simp only [maxLen]; omega) (by omega) rfl (by first | rfl | (simp; omega)) ?_; intro g7 c7 w7 hrow7 hg7 hat7; have k7 := (hg7.cell_far ⟨p.g, 4, none⟩ hgg (by simpa using n1)).trans q4; have z7 := (hg7.frozen_far ⟨p.g, 4, none⟩ hgg (by simpa using n1)).trans zz4)
  have hu7 : begins (h.starts ++ [true]) ++ List.replicate (2 + n) (.int .u8 0) = begins (h.starts ++ [true] ++ List.replicate (2 + n) false) := by simp [begins]
  have hl7 : (h.starts ++ [true] ++ List.replicate (2 + n) false).length = h.words.length + 1 + (2 + n) := by simp [hmarks]; omega
  rw [hu7] at hrow7
  obtain ⟨H8, s8⟩ := RAt.grewBegins (ys := List.replicate (2 + n) false) HM6.out.1 hrow7 hg7 (by
    rcases hat7 with e | e
    · exact .inl e
    · right; rw [e]; exact Nat.le_refl _)
  simp only [hl7] at H8 s8
  rw [HG6.out] at H8 s8
  have HM8 := Lib.hid (HM6.out.next H8 s8)
  have BT8 := Lib.hid (show Blk (w7.setCell ⟨p.g, 4, none⟩ (.slice (some ⟨g7, 0, none⟩) (h.words.length + 1 + (2 + n)) c7)) gT 248 #[.int .u32 w0, .int .u32 c, .int .u32 l1] from
    (BT6.out.same (hg7.block gT BT6.out.lt (by intro e; injection e with e; exact Row.ne_blk HM6.out.1.2.2.1 BT6.out (by decide) e.symm))).far (p := ⟨p.g, 4, none⟩) (fun e => Blk.ne_ BT6.out HM6.out.1.1 (by decide) (by rw [HG6.out]; exact e)) _)
  clear hu7 hl7 hrow7 hg7 hat7 k7 z7 HM6 BT6 q1 q4 zz4 n1 hgg H8 s8 HSL a1 hi0 hz0 hz1 hz2
  generalize w7.setCell _ _ = W8 at *
  generalize hp8 : (⟨p.g, p6.gw, p6.cw, g7, c7, p6.gr, p6.cr⟩ : HP) = p8 at *
  have HG8 := Lib.hid (show p8.g = p.g by rw [← hp8])
  clear hp8
  have q1 := HM8.out.1.c1
  have zz1 := HM8.out.1.1.frozen 1
  rw [HG8.out] at q1 zz1
  simp only at q1
  have hown := HM8.out.1.2.1.owns
  rw [u32s_len] at hown
  simp only at hown
  have HO := Lib.hid hown
  have HN := Lib.hid (show Reads (W8.alloc (.cells #[.int .u32 w0, .int .u32 c, .int .u32 l1] 32)) (W8.heap.size + 1) 1 (some ⟨W8.heap.size, 0, none⟩) 3 (u32s [w0, c, l1]) from ⟨rfl, fun _ => ⟨_, rfl, by simp, fun j u hj => by
    rw [WideShapes.add_plain, Nat.zero_add, (Blk.new W8 _ _).cell]
    simpa [u32s] using hj⟩⟩)
  have n1 : p.g ≠ p8.gw := fun e => Row.ne_blk HM8.out.1.2.1 HM8.out.1.1 (by decide) (by rw [HG8.out]; exact e.symm)
  have hgg : p.g < W8.heap.size := by have := HM8.out.1.lt (.inl rfl); rw [HG8.out] at this; exact this
  have hnb : W8.heap.size ≠ p.g := by omega
  obtain ⟨t0, t1, t2⟩ := BT8.out.cells3
  have htl := BT8.out.lt
  obtain ⟨i1, hi0, hz0, hz1, hz2⟩ := info_parts info_u32
  clear hown
  go_cut [78] (fun v wx => ∃ p9, RMid p p9 { h with words := h.words ++ [w0, c, l1], starts := h.starts ++ [true] ++ List.replicate (2 + n) false, last := l1 } w gf n ys wx)
  case first =>
    go_region_law
      ((refine step_append_any _ (by rfl) _ _ _ (by rfl) 0 32 i1 _ 1 4 Tryz.underlying84 hi0 hz0 hz1 hz2 rfl (by omega) (.slice (some ⟨p8.gw, 0, none⟩) h.words.length p8.cw) h.words.length (u32s h.words) (by rfl) (HO.out.alloc _).drew (W8.heap.size + 1) (some ⟨W8.heap.size, 0, none⟩) 3 3 (u32s [w0, c, l1]) (by rfl) HN.out.drew (one_u32s _) (by simp only [maxLen]; omega) (by omega) (by omega) ?_; intro v9 w9 hown9 hg9 hat9; obtain ⟨g9, c9, rfl, hrow9, hlen9, _⟩ := Row.of_any hown9 (by omega); have k9 := (hg9.cell_far ⟨p.g, 1, none⟩ (by simp [World.drew]; omega) (by simp [Value.ownBlock]; exact n1)).trans ((World.cell?_alloc_lt _ _ _ hgg).trans q1); have z9 := (hg9.frozen_far ⟨p.g, 1, none⟩ (by simp [World.drew]; omega) (by simp [Value.ownBlock]; exact n1)).trans (((below_alloc1 (Below.refl _ W8)).frozen (p := ⟨p.g, 1, none⟩) hgg).trans zz1); clear hown9))
    all_goals
      have hu9 : u32s h.words ++ u32s [w0, c, l1] = u32s (h.words ++ [w0, c, l1]) := by simp [u32s]
      have hl9 : (h.words ++ [w0, c, l1]).length = h.words.length + 3 := by simp
      rw [hu9] at hrow9
      have HM8' := HM8.out.below (below_drew (below_alloc1 (o := .cells #[.int .u32 w0, .int .u32 c, .int .u32 l1] 32) (Below.refl _ W8)))
      obtain ⟨H10, s10⟩ := RAt.grewWords (ys := [w0, c, l1]) HM8'.1 hrow9 hg9 (by
        rcases hat9 with e | e
        · left; simpa [Value.ownBlock] using e
        · right; simp only [Value.ownBlock, Option.some.injEq] at e; omega)
      simp only [hl9] at H10 s10
      rw [HG8.out] at H10 s10
      go_wp2_with fail
      go_meet
      exact ⟨_, HM8'.next H10 s10⟩
  case rest =>
    obtain ⟨p9, HM9⟩ := hcut
    clear HM8 HN HO BT8 t0 t1 t2 htl q1 zz1 n1 hgg hnb
    have HG9 := Lib.hid (show p9.g = p.g from HM9.2.1.g)
    have hl9 : (h.words ++ [w0, c, l1]).length = h.words.length + 3 := by simp
    have q1 := HM9.1.c1
    have zz1 := HM9.1.1.frozen 1
    rw [HG9.out] at q1 zz1
    simp only [hl9] at q1
    have hown := HM9.1.2.1.owns
    rw [u32s_len] at hown
    simp only [hl9] at hown
    have HO := Lib.hid hown
    have HN := Lib.hid (show Reads wc wc.heap.size 1 (some ⟨gf, 0, none⟩) n (u32s ys) by have := HM9.2.2.1.reads HM9.2.2.1.lt; rw [u32s_len, hyl] at this; exact this)
    have n1 : p.g ≠ p9.gw := fun e => Row.ne_blk HM9.1.2.1 HM9.1.1 (by decide) (by rw [HG9.out]; exact e.symm)
    have hgg : p.g < wc.heap.size := by have := HM9.1.lt (.inl rfl); rw [HG9.out] at this; exact this
    have HMZ := Lib.hid HM9
    clear hown hl9 HM9
    obtain ⟨i2, hj0, hj1, hj2, hj3⟩ := info_parts info_u32
    go_wp2_with (at_builtin; refine wpList_append_any _ rfl (.tmp 97) (.tmp 98) _ rfl 0 32 i2 _ 1 4 Tryz.underlying84 hj0 hj1 hj2 hj3 rfl (by omega) (.slice (some ⟨p9.gw, 0, none⟩) (h.words.length + 3) p9.cw) (h.words.length + 3) _ rfl HO.out wc.heap.size (some ⟨gf, 0, none⟩) n n (u32s ys) rfl HN.out (one_u32s _) (by simp only [maxLen]; omega) (by omega) (by omega) ?_; intro v11 w11 hown11 hg11 hat11; obtain ⟨g11, c11, rfl, hrow11, hlen11, _⟩ := Row.of_any hown11 (by omega); have k11 := (hg11.cell_far ⟨p.g, 1, none⟩ hgg (by simp [Value.ownBlock]; exact n1)).trans q1; have z11 := (hg11.frozen_far ⟨p.g, 1, none⟩ hgg (by simp [Value.ownBlock]; exact n1)).trans zz1; clear hown11)
    have hu : u32s (h.words ++ [w0, c, l1]) ++ u32s ys = u32s (h.words ++ [w0, c, l1] ++ ys) := by simp [u32s]
    have hl : (h.words ++ [w0, c, l1] ++ ys).length = h.words.length + 3 + n := by simp [hyl]; omega
    rw [hu] at hrow11
    obtain ⟨H12, s12⟩ := RAt.grewWords (ys := ys) HMZ.out.1 hrow11 hg11 (by
      rcases hat11 with e | e
      · left; simpa [Value.ownBlock] using e
      · right; simp only [Value.ownBlock, Option.some.injEq] at e; omega)
    simp only [hl] at H12 s12
    rw [HG9.out] at H12 s12
    have HE := Lib.hid (show h.pushH ⟨n, F, s, c, 0⟩ ys = { h with words := h.words ++ [w0, c, l1] ++ ys, starts := h.starts ++ [true] ++ List.replicate (2 + n) false, last := l1 } by
      unfold HM.pushH
      rw [show Hd.w0 ⟨n, F, s, c, 0⟩ = w0 from HW0.out, HL1.out]
      simp)
    go_ret2
    exact ⟨_, rfl, by rw [HE.out]; exact H12, HMZ.out.2.1.trans s12⟩
end Go.Proofs.YtlkahgagmfhdaaaGreatDoor

namespace Go.Proofs.YtlkahgagmfhdaaaGreatDoor
open Go.RowKit
attribute [local go_sem] Oper.semAt_some

theorem RMade.after {p : HP} {h' : HM} {v : Value} {w w1 w' : World} {e : Ending} (m : RMade p h' v w1 e w') (hb : Below w.heap.size w w1) : RMade p h' v w e w' := by
  obtain ⟨p', h1, h2, h3⟩ := m
  exact ⟨p', h1, h2, (Step.of_below hb).trans h3⟩
theorem rep_at (k n a b : Nat) (hk : k < n) : (List.replicate k a ++ List.replicate (n - k) b)[k]? = some b := by
  rw [List.getElem?_append_right (by simp), List.length_replicate, Nat.sub_self, List.getElem?_replicate, if_pos (by omega)]
theorem set_replicate_app (k n a b : Nat) (hk : k < n) : (List.replicate k a ++ List.replicate (n - k) b).set k a = List.replicate (k + 1) a ++ List.replicate (n - (k + 1)) b := by
  rw [List.set_append_right _ _ (by simp), List.length_replicate, Nat.sub_self, show n - k = (n - (k + 1)) + 1 by omega, List.replicate_succ, List.set_cons_zero, List.replicate_succ' (n := k)]
  simp
theorem push_eq {h : HM} (c t k : Nat) (hcl : h.clsB c = true) :
    h.allocH (mkHd c t k) = (if h.size < h.words.length + 3 + k ∨ h.last = 4294967295 then h else h.pushH ⟨k, t, 0, c, 0⟩ (List.replicate k (if t = 1 ∨ t = 4 then h.roots.getD 0 0 else 0))) ∧
    h.allocV (mkHd c t k) = (if h.size < h.words.length + 3 + k ∨ h.last = 4294967295 then .tuple #[.int .u32 0, .int .i64 4] else .tuple #[.int .u32 (2 * h.words.length : Nat), .int .i64 0]) := by
  unfold HM.allocH HM.allocV HM.allocE
  have e : mkHd c (t : Int) (k : Int) = ⟨k, t, 0, c, 0⟩ := rfl
  rw [e]
  dsimp only
  rw [hcl]
  have hf : h.fill ⟨k, t, 0, c, 0⟩ = (if t = 1 ∨ t = 4 then h.roots.getD 0 0 else 0) := by
    unfold HM.fill Hd.ptrB
    by_cases ht : t = 1 ∨ t = 4
    · simp [ht]
    · simp [ht]
  rw [hf]
  by_cases hfull : h.size < h.words.length + 3 + k ∨ h.last = 4294967295
  · simp [hfull]
  · simp [hfull]
section
variable {w : World} {p : HP} {h : HM} (R : RAt w p h) (f : h.Fit)
include R f
set_option maxRecDepth 100000 in
set_option maxHeartbeats 4000000 in
theorem rAlloc_any (c : Nat) (hc : c < 4294967296) (t n : Int) :
    Calls Tryz.prog 76 #[ptr p.g, .int .u32 c, .int .i64 t, .int .i64 n] w (RMade p (h.AllocH c t n) (h.AllocV c t n) w) := by
  have bad : allocOk t n = false → (h.AllocH c t n = h ∧ h.AllocV c t n = .tuple #[.int .u32 0, .int .i64 1]) := fun e => by simp [HM.AllocH, HM.AllocV, e]
  have HK := Lib.hid (risclass_any R f c hc)
  have HR := Lib.hid R
  by_cases h1 : t < 1
  · have HF := Lib.hid (bad (by simp [allocOk]; omega))
    clear bad
    go_enter Tryz.func76, Tryz.ntmps76
    go_wp2_with fail
    go_ret2
    exact ⟨p, by rw [HF.out.2]; rfl, by rw [HF.out.1]; exact HR.out, Step.refl _ _⟩
  by_cases h2 : 4 < t
  · have HF := Lib.hid (bad (by simp [allocOk]; omega))
    clear bad
    go_enter Tryz.func76, Tryz.ntmps76
    go_wp2_with fail
    go_ret2
    exact ⟨p, by rw [HF.out.2]; rfl, by rw [HF.out.1]; exact HR.out, Step.refl _ _⟩
  by_cases h3 : n < 0
  · have HF := Lib.hid (bad (by simp [allocOk]; omega))
    clear bad
    go_enter Tryz.func76, Tryz.ntmps76
    go_wp2_with fail
    go_ret2
    exact ⟨p, by rw [HF.out.2]; rfl, by rw [HF.out.1]; exact HR.out, Step.refl _ _⟩
  by_cases h4 : 65535 < n
  · have HF := Lib.hid (bad (by simp [allocOk]; omega))
    clear bad
    go_enter Tryz.func76, Tryz.ntmps76
    go_wp2_with fail
    go_ret2
    exact ⟨p, by rw [HF.out.2]; rfl, by rw [HF.out.1]; exact HR.out, Step.refl _ _⟩
  obtain ⟨k, rfl⟩ := Int.eq_ofNat_of_zero_le (by omega : 0 ≤ n)
  have hn : k ≤ 65535 := by omega
  unfold ptr at HK ⊢
  cases hcl : h.clsB c
  · have HF := Lib.hid (show h.AllocH c t (k : Int) = h ∧ h.AllocV c t (k : Int) = .tuple #[.int .u32 0, .int .i64 3] by
      unfold HM.AllocH HM.AllocV
      have : allocOk t (k : Int) = true := by simp [allocOk]; omega
      rw [if_pos this, if_pos this]
      unfold HM.allocH HM.allocV HM.allocE mkHd
      simp [hcl])
    rw [hcl] at HK
    clear hcl bad R
    go_enter Tryz.func76, Tryz.ntmps76
    go_wp2_with fail
    refine HK.out.mono ?_
    rintro e w1 ⟨rfl, rfl⟩
    go_wp2_with fail
    go_ret2
    exact ⟨p, by rw [HF.out.2]; rfl, by rw [HF.out.1]; exact HR.out, Step.refl _ _⟩
  · rw [hcl] at HK
    have hmk := make_u32 k (by omega)
    have hrl := f.roots
    have HFIT := Lib.hid f
    have HCL := Lib.hid hcl
    have hnp : ¬ p.has w.heap.size := fun hh => by have := R.lt hh; omega
    have HNP := Lib.hid hnp
    clear bad hcl hnp
    rcases (by omega : t = 1 ∨ t = 4 ∨ t = 2 ∨ t = 3) with rfl | rfl | rfl | rfl
    · have HF := Lib.hid (show h.AllocH c 1 (k : Int) = (if h.size < h.words.length + 3 + k ∨ h.last = 4294967295 then h else h.pushH ⟨k, 1, 0, c, 0⟩ (List.replicate k (h.roots.getD 0 0))) ∧
          h.AllocV c 1 (k : Int) = (if h.size < h.words.length + 3 + k ∨ h.last = 4294967295 then .tuple #[.int .u32 0, .int .i64 4] else .tuple #[.int .u32 (2 * h.words.length : Nat), .int .i64 0]) by
        have hok : allocOk 1 (k : Int) = true := by simp [allocOk]; omega
        unfold HM.AllocH HM.AllocV
        rw [if_pos hok, if_pos hok]
        exact push_eq c 1 k HCL.out)
      have HLY := Lib.hid (fun wr hb hr => rlay_any (w := wr) (R.below hb) f c 1 0 w.heap.size k (List.replicate k (h.roots.getD 0 0)) hc (by omega) (by omega) hn (by simp) hr HNP.out)
      have HC2 := Lib.hid (fun wr (hb : Below w.heap.size w wr) => (R.below hb).c2)
      have HC0 := Lib.hid (fun wr (hb : Below w.heap.size w wr) => (R.below hb).root (i := 0) (by omega))
      generalize h.roots.getD 0 0 = r0 at *
      clear R
      go_enter Tryz.func76, Tryz.ntmps76
      go_wp2_with fail
      refine HK.out.mono ?_
      rintro e w1 ⟨rfl, rfl⟩
      go_wp2_with fail
      have HS := Lib.hid (zcells_row w 32 k 0 (by simp only [maxLen]; omega))
      have HB0 := Lib.hid (show Below w.heap.size w (w.alloc (.cells (zcells (.int .u32 0) k) 32)) from (Below.refl _ _).alloc (Nat.le_refl _) _)
      clear hmk
      go_loopw [11] (fun i wr => ∃ j : Nat, j ≤ k ∧ i = .int .i64 j ∧ Row wr w.heap.size 32 k (u32s (List.replicate j r0 ++ List.replicate (k - j) 0)) ∧ Below w.heap.size w wr) (fun i _ => k - (intOf i).toNat)
      case atStart => exact ⟨0, by omega, rfl, by simpa using HS.out, HB0.out⟩
      case round =>
        obtain ⟨j, hj, rfl, hrow, hbel⟩ := hrel
        have HBEL := Lib.hid hbel
        rcases Nat.lt_or_ge j k with hlt | hge
        · have hset := hrow.set j (.int .u32 (r0 : Int))
          rw [show (u32s (List.replicate j r0 ++ List.replicate (k - j) 0)).set j (.int .u32 (r0 : Int)) = u32s (List.replicate (j + 1) r0 ++ List.replicate (k - (j + 1)) 0) by rw [← set_replicate_app j k r0 0 hlt]; simp [u32s, List.map_set]] at hset
          have hcw := hrow.cell (i := j) (u := .int .u32 0) (by simp only [u32s, List.getElem?_map, rep_at j k r0 0 hlt]; rfl)
          have hcf := hrow.frozen j
          have HSET := Lib.hid hset
          have k2 := HC2.out wr hbel
          have k3 := HC0.out wr hbel
          rw [hrl] at k2
          clear hset hrow hbel HS HB0
          have hjk : (j : Int) < (k : Int) := by omega
          go_wp2_with fail
          go_roundw
          case rel => exact ⟨j + 1, by omega, by go_num, HSET.out, HBEL.out.setCell (p := ⟨w.heap.size, j, none⟩) (Nat.le_refl _) _⟩
          case measure => simp [intOf]; omega
        · obtain rfl : j = k := by omega
          have hrow' : Row wr w.heap.size 32 j (u32s (List.replicate j r0)) := by simpa using hrow
          have HLC := Lib.hid (HLY.out wr hbel hrow')
          rw [← HF.out.1, ← HF.out.2, HM.AllocV_eq] at HLC
          clear hrow hrow' hbel HLY HS HB0
          go_wp2_with fail
          refine HLC.out.mono ?_
          rintro e w2 ⟨p2, rfl, R2, S2⟩
          have HR2 := Lib.hid R2
          have HS2 := Lib.hid S2
          clear R2 S2
          go_wp2_with fail
          go_ret2
          exact ⟨p2, by rw [HM.AllocV_eq]; rfl, HR2.out, (Step.of_below HBEL.out).trans HS2.out⟩
    · have HF := Lib.hid (show h.AllocH c 4 (k : Int) = (if h.size < h.words.length + 3 + k ∨ h.last = 4294967295 then h else h.pushH ⟨k, 4, 0, c, 0⟩ (List.replicate k (h.roots.getD 0 0))) ∧
          h.AllocV c 4 (k : Int) = (if h.size < h.words.length + 3 + k ∨ h.last = 4294967295 then .tuple #[.int .u32 0, .int .i64 4] else .tuple #[.int .u32 (2 * h.words.length : Nat), .int .i64 0]) by
        have hok : allocOk 4 (k : Int) = true := by simp [allocOk]; omega
        unfold HM.AllocH HM.AllocV
        rw [if_pos hok, if_pos hok]
        exact push_eq c 4 k HCL.out)
      have HLY := Lib.hid (fun wr hb hr => rlay_any (w := wr) (R.below hb) f c 4 0 w.heap.size k (List.replicate k (h.roots.getD 0 0)) hc (by omega) (by omega) hn (by simp) hr HNP.out)
      have HC2 := Lib.hid (fun wr (hb : Below w.heap.size w wr) => (R.below hb).c2)
      have HC0 := Lib.hid (fun wr (hb : Below w.heap.size w wr) => (R.below hb).root (i := 0) (by omega))
      generalize h.roots.getD 0 0 = r0 at *
      clear R
      go_enter Tryz.func76, Tryz.ntmps76
      go_wp2_with fail
      refine HK.out.mono ?_
      rintro e w1 ⟨rfl, rfl⟩
      go_wp2_with fail
      have HS := Lib.hid (zcells_row w 32 k 0 (by simp only [maxLen]; omega))
      have HB0 := Lib.hid (show Below w.heap.size w (w.alloc (.cells (zcells (.int .u32 0) k) 32)) from (Below.refl _ _).alloc (Nat.le_refl _) _)
      clear hmk
      go_loopw [11] (fun i wr => ∃ j : Nat, j ≤ k ∧ i = .int .i64 j ∧ Row wr w.heap.size 32 k (u32s (List.replicate j r0 ++ List.replicate (k - j) 0)) ∧ Below w.heap.size w wr) (fun i _ => k - (intOf i).toNat)
      case atStart => exact ⟨0, by omega, rfl, by simpa using HS.out, HB0.out⟩
      case round =>
        obtain ⟨j, hj, rfl, hrow, hbel⟩ := hrel
        have HBEL := Lib.hid hbel
        rcases Nat.lt_or_ge j k with hlt | hge
        · have hset := hrow.set j (.int .u32 (r0 : Int))
          rw [show (u32s (List.replicate j r0 ++ List.replicate (k - j) 0)).set j (.int .u32 (r0 : Int)) = u32s (List.replicate (j + 1) r0 ++ List.replicate (k - (j + 1)) 0) by rw [← set_replicate_app j k r0 0 hlt]; simp [u32s, List.map_set]] at hset
          have hcw := hrow.cell (i := j) (u := .int .u32 0) (by simp only [u32s, List.getElem?_map, rep_at j k r0 0 hlt]; rfl)
          have hcf := hrow.frozen j
          have HSET := Lib.hid hset
          have k2 := HC2.out wr hbel
          have k3 := HC0.out wr hbel
          rw [hrl] at k2
          clear hset hrow hbel HS HB0
          have hjk : (j : Int) < (k : Int) := by omega
          go_wp2_with fail
          go_roundw
          case rel => exact ⟨j + 1, by omega, by go_num, HSET.out, HBEL.out.setCell (p := ⟨w.heap.size, j, none⟩) (Nat.le_refl _) _⟩
          case measure => simp [intOf]; omega
        · obtain rfl : j = k := by omega
          have hrow' : Row wr w.heap.size 32 j (u32s (List.replicate j r0)) := by simpa using hrow
          have HLC := Lib.hid (HLY.out wr hbel hrow')
          rw [← HF.out.1, ← HF.out.2, HM.AllocV_eq] at HLC
          clear hrow hrow' hbel HLY HS HB0
          go_wp2_with fail
          refine HLC.out.mono ?_
          rintro e w2 ⟨p2, rfl, R2, S2⟩
          have HR2 := Lib.hid R2
          have HS2 := Lib.hid S2
          clear R2 S2
          go_wp2_with fail
          go_ret2
          exact ⟨p2, by rw [HM.AllocV_eq]; rfl, HR2.out, (Step.of_below HBEL.out).trans HS2.out⟩
    · have HF := Lib.hid (show h.AllocH c 2 (k : Int) = (if h.size < h.words.length + 3 + k ∨ h.last = 4294967295 then h else h.pushH ⟨k, 2, 0, c, 0⟩ (List.replicate k 0)) ∧
          h.AllocV c 2 (k : Int) = (if h.size < h.words.length + 3 + k ∨ h.last = 4294967295 then .tuple #[.int .u32 0, .int .i64 4] else .tuple #[.int .u32 (2 * h.words.length : Nat), .int .i64 0]) by
        have hok : allocOk 2 (k : Int) = true := by simp [allocOk]; omega
        unfold HM.AllocH HM.AllocV
        rw [if_pos hok, if_pos hok]
        exact push_eq c 2 k HCL.out)
      have HLY := Lib.hid (fun wr hb hr => rlay_any (w := wr) (R.below hb) f c 2 0 w.heap.size k (List.replicate k 0) hc (by omega) (by omega) hn (by simp) hr HNP.out)
      clear R
      go_enter Tryz.func76, Tryz.ntmps76
      go_wp2_with fail
      refine HK.out.mono ?_
      rintro e w1 ⟨rfl, rfl⟩
      go_wp2_with fail
      have HS := Lib.hid (zcells_row w 32 k 0 (by simp only [maxLen]; omega))
      have HB0 := Lib.hid (show Below w.heap.size w (w.alloc (.cells (zcells (.int .u32 0) k) 32)) from (Below.refl _ _).alloc (Nat.le_refl _) _)
      clear hmk
      go_loopw [11] (fun i wr => i = .int .i64 0 ∧ wr = w.alloc (.cells (zcells (.int .u32 0) k) 32)) (fun _ _ => 0)
      case atStart => exact ⟨rfl, rfl⟩
      case round =>
        obtain ⟨rfl, rfl⟩ := hrel
        have HLC := Lib.hid (HLY.out _ HB0.out HS.out)
        rw [← HF.out.1, ← HF.out.2, HM.AllocV_eq] at HLC
        clear HLY HS
        rcases Nat.eq_zero_or_pos k with h0 | h0
        · subst h0
          go_wp2_with fail
          refine HLC.out.mono ?_
          rintro e w2 ⟨p2, rfl, R2, S2⟩
          have HR2 := Lib.hid R2
          have HS2 := Lib.hid S2
          clear R2 S2
          go_wp2_with fail
          go_ret2
          exact ⟨p2, by rw [HM.AllocV_eq]; rfl, HR2.out, (Step.of_below HB0.out).trans HS2.out⟩
        · have hz : decide ((0 : Int) < (k : Int)) = true := by simp; omega
          go_wp2_with fail
          refine HLC.out.mono ?_
          rintro e w2 ⟨p2, rfl, R2, S2⟩
          have HR2 := Lib.hid R2
          have HS2 := Lib.hid S2
          clear R2 S2
          go_wp2_with fail
          go_ret2
          exact ⟨p2, by rw [HM.AllocV_eq]; rfl, HR2.out, (Step.of_below HB0.out).trans HS2.out⟩
    · have HF := Lib.hid (show h.AllocH c 3 (k : Int) = (if h.size < h.words.length + 3 + k ∨ h.last = 4294967295 then h else h.pushH ⟨k, 3, 0, c, 0⟩ (List.replicate k 0)) ∧
          h.AllocV c 3 (k : Int) = (if h.size < h.words.length + 3 + k ∨ h.last = 4294967295 then .tuple #[.int .u32 0, .int .i64 4] else .tuple #[.int .u32 (2 * h.words.length : Nat), .int .i64 0]) by
        have hok : allocOk 3 (k : Int) = true := by simp [allocOk]; omega
        unfold HM.AllocH HM.AllocV
        rw [if_pos hok, if_pos hok]
        exact push_eq c 3 k HCL.out)
      have HLY := Lib.hid (fun wr hb hr => rlay_any (w := wr) (R.below hb) f c 3 0 w.heap.size k (List.replicate k 0) hc (by omega) (by omega) hn (by simp) hr HNP.out)
      clear R
      go_enter Tryz.func76, Tryz.ntmps76
      go_wp2_with fail
      refine HK.out.mono ?_
      rintro e w1 ⟨rfl, rfl⟩
      go_wp2_with fail
      have HS := Lib.hid (zcells_row w 32 k 0 (by simp only [maxLen]; omega))
      have HB0 := Lib.hid (show Below w.heap.size w (w.alloc (.cells (zcells (.int .u32 0) k) 32)) from (Below.refl _ _).alloc (Nat.le_refl _) _)
      clear hmk
      go_loopw [11] (fun i wr => i = .int .i64 0 ∧ wr = w.alloc (.cells (zcells (.int .u32 0) k) 32)) (fun _ _ => 0)
      case atStart => exact ⟨rfl, rfl⟩
      case round =>
        obtain ⟨rfl, rfl⟩ := hrel
        have HLC := Lib.hid (HLY.out _ HB0.out HS.out)
        rw [← HF.out.1, ← HF.out.2, HM.AllocV_eq] at HLC
        clear HLY HS
        rcases Nat.eq_zero_or_pos k with h0 | h0
        · subst h0
          go_wp2_with fail
          refine HLC.out.mono ?_
          rintro e w2 ⟨p2, rfl, R2, S2⟩
          have HR2 := Lib.hid R2
          have HS2 := Lib.hid S2
          clear R2 S2
          go_wp2_with fail
          go_ret2
          exact ⟨p2, by rw [HM.AllocV_eq]; rfl, HR2.out, (Step.of_below HB0.out).trans HS2.out⟩
        · have hz : decide ((0 : Int) < (k : Int)) = true := by simp; omega
          go_wp2_with fail
          refine HLC.out.mono ?_
          rintro e w2 ⟨p2, rfl, R2, S2⟩
          have HR2 := Lib.hid R2
          have HS2 := Lib.hid S2
          clear R2 S2
          go_wp2_with fail
          go_ret2
          exact ⟨p2, by rw [HM.AllocV_eq]; rfl, HR2.out, (Step.of_below HB0.out).trans HS2.out⟩
end
end Go.Proofs.YtlkahgagmfhdaaaGreatDoor

namespace Go.Proofs.YtlkahgagmfhdaaaGreatDoor
open Go.RowKit

def Dd.val (d : Dd) (A : Option Addr) (n c : Nat) : Value :=
  .agg #[.int .i64 d.k, .int .u32 (d.o : Nat), .int .u32 (d.v : Nat), .int .i64 d.f, .int .i64 d.i, .int .i64 d.n, .int .u32 (d.w : Nat), .slice A n c]

def Dd.vals (d : Dd) (A : Option Addr) (n c : Nat) : List Value :=
  [.int .i64 d.k, .int .u32 (d.o : Nat), .int .u32 (d.v : Nat), .int .i64 d.f, .int .i64 d.i, .int .i64 d.n, .int .u32 (d.w : Nat), .slice A n c]
/-- A script lies in memory, below block B. -/
def DeedsAt (w : World) (B : Nat) (A : Option Addr) (ds : List Dd) : Prop :=
  ∀ i d, ds[i]? = some d → d.Fit ∧ ∃ ad Ab nb cb, A = some ad ∧ ad.block < B ∧ nb ≤ 9223372036854775807 ∧ Reads w B 1 Ab nb (u8c d.b) ∧ ∀ j v, (d.vals Ab nb cb)[j]? = some v → w.cell? (ad.add (i * 8 + j)) = some v
section
variable {w w' : World} {p p' : HP} {B : Nat} {A : Option Addr} {ds : List Dd}
theorem DeedsAt.keep (h : DeedsAt w B A ds) (hk : ∀ q : Addr, q.block < B → w'.cell? q = w.cell? q) : DeedsAt w' B A ds := by
  intro i d hd
  obtain ⟨f, ad, Ab, nb, cb, h1, h2, h3, h4, h5⟩ := h i d hd
  exact ⟨f, ad, Ab, nb, cb, h1, h2, h3, h4.keep hk, fun j v hv => (hk _ (by rw [block_of_add]; exact h2)).trans (h5 j v hv)⟩
theorem DeedsAt.below (h : DeedsAt w B A ds) (hb : Below B w w') : DeedsAt w' B A ds := h.keep fun _ hq => hb.cell hq
theorem DeedsAt.fit (h : DeedsAt w B A ds) : ∀ d ∈ ds, d.Fit := fun d hd => by
  obtain ⟨i, hi⟩ := List.getElem?_of_mem hd
  exact (h i d hi).1
theorem cell_add {a : Addr} {j : Nat} {v : Value} (h : w.cell? (a.add j) = some v) (hj : 0 < j) : w.cell? ⟨a.block, a.off + j, none⟩ = some v := by
  unfold Addr.add at h
  rw [if_neg (by omega)] at h
  exact h
theorem DeedsAt.load (h : DeedsAt w B A ds) {i : Nat} {d : Dd} (hd : ds[i]? = some d) :
    ∃ ad Ab nb cb, A = some ad ∧ ad.block < B ∧ nb ≤ 9223372036854775807 ∧ Reads w B 1 Ab nb (u8c d.b) ∧
      w.cell? (ad.add (i * 8)) = some (.int .i64 d.k) ∧ w.cell? ⟨(ad.add (i * 8)).block, (ad.add (i * 8)).off + 1, none⟩ = some (.int .u32 (d.o : Nat)) ∧
      w.cell? ⟨(ad.add (i * 8)).block, (ad.add (i * 8)).off + 2, none⟩ = some (.int .u32 (d.v : Nat)) ∧ w.cell? ⟨(ad.add (i * 8)).block, (ad.add (i * 8)).off + 3, none⟩ = some (.int .i64 d.f) ∧
      w.cell? ⟨(ad.add (i * 8)).block, (ad.add (i * 8)).off + 4, none⟩ = some (.int .i64 d.i) ∧ w.cell? ⟨(ad.add (i * 8)).block, (ad.add (i * 8)).off + 5, none⟩ = some (.int .i64 d.n) ∧
      w.cell? ⟨(ad.add (i * 8)).block, (ad.add (i * 8)).off + 6, none⟩ = some (.int .u32 (d.w : Nat)) ∧ w.cell? ⟨(ad.add (i * 8)).block, (ad.add (i * 8)).off + 7, none⟩ = some (.slice Ab nb cb) := by
  obtain ⟨f, ad, Ab, nb, cb, h1, h2, h3, h4, h5⟩ := h i d hd
  have h6 : ∀ j v, 0 < j → (d.vals Ab nb cb)[j]? = some v → w.cell? ⟨(ad.add (i * 8)).block, (ad.add (i * 8)).off + j, none⟩ = some v := fun j v hj hv =>
    cell_add (by rw [add_of_add]; exact h5 j v hv) hj
  exact ⟨ad, Ab, nb, cb, h1, h2, h3, h4, h5 0 _ rfl, h6 1 _ (by omega) rfl, h6 2 _ (by omega) rfl, h6 3 _ (by omega) rfl, h6 4 _ (by omega) rfl, h6 5 _ (by omega) rfl, h6 6 _ (by omega) rfl, h6 7 _ (by omega) rfl⟩
end
theorem Live.grown {W w w' : World} {p : HP} {g : Nat} {h : HM} {row : Option Nat} (L : Live W w p g h) (hg : w.grownBy w' row) (hr : ∀ k, row = some k → ¬ p.has k ∧ W.heap.size ≤ k) : Live W w' p g h :=
  ⟨L.at_.same fun k hk => hg.block k (L.at_.lt hk) (fun e => (hr k e.symm).1 hk), L.hg, L.good, L.env, L.new,
    ⟨hg.os.trans L.below.os, hg.tape.trans L.below.tape, hg.output.trans L.below.output, Nat.le_trans L.below.size hg.size, fun k hk =>
      (hg.block k (by have := L.below.size; omega) (fun e => by have := (hr k e.symm).2; omega)).trans (L.below.block k hk)⟩⟩
end Go.Proofs.YtlkahgagmfhdaaaGreatDoor

namespace Go.Proofs.YtlkahgagmfhdaaaGreatDoor
open Go.RowKit

structure TM where
  slots : List (Nat × Nat)
  cap : Nat
  next : Nat
  now : Nat
def TM.at (t : TM) (k : Nat) : Nat × Nat := t.slots.getD k (0, 0)
def usedB (s : Nat × Nat) : Bool := decide (s ≠ (0, 0))
structure TM.Ok (t : TM) : Prop where
  len : t.slots.length = 256
  lo : 1 ≤ t.cap
  hi : t.cap ≤ 256
  off : ∀ k, t.cap ≤ k → t.at k = (0, 0)
  used : ∀ k, t.at k ≠ (0, 0) → 0 < (t.at k).1 ∧ 0 < (t.at k).2
  id64 : ∀ k, (t.at k).1 < 18446744073709551616
  exp : ∀ k, (t.at k).2 ≤ 1099512627776
  n64 : t.next < 18446744073709551616
  nw : t.now ≤ 1099511627776
  uniq : ∀ j k, t.at j ≠ (0, 0) → t.at k ≠ (0, 0) → (t.at j).1 = (t.at k).1 → j = k
  rise : t.next ≠ 0 → ∀ k, (t.at k).1 < t.next
def TM.fresh (cap first : Nat) : TM := ⟨List.replicate 256 (0, 0), cap, first, 0⟩
def TM.issue (t : TM) (k n : Nat) : TM := { t with slots := t.slots.set k (t.next, t.now + n), next := if t.next = 18446744073709551615 then 0 else t.next + 1 }
def TM.clear (t : TM) (k : Nat) : TM := { t with slots := t.slots.set k (0, 0) }
def TM.pass (t : TM) (n : Nat) : TM := { t with now := t.now + n }
section
variable {t : TM}
theorem at_set (l : List (Nat × Nat)) (k : Nat) (v : Nat × Nat) (hk : k < l.length) (j : Nat) : (l.set k v).getD j (0, 0) = if j = k then v else l.getD j (0, 0) := by
  rw [List.getD_eq_getElem?_getD, List.getD_eq_getElem?_getD, List.getElem?_set]
  by_cases h : k = j
  · subst h
    rw [if_pos rfl, if_pos rfl, if_pos hk]
    rfl
  · rw [if_neg h, if_neg (fun e => h e.symm)]
theorem usedB_iff (s : Nat × Nat) : usedB s = true ↔ s ≠ (0, 0) := by unfold usedB; simp
theorem TM.Ok.fresh {cap first : Nat} (h1 : 1 ≤ cap) (h2 : cap ≤ 256) (h3 : first < 18446744073709551616) : (TM.fresh cap first).Ok := by
  have h0 : ∀ k, (TM.fresh cap first).at k = (0, 0) := fun k => by
    unfold TM.at TM.fresh
    simp only [List.getD_eq_getElem?_getD, List.getElem?_replicate]
    split <;> rfl
  refine ⟨List.length_replicate, h1, h2, fun k _ => h0 k, fun k h => absurd (h0 k) h, fun k => by rw [h0]; omega, fun k => by rw [h0]; omega, h3, Nat.zero_le _, fun j k h => absurd (h0 j) h, fun h k => ?_⟩
  rw [h0]
  have : first ≠ 0 := h
  show 0 < first
  omega
theorem TM.Ok.clear (O : t.Ok) {k : Nat} (hk : k < 256) : (t.clear k).Ok := by
  have e : ∀ j, (t.clear k).at j = if j = k then (0, 0) else t.at j := fun j => at_set _ _ _ (by rw [O.len]; exact hk) j
  refine ⟨by simp [TM.clear, O.len], O.lo, O.hi, fun j hj => ?_, fun j hj => ?_, fun j => ?_, fun j => ?_, O.n64, O.nw, fun i j hi hj he => ?_, fun hn j => ?_⟩
  · rw [e]; split
    · rfl
    · exact O.off j hj
  · rw [e] at hj ⊢; split at hj
    · exact absurd rfl hj
    · rename_i h
      rw [if_neg h]
      exact O.used j hj
  · rw [e]; split
    · show 0 < _; omega
    · exact O.id64 j
  · rw [e]; split
    · show 0 ≤ _; omega
    · exact O.exp j
  · rw [e] at hi hj he
    rw [e] at he
    split at hi
    · exact absurd rfl hi
    · rename_i h1
      split at hj
      · exact absurd rfl hj
      · rename_i h2
        rw [if_neg h1, if_neg h2] at he
        exact O.uniq i j hi hj he
  · rw [e]; split
    · have : t.next ≠ 0 := hn
      show 0 < t.next; omega
    · exact O.rise hn j
theorem TM.Ok.pass (O : t.Ok) {n : Nat} (hn : t.now + n ≤ 1099511627776) : (t.pass n).Ok := ⟨O.len, O.lo, O.hi, O.off, O.used, O.id64, O.exp, O.n64, hn, O.uniq, O.rise⟩
theorem TM.Ok.issue (O : t.Ok) {k n : Nat} (hk : k < t.cap) (hf : t.at k = (0, 0)) (h0 : t.next ≠ 0) (h1 : 1 ≤ n) (h2 : n ≤ 1000000) : (t.issue k n).Ok := by
  have hk2 : k < 256 := Nat.lt_of_lt_of_le hk O.hi
  have e : ∀ j, (t.issue k n).at j = if j = k then (t.next, t.now + n) else t.at j := fun j => at_set _ _ _ (by rw [O.len]; exact hk2) j
  have hnw := O.nw
  have hn64 := O.n64
  have hr := O.rise h0
  refine ⟨by simp [TM.issue, O.len], O.lo, O.hi, fun j hj => ?_, fun j hj => ?_, fun j => ?_, fun j => ?_, ?_, O.nw, fun i j hi hj he => ?_, fun hn j => ?_⟩
  · have hj : t.cap ≤ j := hj
    rw [e, if_neg (by omega)]
    exact O.off j hj
  · rw [e] at hj ⊢; split
    · exact ⟨show 0 < t.next by omega, show 0 < t.now + n by omega⟩
    · rename_i h
      rw [if_neg h] at hj
      exact O.used j hj
  · rw [e]; split
    · exact hn64
    · exact O.id64 j
  · rw [e]; split
    · show t.now + n ≤ _; omega
    · exact O.exp j
  · show (if t.next = 18446744073709551615 then 0 else t.next + 1) < _
    split <;> omega
  · rw [e] at hi hj he
    rw [e] at he
    by_cases h1 : i = k
    · by_cases h2 : j = k
      · omega
      · rw [if_pos h1, if_neg h2] at he
        have he : t.next = (t.at j).1 := he
        have := hr j
        omega
    · by_cases h2 : j = k
      · rw [if_neg h1, if_pos h2] at he
        have he : (t.at i).1 = t.next := he
        have := hr i
        omega
      · rw [if_neg h1, if_neg h2] at he
        rw [if_neg h1] at hi
        rw [if_neg h2] at hj
        exact O.uniq i j hi hj he
  · have hnx : (t.issue k n).next = t.next + 1 := by
      show (if t.next = 18446744073709551615 then 0 else t.next + 1) = _
      rw [if_neg]
      intro hh
      exact hn (show (if t.next = 18446744073709551615 then 0 else t.next + 1) = 0 by rw [if_pos hh])
    rw [hnx, e]
    split
    · exact Nat.lt_succ_self _
    · have := hr j
      omega
end
/-- Which slot a number has, and the first that is free. -/
def TM.find (t : TM) (id : Nat) : Nat := t.slots.findIdx (fun s => s.1 == id)
def TM.free (t : TM) : Nat := (t.slots.take t.cap).findIdx (fun s => decide (s = (0, 0)))
section
variable {t : TM}
theorem TM.at_get {k : Nat} (hk : k < t.slots.length) : t.at k = t.slots[k] := by
  unfold TM.at
  rw [List.getD_eq_getElem?_getD, List.getElem?_eq_getElem hk]
  rfl
theorem TM.find_lt (O : t.Ok) {id : Nat} (h0 : id ≠ 0) (hf : t.find id < 256) : (t.at (t.find id)).1 = id ∧ t.at (t.find id) ≠ (0, 0) := by
  have hl : t.find id < t.slots.length := by rw [O.len]; exact hf
  have h1 := List.findIdx_getElem (xs := t.slots) (p := fun s : Nat × Nat => s.1 == id) (w := hl)
  rw [TM.at_get hl]
  have h2 : (t.slots[t.find id]).1 = id := eq_of_beq h1
  refine ⟨h2, fun e => h0 ?_⟩
  rw [e] at h2
  exact h2.symm
theorem TM.free_lt (O : t.Ok) (hf : t.free < t.cap) : t.at t.free = (0, 0) := by
  have hhi := O.hi
  have hlen := O.len
  have hl : t.free < (t.slots.take t.cap).length := by rw [List.length_take]; omega
  have h1 := List.findIdx_getElem (xs := t.slots.take t.cap) (p := fun s => decide (s = (0, 0))) (w := hl)
  rw [TM.at_get (by omega)]
  have h2 : (t.slots.take t.cap)[t.free] = (0, 0) := of_decide_eq_true h1
  rw [List.getElem_take] at h2
  exact h2
end
/-- The array that root 40 names, and what its fields name. -/
def HM.arr (h : HM) : Nat := h.roots.getD 40 0
def HM.objK (h : HM) (k : Nat) : Nat := h.readN h.arr k [1, 4]
def HM.badA (h : HM) (cap : Nat) : Bool := !(h.isB h.arr && decide ((h.hd (h.arr / 2)).fmt = 1) && decide (cap ≤ (h.hd (h.arr / 2)).size))
def lostK (h : HM) (t : TM) (k : Nat) : Bool := usedB (t.at k) && !h.isB (h.objK k)
def brkB (h : HM) (t : TM) : Bool := h.badA t.cap || (List.range 256).any (lostK h t)
def HM.clrK (h : HM) (k : Nat) : HM := h.putH h.arr k (h.roots.getD 0 0)
def leaseB (n : Int) : Bool := decide (1 ≤ n) && decide (n ≤ 1000000)
/-- Issue. -/
def issE (h : HM) (t : TM) (o : Nat) (n : Int) : Nat :=
  if brkB h t then 164 else if h.isB o = false then 3 else if leaseB n = false then 162 else if ¬ t.free < t.cap then 161 else if t.next = 0 then 163 else 0
def issT (h : HM) (t : TM) (o : Nat) (n : Int) : TM := if issE h t o n = 0 then t.issue t.free n.toNat else t
def issH (h : HM) (t : TM) (o : Nat) (n : Int) : HM := if issE h t o n = 0 then h.putH h.arr t.free o else h
def issV (h : HM) (t : TM) (o : Nat) (n : Int) : Nat := if issE h t o n = 0 then t.next else 0
/-- find: the slot of a live handle. -/
def fndE (h : HM) (t : TM) (id : Nat) : Nat := if brkB h t then 164 else if id = 0 ∨ ¬ t.find id < 256 then 160 else 0
def fndK (h : HM) (t : TM) (id : Nat) : Nat := if fndE h t id = 0 then t.find id else 0
def gotV (h : HM) (t : TM) (id : Nat) : Nat := if fndE h t id = 0 then h.objK (t.find id) else 0
/-- Slots cleared one behind the other. -/
def TM.clears (t : TM) (ks : List Nat) : TM := ks.foldl TM.clear t
def HM.clrs (h : HM) (ks : List Nat) : HM := ks.foldl HM.clrK h
def TM.goneB (t : TM) (k : Nat) : Bool := usedB (t.at k) && decide ((t.at k).2 ≤ t.now)
def TM.goneK (t : TM) (j : Nat) : List Nat := (List.range j).filter t.goneB
def TM.usedK (t : TM) (j : Nat) : List Nat := (List.range j).filter fun k => usedB (t.at k)
def TM.ids (t : TM) (ks : List Nat) : List Nat := ks.map fun k => (t.at k).1
def tikE (h : HM) (t : TM) (n : Int) : Nat := if brkB h t then 164 else if n < 0 ∨ (1099511627776 - t.now : Int) < n then 1 else 0
def tikT (h : HM) (t : TM) (n : Int) : TM := if tikE h t n = 0 then (t.pass n.toNat).clears ((t.pass n.toNat).goneK 256) else t
def tikH (h : HM) (t : TM) (n : Int) : HM := if tikE h t n = 0 then h.clrs ((t.pass n.toNat).goneK 256) else h
def sortN (l : List Nat) : List Nat := l.mergeSort (fun x y => decide (x ≤ y))
def tikL (h : HM) (t : TM) (n : Int) : List Nat := if tikE h t n = 0 then sortN ((t.pass n.toNat).ids ((t.pass n.toNat).goneK 256)) else []
/-- Live: the slots in use, by their numbers. -/
def TM.liveK (t : TM) : List Nat := (t.usedK 256).mergeSort (fun j k => decide ((t.at j).1 ≤ (t.at k).1))
end Go.Proofs.YtlkahgagmfhdaaaGreatDoor

namespace Go.Proofs.YtlkahgagmfhdaaaGreatDoor
open Go.RowKit
section
variable {t : TM} {h : HM}
theorem TM.clears_snoc (t : TM) (a : List Nat) (k : Nat) : t.clears (a ++ [k]) = (t.clears a).clear k := by unfold TM.clears; rw [List.foldl_append]; rfl
theorem TM.clears_same (a : List Nat) : ∀ t : TM, (t.clears a).cap = t.cap ∧ (t.clears a).next = t.next ∧ (t.clears a).now = t.now := by
  induction a with
  | nil => intro t; exact ⟨rfl, rfl, rfl⟩
  | cons k a ih => intro t; exact ih (t.clear k)
theorem TM.Ok.clears (a : List Nat) : ∀ {t : TM}, t.Ok → (∀ k ∈ a, k < 256) → (t.clears a).Ok := by
  induction a with
  | nil => intro t O _; exact O
  | cons k a ih => intro t O ha; exact ih (O.clear (ha k (List.mem_cons_self ..))) (fun x hx => ha x (List.mem_cons_of_mem _ hx))
theorem TM.goneK_succ (t : TM) (j : Nat) : t.goneK (j + 1) = if t.goneB j then t.goneK j ++ [j] else t.goneK j := by
  unfold TM.goneK
  rw [List.range_succ, List.filter_append]
  by_cases h : t.goneB j = true
  · rw [if_pos h, List.filter_cons, if_pos h]; rfl
  · rw [if_neg h, List.filter_cons, if_neg h]; simp
theorem TM.usedK_succ (t : TM) (j : Nat) : t.usedK (j + 1) = if usedB (t.at j) then t.usedK j ++ [j] else t.usedK j := by
  unfold TM.usedK
  rw [List.range_succ, List.filter_append]
  by_cases h : usedB (t.at j) = true
  · rw [if_pos h, List.filter_cons, if_pos h]; rfl
  · rw [if_neg h, List.filter_cons, if_neg h]; simp
theorem TM.usedK_len (t : TM) (j : Nat) : (t.usedK j).length ≤ j := by
  have := List.length_filter_le (fun k => usedB (t.at k)) (List.range j)
  rw [List.length_range] at this
  exact this
theorem TM.goneK_len (t : TM) (j : Nat) : (t.goneK j).length ≤ j := by
  have := List.length_filter_le t.goneB (List.range j)
  rw [List.length_range] at this
  exact this
theorem setF_w (h : HM) (o k v i : Nat) (hi : i ≠ o / 2 + 3 + k) : (h.setF o k v).w i = h.w i := by
  unfold HM.w HM.setF
  simp only
  rw [List.getD_eq_getElem?_getD, List.getD_eq_getElem?_getD, List.getElem?_set]
  rw [if_neg (fun e => hi e.symm)]
theorem setF_hd (h : HM) (o k v : Nat) : (h.setF o k v).hd (o / 2) = h.hd (o / 2) := by
  unfold HM.hd
  rw [setF_w _ _ _ _ _ (by omega), setF_w _ _ _ _ _ (by omega), setF_w _ _ _ _ _ (by omega)]
theorem clrs_snoc (h : HM) (a : List Nat) (k : Nat) : h.clrs (a ++ [k]) = (h.clrs a).clrK k := by unfold HM.clrs; rw [List.foldl_append]; rfl
theorem HM.Good.clrK {l : List Ob} (G : h.Good l) (k : Nat) : ∃ l', (h.clrK k).Good l' := by
  obtain ⟨l', G', _⟩ := G.putH h.arr k (h.roots.getD 0 0) (G.fit.root 0)
  exact ⟨l', G'⟩
end
end Go.Proofs.YtlkahgagmfhdaaaGreatDoor

namespace Go.Proofs.YtlkahgagmfhdaaaGreatDoor
open Go.RowKit
section
variable {t : TM}
theorem liveK_perm (t : TM) : t.liveK.Perm (t.usedK 256) := List.mergeSort_perm _ _
theorem liveK_sorted (t : TM) : t.liveK.Pairwise (fun j k => (t.at j).1 ≤ (t.at k).1) := by
  have h := List.pairwise_mergeSort (le := fun j k => decide ((t.at j).1 ≤ (t.at k).1)) (fun a b c h1 h2 => by
    simp only [decide_eq_true_eq] at *
    omega) (fun a b => by
    simp only [Bool.or_eq_true, decide_eq_true_eq]
    omega) (t.usedK 256)
  exact h.imp fun hh => by simpa using hh
theorem mem_usedK {j k : Nat} : k ∈ t.usedK j ↔ k < j ∧ t.at k ≠ (0, 0) := by
  unfold TM.usedK
  rw [List.mem_filter, List.mem_range, usedB_iff]
theorem mem_liveK {k : Nat} : k ∈ t.liveK ↔ k < 256 ∧ t.at k ≠ (0, 0) := (liveK_perm t).mem_iff.trans mem_usedK
theorem liveK_unique (O : t.Ok) {l : List Nat} (p : l.Perm (t.usedK 256)) (s : l.Pairwise (fun j k => (t.at j).1 ≤ (t.at k).1)) : l = t.liveK := by
  refine List.Perm.eq_of_pairwise (le := fun j k => (t.at j).1 ≤ (t.at k).1) (fun a b ha hb h1 h2 => ?_) s (liveK_sorted t) (p.trans (liveK_perm t).symm)
  exact O.uniq a b (mem_usedK.1 (p.mem_iff.1 ha)).2 (mem_liveK.1 hb).2 (by omega)
end
end Go.Proofs.YtlkahgagmfhdaaaGreatDoor
