/- The document's heap: lay. -/
import Derived.Test.YtkpjkbkglnabiaaGreatDoorJRefA
import Derived.Test.YtkpjkbkglnabiaaGreatDoorZeros
import Derived.Deep.RegionLaw
set_option linter.unusedVariables false
namespace Go.Proofs.YtkpjkbkglnabiaaGreatDoor
open Go.RowKit

section
variable {w w1 : World} {p : HP} {h : HM}
/-- The words' row was appended to, and the field holds the new slice. -/
theorem RAt.grewWords (H : RAt w p h) {g1 c1 : Nat} {ys : List Nat} (hr : Row w1 g1 29 c1 (u32s (h.words ++ ys))) (hg : w.grownBy w1 (some p.gw)) (hat : g1 = p.gw ∨ w.heap.size ≤ g1) :
    RAt (w1.setCell ⟨p.g, 1, none⟩ (.slice (some ⟨g1, 0, none⟩) (h.words ++ ys).length c1)) { p with gw := g1, cw := c1 } { h with words := h.words ++ ys } ∧
    Step p { p with gw := g1, cw := c1 } w (w1.setCell ⟨p.g, 1, none⟩ (.slice (some ⟨g1, 0, none⟩) (h.words ++ ys).length c1)) := by
  obtain ⟨hb, hw, hs, hrt⟩ := H
  have n1 : p.g ≠ p.gw := fun e => Row.ne_blk hw hb (by decide) e.symm
  have n2 : p.gs ≠ p.gw := hs.ne_ hw (by decide)
  have n3 : p.gr ≠ p.gw := hrt.ne_ hw (by decide)
  have hb1 := hb.same (hg.block p.g hb.lt (by simpa using n1))
  have hs1 := hs.same (hg.block p.gs hs.lt (by simpa using n2))
  have hr1 := hrt.same (hg.block p.gr hrt.lt (by simpa using n3))
  refine ⟨⟨hb1.set_ 1 _, hr.far (fun e => Row.ne_blk hr hb1 (by decide) e) _, hs1.far (fun e => Row.ne_blk hs1 hb1 (by decide) e) _, hr1.far (fun e => Row.ne_blk hr1 hb1 (by decide) e) _⟩, ?_⟩
  have s1 : Step p { p with gw := g1, cw := c1 } w w1 := ⟨hg.os, hg.tape, hg.output, hg.size, fun k hk hn => hg.block k hk (by
    intro e; injection e with e; exact hn (.inr (.inl e))), rfl, by
    rintro k (hk | hk | hk | hk)
    · exact .inl (.inl hk)
    · rcases hat with e | e
      · exact .inl (.inr (.inl (hk.trans e)))
      · exact .inr (hk ▸ e)
    · exact .inl (.inr (.inr (.inl hk)))
    · exact .inl (.inr (.inr (.inr hk)))⟩
  exact s1.setCell (.inl (.inl rfl)) _
theorem RAt.grewBegins (H : RAt w p h) {g1 c1 : Nat} {ys : List Bool} (hr : Row w1 g1 5 c1 (begins (h.starts ++ ys))) (hg : w.grownBy w1 (some p.gs)) (hat : g1 = p.gs ∨ w.heap.size ≤ g1) :
    RAt (w1.setCell ⟨p.g, 4, none⟩ (.slice (some ⟨g1, 0, none⟩) (h.starts ++ ys).length c1)) { p with gs := g1, cs := c1 } { h with starts := h.starts ++ ys } ∧
    Step p { p with gs := g1, cs := c1 } w (w1.setCell ⟨p.g, 4, none⟩ (.slice (some ⟨g1, 0, none⟩) (h.starts ++ ys).length c1)) := by
  obtain ⟨hb, hw, hs, hrt⟩ := H
  have n1 : p.g ≠ p.gs := fun e => Row.ne_blk hs hb (by decide) e.symm
  have n2 : p.gw ≠ p.gs := hw.ne_ hs (by decide)
  have n3 : p.gr ≠ p.gs := hrt.ne_ hs (by decide)
  have hb1 := hb.same (hg.block p.g hb.lt (by simpa using n1))
  have hw1 := hw.same (hg.block p.gw hw.lt (by simpa using n2))
  have hr1 := hrt.same (hg.block p.gr hrt.lt (by simpa using n3))
  refine ⟨⟨hb1.set_ 4 _, hw1.far (fun e => Row.ne_blk hw1 hb1 (by decide) e) _, hr.far (fun e => Row.ne_blk hr hb1 (by decide) e) _, hr1.far (fun e => Row.ne_blk hr1 hb1 (by decide) e) _⟩, ?_⟩
  have s1 : Step p { p with gs := g1, cs := c1 } w w1 := ⟨hg.os, hg.tape, hg.output, hg.size, fun k hk hn => hg.block k hk (by
    intro e; injection e with e; exact hn (.inr (.inr (.inl e)))), rfl, by
    rintro k (hk | hk | hk | hk)
    · exact .inl (.inl hk)
    · exact .inl (.inr (.inl hk))
    · rcases hat with e | e
      · exact .inl (.inr (.inr (.inl (hk.trans e))))
      · exact .inr (hk ▸ e)
    · exact .inl (.inr (.inr (.inr hk)))⟩
  exact s1.setCell (.inl (.inl rfl)) _
end
def RMade (p : HP) (h' : HM) (v : Value) (w : World) (e : Ending) (w' : World) : Prop := ∃ p', e = .returned v ∧ RAt w' p' h' ∧ Step p p' w w'

theorem wpList_append_zeros {P : Program} {w : World} {ops : Array Oper} {rest : List Oper} {o : Oper} {a : Act} {Q : Exit → Act → World → Prop} (hgd : o.guard = none) (s x : Operand) (t tn : TypeId)
    (ho : o.op = .call { callee := .builtin .append, args := #[s, x], argTypes := #[t, tn] })
    {g c : Nat} {e : TypeId} {xs : List Value} (hr : Row w g e c xs) (i : TypeInfo) (z : Value) (bytes : Nat)
    (ht : P.underlying t = some (.slice e)) (htn : P.underlying tn = some (.int .i64)) (hi : P.info? e = some i) (hz : i.zero = some z) (hsize : i.size = 1) (hby : i.bytes = bytes)
    (hz1 : z.cells = #[z]) (hone : z.oneCell' = true) (n k : Nat) (hn : xs.length = n) (hk : 0 < k) (h63 : n + k ≤ maxLen) (hbytes : (n + k) * bytes ≤ 140737488355328)
    (hs : a.eval s = .slice (some ⟨g, 0, none⟩) n c) (hx : a.eval x = .int .i64 k)
    (h : ∀ g' c' w', Row w' g' e c' (xs ++ List.replicate k z) → w.grownBy w' (some g) → (g' = g ∨ g' = w.heap.size) → wpList P ops Q rest (a.put o.dst (.slice (some ⟨g', 0, none⟩) (n + k) c')) w') : wpList P ops Q (o :: rest) a w := by
  refine wpList_plain hgd fun K hK => ?_
  subst hn
  obtain ⟨g', c', w', hrun, h1, h2, h3⟩ := run_append_zeros hr t tn o.type i z bytes ht htn hi hz hsize hby hz1 hone k hk h63 hbytes
  exact Lib.wp_append_run w s x t tn ho _ _ hs hx _ w' hrun (hK _ _ (h g' c' w' h1 h2 h3))

def RMid (p p' : HP) (h' : HM) (w : World) (gf n : Nat) (ys : List Nat) (wr : World) : Prop :=
  RAt wr p' h' ∧ Step p p' w wr ∧ Row wr gf 29 n (u32s ys) ∧ ¬ p'.has gf
theorem RMid.next {p p' p'' : HP} {h' h'' : HM} {w wr wx : World} {gf n : Nat} {ys : List Nat} (m : RMid p p' h' w gf n ys wr) (R : RAt wx p'' h'') (s : Step p' p'' wr wx) : RMid p p'' h'' w gf n ys wx :=
  ⟨R, m.2.1.trans s, s.row m.2.2.1 m.2.2.2⟩
theorem RMid.below {p p' : HP} {h' : HM} {w wr wx : World} {gf n : Nat} {ys : List Nat} (m : RMid p p' h' w gf n ys wr) (hb : Below wr.heap.size wr wx) : RMid p p' h' w gf n ys wx :=
  m.next (m.1.below hb) (.of_below hb)

set_option maxRecDepth 100000 in
set_option maxHeartbeats 4000000 in
theorem rlay_any {w : World} {p : HP} {h : HM} (R : RAt w p h) (f : h.Fit) (c F s gf n : Nat) (ys : List Nat) (hc : c < 4294967296) (hF : F < 8) (hs : s < 4) (hn : n ≤ 65535) (hyl : ys.length = n) (hr : Row w gf 29 n (u32s ys)) (hg : ¬ p.has gf) :
    Calls Tryz.prog 74 #[ptr p.g, .int .u32 c, .int .i64 F, .int .i64 s, .slice (some ⟨gf, 0, none⟩) n n] w
      (RMade p (if h.size < h.words.length + 3 + n ∨ h.last = 4294967295 then h else h.pushH ⟨n, F, s, c, 0⟩ ys)
        (if h.size < h.words.length + 3 + n ∨ h.last = 4294967295 then .tuple #[.int .u32 0, .int .i64 4] else .tuple #[.int .u32 (2 * h.words.length : Nat), .int .i64 0]) w) := by
  have hroom := f.room
  have hhi := f.hi
  have hone := f.one
  have hl32 := f.l32
  have hmarks := f.marks
  have c0 := R.c0
  have c1 := R.c1
  have c3 := R.c3
  have f3 := R.1.frozen 3
  unfold ptr
  by_cases hfull : h.size < h.words.length + 3 + n
  · have HF := Lib.hid (show (h.size < h.words.length + 3 + n ∨ h.last = 4294967295) from .inl hfull)
    rw [if_pos HF.out, if_pos HF.out]
    have HR := Lib.hid R
    have hgt : decide ((h.size : Int) < (h.words.length : Int) + 3 + (n : Int)) = true := by simp; omega
    clear hfull R f hr
    go_enter Tryz.func74, Tryz.ntmps74
    go_wp2_with fail
    go_quiet (fail)
    go_wp2_with fail
    go_ret2
    exact ⟨p, rfl, HR.out.drewN _, (Step.refl _ _).drewN _⟩
  have hgt : decide ((h.size : Int) < (h.words.length : Int) + 3 + (n : Int)) = false := by simp; omega
  by_cases hlast : h.last = 4294967295
  · have HF := Lib.hid (show (h.size < h.words.length + 3 + n ∨ h.last = 4294967295) from .inr hlast)
    rw [if_pos HF.out, if_pos HF.out]
    have HR := Lib.hid R
    have hq : ((h.last : Int) == 4294967295) = true := by simp; omega
    clear hfull hlast R f hr
    go_enter Tryz.func74, Tryz.ntmps74
    go_wp2_with fail
    go_quiet (fail)
    go_wp2_with fail
    go_ret2
    exact ⟨p, rfl, HR.out.drewN _, (Step.refl _ _).drewN _⟩
  have HF := Lib.hid (show ¬ (h.size < h.words.length + 3 + n ∨ h.last = 4294967295) by omega)
  rw [if_neg HF.out, if_neg HF.out]
  have hq : ((h.last : Int) == 4294967295) = false := by simp; omega
  have HM0 := Lib.hid (show RMid p p h w gf n ys w from ⟨R, Step.refl _ _, hr, hg⟩)
  obtain ⟨l1, hl1⟩ : ∃ l1, h.last + 1 = l1 := ⟨_, rfl⟩
  have hcast : (h.last : Int) + 1 = (l1 : Int) := by omega
  have hl1b : l1 < 4294967296 := by omega
  have HL1 := Lib.hid hl1
  have HFT := Lib.hid f
  clear hlast R hr HF hl1 f
  go_enter Tryz.func74, Tryz.ntmps74
  go_wp2_with fail
  go_quiet (fail)
  go_wp2_with fail
  have HM2 := Lib.hid (show RMid p p { h with last := l1 } w gf n ys ((w.drewN nq).setCell ⟨p.g, 3, none⟩ (.int .u32 (l1 : Nat))) from
    (show RMid p p h w gf n ys (w.drewN nq) from HM0.out.below (below_drewN (Below.refl _ _) _)).next ((HM0.out.1.drewN nq).setLast l1) ((Step.refl _ _).setCell (.inl (.inl rfl)) _))
  clear HM0 c0 c1 c3 f3
  generalize (w.drewN nq).setCell _ _ = W2 at *
  have HPK := Lib.hid (fun w => rpack_any ⟨n, F, s, c, l1⟩ ⟨by show n < 16777216; omega, hF, hs, hc, hl1b⟩ w)
  unfold Hd.val Hd.packed at HPK
  generalize hw0 : Hd.w0 ⟨n, F, s, c, l1⟩ = w0 at *
  have HW0 := Lib.hid hw0
  clear hw0
  refine (HPK.out _).mono ?_
  rintro e w3 ⟨rfl, hb3⟩
  clear HPK
  go_upto_region 5 with fail
  have HM4 := Lib.hid ((HM2.out.below hb3).below (below_alloc1 (o := .cells #[.int .u32 w0, .int .u32 c, .int .u32 l1] 104) (Below.refl _ w3)))
  have HT4 := Lib.hid (Blk.new w3 104 #[.int .u32 w0, .int .u32 c, .int .u32 l1])
  clear HM2 hb3
  generalize w3.alloc (.cells #[.int .u32 w0, .int .u32 c, .int .u32 l1] 104) = W4 at *
  generalize w3.heap.size = gT at *
  have k1 := HM4.out.1.c1
  have k4 := HM4.out.1.c4
  simp only [hmarks] at k4
  have hown := HM4.out.1.2.2.1.owns
  rw [begins_len] at hown
  simp only [hmarks] at hown
  have HO := Lib.hid hown
  have z4 := HM4.out.1.1.frozen 4
  have n1 : p.g ≠ p.gs := fun e => Row.ne_blk HM4.out.1.2.2.1 HM4.out.1.1 (by decide) e.symm
  have hgg : p.g < W4.heap.size := HM4.out.1.lt (.inl rfl)
  clear hown
  obtain ⟨i0, hi0, hz0, hz1, hz2⟩ := info_parts info_u8
  go_upto_region 7 with (at_builtin; refine wpList_append_any _ rfl (.tmp 62) (.tmp 63) _ rfl 0 5 i0 _ 1 1 Tryz.underlying31 hi0 hz0 hz1 hz2 rfl (by omega) (.slice (some ⟨p.gs, 0, none⟩) h.words.length p.cs) h.words.length _ rfl (HO.out.alloc _) (W4.heap.size + 1) (some ⟨W4.heap.size, 0, none⟩) 1 1 (u8c [1]) rfl ⟨rfl, fun _ => ⟨_, rfl, by simp, cell_one_new _ _ _⟩⟩ (one_u8c _) (by simp only [maxLen]; omega) (by omega) (by omega) ?_; intro v5 w5 hown5 hg5 hat5; obtain ⟨g5, c5, rfl, hrow5, hlen5, _⟩ := Row.of_any hown5 (by omega); have k5 := (hg5.cell_far ⟨p.g, 4, none⟩ (by simp; omega) (by simp [Value.ownBlock]; exact n1)).trans ((World.cell?_alloc_lt _ _ _ hgg).trans k4); have z5 := (hg5.frozen_far ⟨p.g, 4, none⟩ (by simp; omega) (by simp [Value.ownBlock]; exact n1)).trans (((below_alloc1 (Below.refl _ W4)).frozen (p := ⟨p.g, 4, none⟩) hgg).trans z4); clear hown5)
  have hu5 : begins h.starts ++ u8c [1] = begins (h.starts ++ [true]) := by simp [begins, u8c]
  have hl5 : (h.starts ++ [true]).length = h.words.length + 1 := by simp [hmarks]
  rw [hu5] at hrow5
  have HM4' := HM4.out.below (below_alloc1 (o := .cells #[.int .u8 1] 5) (Below.refl _ W4))
  obtain ⟨H6, s6⟩ := RAt.grewBegins (ys := [true]) HM4'.1 hrow5 hg5 (by
    rcases hat5 with e | e
    · left; simpa [Value.ownBlock] using e
    · right; simp only [Value.ownBlock, Option.some.injEq] at e; omega)
  simp only [hl5] at H6 s6
  have HM6 := Lib.hid (HM4'.next H6 s6)
  have BT6 := Lib.hid (show Blk (w5.setCell ⟨p.g, 4, none⟩ (.slice (some ⟨g5, 0, none⟩) (h.words.length + 1) c5)) gT 104 #[.int .u32 w0, .int .u32 c, .int .u32 l1] from
    ((HT4.out.alloc _).same (hg5.block gT (HT4.out.alloc _).lt (by simp only [Value.ownBlock]; intro e; injection e with e; exact Row.ne_blk HM4.out.1.2.2.1 HT4.out (by decide) e.symm))).far (p := ⟨p.g, 4, none⟩) (fun e => Blk.ne_ HT4.out HM4.out.1.1 (by decide) e) _)
  clear HM4' hu5 hl5 hrow5 hg5 hat5 hlen5 k5 z5 HM4 HT4 k1 k4 HO z4 n1 hgg H6 s6
  generalize w5.setCell _ _ = W6 at *
  generalize hp6 : ({ p with gs := g5, cs := c5 } : HP) = p6 at *
  have HG6 := Lib.hid (show p6.g = p.g by rw [← hp6])
  clear hp6
  have q1 := HM6.out.1.c1
  have q4 := HM6.out.1.c4
  have zz4 := HM6.out.1.1.frozen 4
  have hsl : (h.starts ++ [true]).length = h.words.length + 1 := by simp [hmarks]
  simp only [hsl] at q4
  rw [HG6.out] at q1 q4 zz4
  have n1 : p.g ≠ p6.gs := fun e => Row.ne_blk HM6.out.1.2.2.1 HM6.out.1.1 (by decide) (by rw [HG6.out]; exact e.symm)
  have hgg : p.g < W6.heap.size := by have := HM6.out.1.lt (.inl rfl); rw [HG6.out] at this; exact this
  have HSL := Lib.hid (show (begins (h.starts ++ [true])).length = h.words.length + 1 by rw [begins_len]; exact hsl)
  have a1 : IntKind.i64.wrap (2 + (n : Int)) = 2 + (n : Int) := IntWalk.i64_in _ (by omega)
  clear hsl
  go_upto_region 8 with (at_builtin; refine wpList_append_zeros rfl (.tmp 71) (.tmp 74) _ _ rfl (show Row W6 p6.gs 5 p6.cs (begins (h.starts ++ [true])) from HM6.out.1.2.2.1) i0 _ 1 Tryz.underlying31 Tryz.underlying3 hi0 hz0 hz1 hz2 rfl rfl (h.words.length + 1) (2 + n) HSL.out (by omega) (by simp only [maxLen]; omega) (by omega) rfl (by first | rfl | (simp; omega)) ?_; intro g7 c7 w7 hrow7 hg7 hat7; have k7 := (hg7.cell_far ⟨p.g, 4, none⟩ hgg (by simpa using n1)).trans q4; have z7 := (hg7.frozen_far ⟨p.g, 4, none⟩ hgg (by simpa using n1)).trans zz4)
  have hu7 : begins (h.starts ++ [true]) ++ List.replicate (2 + n) (.int .u8 0) = begins (h.starts ++ [true] ++ List.replicate (2 + n) false) := by simp [begins]
  have hl7 : (h.starts ++ [true] ++ List.replicate (2 + n) false).length = h.words.length + 1 + (2 + n) := by simp [hmarks]; omega
  rw [hu7] at hrow7
  obtain ⟨H8, s8⟩ := RAt.grewBegins (ys := List.replicate (2 + n) false) HM6.out.1 hrow7 hg7 (by
    rcases hat7 with e | e
    · exact .inl e
    · right; rw [e]; exact Nat.le_refl _)
  simp only [hl7] at H8 s8
  rw [HG6.out] at H8 s8
  have HM8 := Lib.hid (HM6.out.next H8 s8)
  have BT8 := Lib.hid (show Blk (w7.setCell ⟨p.g, 4, none⟩ (.slice (some ⟨g7, 0, none⟩) (h.words.length + 1 + (2 + n)) c7)) gT 104 #[.int .u32 w0, .int .u32 c, .int .u32 l1] from
    (BT6.out.same (hg7.block gT BT6.out.lt (by intro e; injection e with e; exact Row.ne_blk HM6.out.1.2.2.1 BT6.out (by decide) e.symm))).far (p := ⟨p.g, 4, none⟩) (fun e => Blk.ne_ BT6.out HM6.out.1.1 (by decide) (by rw [HG6.out]; exact e)) _)
  clear hu7 hl7 hrow7 hg7 hat7 k7 z7 HM6 BT6 q1 q4 zz4 n1 hgg H8 s8 HSL a1 hi0 hz0 hz1 hz2
  generalize w7.setCell _ _ = W8 at *
  generalize hp8 : (⟨p.g, p6.gw, p6.cw, g7, c7, p6.gr, p6.cr⟩ : HP) = p8 at *
  have HG8 := Lib.hid (show p8.g = p.g by rw [← hp8])
  clear hp8
  have q1 := HM8.out.1.c1
  have zz1 := HM8.out.1.1.frozen 1
  rw [HG8.out] at q1 zz1
  simp only at q1
  have hown := HM8.out.1.2.1.owns
  rw [u32s_len] at hown
  simp only at hown
  have HO := Lib.hid hown
  have HN := Lib.hid (show Reads (W8.alloc (.cells #[.int .u32 w0, .int .u32 c, .int .u32 l1] 29)) (W8.heap.size + 1) 1 (some ⟨W8.heap.size, 0, none⟩) 3 (u32s [w0, c, l1]) from ⟨rfl, fun _ => ⟨_, rfl, by simp, fun j u hj => by
    rw [WideShapes.add_plain, Nat.zero_add, (Blk.new W8 _ _).cell]
    simpa [u32s] using hj⟩⟩)
  have n1 : p.g ≠ p8.gw := fun e => Row.ne_blk HM8.out.1.2.1 HM8.out.1.1 (by decide) (by rw [HG8.out]; exact e.symm)
  have hgg : p.g < W8.heap.size := by have := HM8.out.1.lt (.inl rfl); rw [HG8.out] at this; exact this
  have hnb : W8.heap.size ≠ p.g := by omega
  obtain ⟨t0, t1, t2⟩ := BT8.out.cells3
  have htl := BT8.out.lt
  obtain ⟨i1, hi0, hz0, hz1, hz2⟩ := info_parts info_u32
  clear hown
  go_cut [78] (fun v wx => ∃ p9, RMid p p9 { h with words := h.words ++ [w0, c, l1], starts := h.starts ++ [true] ++ List.replicate (2 + n) false, last := l1 } w gf n ys wx)
  case first =>
    go_region_law
      ((refine step_append_any _ (by rfl) _ _ _ (by rfl) 0 29 i1 _ 1 4 Tryz.underlying42 hi0 hz0 hz1 hz2 rfl (by omega) (.slice (some ⟨p8.gw, 0, none⟩) h.words.length p8.cw) h.words.length (u32s h.words) (by rfl) (HO.out.alloc _).drew (W8.heap.size + 1) (some ⟨W8.heap.size, 0, none⟩) 3 3 (u32s [w0, c, l1]) (by rfl) HN.out.drew (one_u32s _) (by simp only [maxLen]; omega) (by omega) (by omega) ?_; intro v9 w9 hown9 hg9 hat9; obtain ⟨g9, c9, rfl, hrow9, hlen9, _⟩ := Row.of_any hown9 (by omega); have k9 := (hg9.cell_far ⟨p.g, 1, none⟩ (by simp [World.drew]; omega) (by simp [Value.ownBlock]; exact n1)).trans ((World.cell?_alloc_lt _ _ _ hgg).trans q1); have z9 := (hg9.frozen_far ⟨p.g, 1, none⟩ (by simp [World.drew]; omega) (by simp [Value.ownBlock]; exact n1)).trans (((below_alloc1 (Below.refl _ W8)).frozen (p := ⟨p.g, 1, none⟩) hgg).trans zz1); clear hown9))
    all_goals
      have hu9 : u32s h.words ++ u32s [w0, c, l1] = u32s (h.words ++ [w0, c, l1]) := by simp [u32s]
      have hl9 : (h.words ++ [w0, c, l1]).length = h.words.length + 3 := by simp
      rw [hu9] at hrow9
      have HM8' := HM8.out.below (below_drew (below_alloc1 (o := .cells #[.int .u32 w0, .int .u32 c, .int .u32 l1] 29) (Below.refl _ W8)))
      obtain ⟨H10, s10⟩ := RAt.grewWords (ys := [w0, c, l1]) HM8'.1 hrow9 hg9 (by
        rcases hat9 with e | e
        · left; simpa [Value.ownBlock] using e
        · right; simp only [Value.ownBlock, Option.some.injEq] at e; omega)
      simp only [hl9] at H10 s10
      rw [HG8.out] at H10 s10
      go_wp2_with fail
      go_meet
      exact ⟨_, HM8'.next H10 s10⟩
  case rest =>
    obtain ⟨p9, HM9⟩ := hcut
    clear HM8 HN HO BT8 t0 t1 t2 htl q1 zz1 n1 hgg hnb
    have HG9 := Lib.hid (show p9.g = p.g from HM9.2.1.g)
    have hl9 : (h.words ++ [w0, c, l1]).length = h.words.length + 3 := by simp
    have q1 := HM9.1.c1
    have zz1 := HM9.1.1.frozen 1
    rw [HG9.out] at q1 zz1
    simp only [hl9] at q1
    have hown := HM9.1.2.1.owns
    rw [u32s_len] at hown
    simp only [hl9] at hown
    have HO := Lib.hid hown
    have HN := Lib.hid (show Reads wc wc.heap.size 1 (some ⟨gf, 0, none⟩) n (u32s ys) by have := HM9.2.2.1.reads HM9.2.2.1.lt; rw [u32s_len, hyl] at this; exact this)
    have n1 : p.g ≠ p9.gw := fun e => Row.ne_blk HM9.1.2.1 HM9.1.1 (by decide) (by rw [HG9.out]; exact e.symm)
    have hgg : p.g < wc.heap.size := by have := HM9.1.lt (.inl rfl); rw [HG9.out] at this; exact this
    have HMZ := Lib.hid HM9
    clear hown hl9 HM9
    obtain ⟨i2, hj0, hj1, hj2, hj3⟩ := info_parts info_u32
    go_wp2_with (at_builtin; refine wpList_append_any _ rfl (.tmp 97) (.tmp 98) _ rfl 0 29 i2 _ 1 4 Tryz.underlying42 hj0 hj1 hj2 hj3 rfl (by omega) (.slice (some ⟨p9.gw, 0, none⟩) (h.words.length + 3) p9.cw) (h.words.length + 3) _ rfl HO.out wc.heap.size (some ⟨gf, 0, none⟩) n n (u32s ys) rfl HN.out (one_u32s _) (by simp only [maxLen]; omega) (by omega) (by omega) ?_; intro v11 w11 hown11 hg11 hat11; obtain ⟨g11, c11, rfl, hrow11, hlen11, _⟩ := Row.of_any hown11 (by omega); have k11 := (hg11.cell_far ⟨p.g, 1, none⟩ hgg (by simp [Value.ownBlock]; exact n1)).trans q1; have z11 := (hg11.frozen_far ⟨p.g, 1, none⟩ hgg (by simp [Value.ownBlock]; exact n1)).trans zz1; clear hown11)
    have hu : u32s (h.words ++ [w0, c, l1]) ++ u32s ys = u32s (h.words ++ [w0, c, l1] ++ ys) := by simp [u32s]
    have hl : (h.words ++ [w0, c, l1] ++ ys).length = h.words.length + 3 + n := by simp [hyl]; omega
    rw [hu] at hrow11
    obtain ⟨H12, s12⟩ := RAt.grewWords (ys := ys) HMZ.out.1 hrow11 hg11 (by
      rcases hat11 with e | e
      · left; simpa [Value.ownBlock] using e
      · right; simp only [Value.ownBlock, Option.some.injEq] at e; omega)
    simp only [hl] at H12 s12
    rw [HG9.out] at H12 s12
    have HE := Lib.hid (show h.pushH ⟨n, F, s, c, 0⟩ ys = { h with words := h.words ++ [w0, c, l1] ++ ys, starts := h.starts ++ [true] ++ List.replicate (2 + n) false, last := l1 } by
      unfold HM.pushH
      rw [show Hd.w0 ⟨n, F, s, c, 0⟩ = w0 from HW0.out, HL1.out]
      simp)
    go_ret2
    exact ⟨_, rfl, by rw [HE.out]; exact H12, HMZ.out.2.1.trans s12⟩
end Go.Proofs.YtkpjkbkglnabiaaGreatDoor
