/- (*Heap).alloc. -/
/- Alloc, oop.Length, PackBytes of the program. -/
/- PackBytes of the program. -/
import Derived.Test.YtblekggklimpeaaDoorJClone
import Derived.Test.YtblekggklimpeaaDoorJZeros
import Derived.Test.YtblekggklimpeaaDoorJLook
import Derived.Test.YtblekggklimpeaaDoorJBase
import Derived.StillTailTactics
import Derived.Deep.DeepCutAuto
import Derived.Deep.LoopGhost
import Derived.Deep.RegionHeld3
import Derived.Deep.RegionLaw
set_option linter.unusedVariables false
set_option linter.unusedSectionVars false
namespace Go.Proofs.YtblekggklimpeaaDoor
open Go.RowKit

/-- What alloc answers and leaves: x is the header, its serial aside. -/
def HM.allocE (h : HM) (x : Hd) : Nat := if h.clsB x.cls = false then 3 else if h.size < h.words.length + 3 + x.size ∨ h.last = 4294967295 then 4 else 0
def HM.fill (h : HM) (x : Hd) : Nat := if x.ptrB then h.roots.getD 0 0 else 0
def HM.pushH (h : HM) (x : Hd) (ys : List Nat) : HM :=
  { h with words := h.words ++ [x.w0, x.cls, h.last + 1] ++ ys, starts := h.starts ++ (true :: List.replicate (2 + x.size) false), last := h.last + 1 }
def HM.allocH (h : HM) (x : Hd) : HM := if h.allocE x = 0 then h.pushH x (List.replicate x.size (h.fill x)) else h
def HM.allocV (h : HM) (x : Hd) : Value := .tuple #[.int .u32 ((if h.allocE x = 0 then 2 * h.words.length else 0 : Nat) : Int), .int .i64 (h.allocE x)]
/-- A deed that answers a value and leaves the heap as told, perhaps elsewhere. -/
def Made (p : HP) (h' : HM) (v : Value) (w : World) (e : Ending) (w' : World) : Prop := ∃ p', e = .returned v ∧ HAt w' p' h' ∧ Step p p' w w'

/-- On the way: the header and some fields are laid. -/
def AllocMid (p : HP) (h : HM) (n t s c l1 w0 gB : Nat) (w : World) (ys : List Nat) (wr : World) : Prop :=
  ∃ pk : HP, HAt wr pk { h with last := l1, words := h.words ++ [w0, c, l1] ++ ys } ∧ Blk wr gB 56 #[.int .i64 n, .int .i64 t, .int .i64 s, .int .u32 c, .int .u32 l1] ∧ Step p pk w wr

theorem AllocMid.grow {p pk : HP} {h : HM} {n t s c l1 w0 gB k fl L g5 c5 : Nat} {w wr w5 : World} {o : Obj}
    (Hk : HAt wr pk { h with last := l1, words := h.words ++ [w0, c, l1] ++ List.replicate k fl }) (Bk : Blk wr gB 56 #[.int .i64 n, .int .i64 t, .int .i64 s, .int .u32 c, .int .u32 l1]) (sk : Step p pk w wr)
    (hgk : pk.g = p.g) (hlk : (h.words ++ [w0, c, l1] ++ List.replicate k fl).length = L)
    (hr : Row w5 g5 24 c5 (u32s (h.words ++ [w0, c, l1] ++ List.replicate k fl) ++ u32s [fl]))
    (hg : (wr.alloc o).grownBy w5 (Value.slice (some ⟨pk.gw, 0, none⟩) L pk.cw).ownBlock)
    (hat : (Value.slice (some ⟨g5, 0, none⟩) (L + 1) c5).ownBlock = (Value.slice (some ⟨pk.gw, 0, none⟩) L pk.cw).ownBlock ∨ (Value.slice (some ⟨g5, 0, none⟩) (L + 1) c5).ownBlock = some (wr.alloc o).heap.size) :
    AllocMid p h n t s c l1 w0 gB w (List.replicate (k + 1) fl) (w5.setCell ⟨p.g, 0, none⟩ (.slice (some ⟨g5, 0, none⟩) (L + 1) c5)) := by
  have hb : Below wr.heap.size wr (wr.alloc o) := (Below.refl _ _).alloc (Nat.le_refl _) _
  have he : h.words ++ [w0, c, l1] ++ List.replicate (k + 1) fl = (h.words ++ [w0, c, l1] ++ List.replicate k fl) ++ [fl] := by
    rw [List.replicate_succ', ← List.append_assoc]
  have hu : u32s (h.words ++ [w0, c, l1] ++ List.replicate k fl) ++ u32s [fl] = u32s ((h.words ++ [w0, c, l1] ++ List.replicate k fl) ++ [fl]) := by simp [u32s]
  rw [hu] at hr
  have hl : ((h.words ++ [w0, c, l1] ++ List.replicate k fl) ++ [fl]).length = L + 1 := by rw [List.length_append, hlk]; rfl
  obtain ⟨H6, s6⟩ := HAt.grewWords (Hk.below hb) (ys := [fl]) hr hg (by
    rcases hat with e | e
    · left; simpa [Value.ownBlock] using e
    · right; simp [Value.ownBlock] at e; simp [e])
  rw [hgk] at H6 s6
  rw [show ((({ h with last := l1, words := h.words ++ [w0, c, l1] ++ List.replicate k fl } : HM).words ++ [fl]).length) = L + 1 from hl] at H6 s6
  have n1 : gB ≠ pk.gw := fun e => Row.ne_blk Hk.2.1 Bk (by decide) e.symm
  have n2 : gB ≠ p.g := by rw [← hgk]; exact fun e => Bk.ne_ Hk.1 (by decide) e
  refine ⟨_, ?_, ((Bk.alloc o).same (hg.block gB (Bk.alloc o).lt (by simpa [Value.ownBlock] using n1))).far (p := ⟨p.g, 0, none⟩) n2 _, (sk.below' hb).trans s6⟩
  rw [he]
  exact H6

set_option maxRecDepth 100000 in
set_option maxHeartbeats 4000000 in
theorem alloc_any {w : World} {p : HP} {h : HM} (H : HAt w p h) (f : h.Fit) (hs : Spares w) (hp : Far p) (x : Hd) (hx : x.Fit) (h0 : x.ser = 0) (hm : x.may = true) :
    Calls Tryd.prog 88 #[ptr p.g, x.val] w (Made p (h.allocH x) (h.allocV x) w) := by
  have hb0 : ∀ o, Below w.heap.size w (w.alloc o) := fun o => (Below.refl _ _).alloc (Nat.le_refl _) _
  have HCL := Lib.hid (fun z => class_any (H.below (hb0 z)) f x.cls hx.cls)
  cases hc : h.clsB x.cls
  · rw [hc] at HCL
    have HF := Lib.hid (show h.allocV x = .tuple #[.int .u32 0, .int .i64 3] ∧ h.allocH x = h by simp [HM.allocV, HM.allocH, HM.allocE, hc])
    clear hc
    unfold ptr at HCL ⊢
    unfold Hd.val
    go_enter Tryd.func88, Tryd.ntmps88
    go_wp2_with fail
    refine (HCL.out _).mono ?_
    rintro e w1 ⟨rfl, rfl⟩
    go_wp2_with fail
    go_ret2
    exact ⟨p, by rw [HF.out.1]; rfl, by rw [HF.out.2]; exact H.below (hb0 _), .of_below (hb0 _)⟩
  · rw [hc] at HCL
    have hlen := f.room
    have hhi := f.hi
    have hl32 := f.l32
    obtain ⟨n, t, s, c, r⟩ := x
    obtain ⟨f1, f2, f3, f4, f5⟩ := hx
    simp only at f1 f2 f3 f4 f5 h0 HCL hc
    subst h0
    have hn : n ≤ 65535 := by simp [Hd.may] at hm; omega
    by_cases hful : h.size < h.words.length + 3 + n
    · have HF := Lib.hid (show h.allocV ⟨n, t, s, c, 0⟩ = .tuple #[.int .u32 0, .int .i64 4] ∧ h.allocH ⟨n, t, s, c, 0⟩ = h by simp [HM.allocV, HM.allocH, HM.allocE, hc, hful])
      generalize hW : w.alloc (.cells #[.int .i64 n, .int .i64 t, .int .i64 s, .int .u32 c, .int .u32 0] 56) = W
      have HW : HAt W p h := hW ▸ H.below (hb0 _)
      have c0 := HW.c0
      have c3 := HW.c3
      have c4 := HW.c4
      have BW : Blk W w.heap.size 56 #[.int .i64 n, .int .i64 t, .int .i64 s, .int .u32 c, .int .u32 0] := hW ▸ Blk.new w _ _
      obtain ⟨d0, d1, d2, d3, d4⟩ := BW.cells5
      have HMD := Lib.hid (fun k => made_any (HW.drewN k) (by have := f.lo; omega) f.hi)
      have HW' := Lib.hid hW
      have hd : decide ((h.words.length : Int) + 3 + (n : Int) > (h.size : Int)) = true := by simp; omega
      have hd' : (h.size : Int) < (h.words.length : Int) + 3 + (n : Int) := by omega
      clear hc hW
      unfold ptr at HCL HMD ⊢
      unfold Hd.val
      go_enter Tryd.func88, Tryd.ntmps88
      go_wp2_with fail
      refine (HCL.out _).mono ?_
      rintro e w1 ⟨rfl, rfl⟩
      rw [HW'.out]
      go_wp2_with fail
      go_quiet ((go_at_call 66; exact (HMD.out _).mono fun _ _ ⟨he, hm⟩ => ⟨he, _, hm.symm⟩))
      go_wp2_with fail
      go_ret2
      refine ⟨p, by rw [HF.out.1]; rfl, ?_, ?_⟩
      · rw [HF.out.2]; first | exact HW | exact HW.drewN _
      · rw [← HW'.out]; first | exact .of_below (hb0 _) | exact (Step.of_below (hb0 _)).drewN _
    · by_cases hla : h.last = 4294967295
      · have HF := Lib.hid (show h.allocV ⟨n, t, s, c, 0⟩ = .tuple #[.int .u32 0, .int .i64 4] ∧ h.allocH ⟨n, t, s, c, 0⟩ = h by simp [HM.allocV, HM.allocH, HM.allocE, hc, hla])
        generalize hW : w.alloc (.cells #[.int .i64 n, .int .i64 t, .int .i64 s, .int .u32 c, .int .u32 0] 56) = W
        have HW : HAt W p h := hW ▸ H.below (hb0 _)
        have c0 := HW.c0
        have c3 := HW.c3
        have c4 := HW.c4
        have BW : Blk W w.heap.size 56 #[.int .i64 n, .int .i64 t, .int .i64 s, .int .u32 c, .int .u32 0] := hW ▸ Blk.new w _ _
        obtain ⟨d0, d1, d2, d3, d4⟩ := BW.cells5
        have HMD := Lib.hid (fun k => made_any (HW.drewN k) (by have := f.lo; omega) f.hi)
        have HW' := Lib.hid hW
        have hd : decide ((h.words.length : Int) + 3 + (n : Int) > (h.size : Int)) = false := by simp; omega
        have hd' : (h.words.length : Int) + 3 + (n : Int) ≤ (h.size : Int) := by omega
        have hd2 : ((h.last : Int) == 4294967295) = true := by rw [hla]; rfl
        clear hc hW hla hful
        unfold ptr at HCL HMD ⊢
        unfold Hd.val
        go_enter Tryd.func88, Tryd.ntmps88
        go_wp2_with fail
        refine (HCL.out _).mono ?_
        rintro e w1 ⟨rfl, rfl⟩
        rw [HW'.out]
        go_wp2_with fail
        go_quiet ((go_at_call 66; exact (HMD.out _).mono fun _ _ ⟨he, hm⟩ => ⟨he, _, hm.symm⟩))
        go_wp2_with fail
        go_ret2
        refine ⟨p, by rw [HF.out.1]; rfl, ?_, ?_⟩
        · rw [HF.out.2]; first | exact HW | exact HW.drewN _
        · rw [← HW'.out]; first | exact .of_below (hb0 _) | exact (Step.of_below (hb0 _)).drewN _
      · have HF := Lib.hid (show h.allocV ⟨n, t, s, c, 0⟩ = .tuple #[.int .u32 (2 * h.words.length : Nat), .int .i64 0] ∧ h.allocH ⟨n, t, s, c, 0⟩ = h.pushH ⟨n, t, s, c, 0⟩ (List.replicate n (h.fill ⟨n, t, s, c, 0⟩)) by
          have e : h.allocE ⟨n, t, s, c, 0⟩ = 0 := by simp [HM.allocE, hc]; omega
          simp [HM.allocV, HM.allocH, e])
        generalize hW : w.alloc (.cells #[.int .i64 n, .int .i64 t, .int .i64 s, .int .u32 c, .int .u32 0] 56) = W
        have HW : HAt W p h := hW ▸ H.below (hb0 _)
        have sW : Step p p w W := hW ▸ .of_below (hb0 _)
        have c0 := HW.c0
        have c3 := HW.c3
        have c4 := HW.c4
        have f4 : W.frozen? ⟨p.g, 4, none⟩ = false := HW.1.frozen 4
        have BW : Blk W w.heap.size 56 #[.int .i64 n, .int .i64 t, .int .i64 s, .int .u32 c, .int .u32 0] := hW ▸ Blk.new w _ _
        obtain ⟨d0, d1, d2, d3, d4⟩ := BW.cells5
        have z4 : W.frozen? ⟨w.heap.size, 4, none⟩ = false := BW.frozen 4
        have hgB : p.g ≠ w.heap.size := by have := H.lt (.inl rfl); omega
        have hgB' : w.heap.size ≠ p.g := hgB.symm
        have HMD := Lib.hid (fun k => made_any (HW.drewN k) (by have := f.lo; omega) f.hi)
        have HW' := Lib.hid hW
        have hd : decide ((h.words.length : Int) + 3 + (n : Int) > (h.size : Int)) = false := by simp; omega
        have hd' : (h.words.length : Int) + 3 + (n : Int) ≤ (h.size : Int) := by omega
        have hd2 : ((h.last : Int) == 4294967295) = false := beq_eq_false_iff_ne.2 (by omega)
        have hl1 : h.last + 1 < 4294967296 := by omega
        clear hc hW hla hful
        unfold ptr at HCL HMD ⊢
        unfold Hd.val
        go_enter Tryd.func88, Tryd.ntmps88
        go_wp2_with fail
        refine (HCL.out _).mono ?_
        rintro e w1 ⟨rfl, rfl⟩
        rw [HW'.out]
        go_wp2_with fail
        go_quiet ((go_at_call 66; exact (HMD.out _).mono fun _ _ ⟨he, hm⟩ => ⟨he, _, hm.symm⟩))
        go_wp2_with fail
        obtain ⟨l1, hl1e⟩ : ∃ l1 : Nat, l1 = h.last + 1 := ⟨_, rfl⟩
        rw [show (h.last : Int) + 1 = (l1 : Int) by omega]
        have hl1b : l1 < 4294967296 := by omega
        have HL1 := Lib.hid hl1e
        clear hl1e hl1
        generalize hW2 : ((W.drewN nq).setCell ⟨p.g, 4, none⟩ (.int .u32 (l1 : Int))).setCell ⟨w.heap.size, 4, none⟩ (.int .u32 (l1 : Int)) = W2
        have H2 : HAt W2 p { h with last := l1 } := by
          rw [← hW2]
          have hh := (HW.drewN nq).setLast l1
          refine hh.same fun k hk => Below.heap_setCell _ _ _ _ ?_
          have := H.lt hk
          simp; omega
        have s2 : Step p p w W2 := by
          rw [← hW2]
          exact (((sW.drewN nq).setCell (.inl (.inl rfl)) _).setCell (.inr (by simp)) _)
        have B2 : Blk W2 w.heap.size 56 #[.int .i64 n, .int .i64 t, .int .i64 s, .int .u32 c, .int .u32 l1] := by
          rw [← hW2]
          exact ((BW.drewN nq).far (p := ⟨p.g, 4, none⟩) hgB' _).set_ 4 _
        have hs2 : Spares W2 := s2.spares hp hs
        clear hW2 c0 c3 c4 f4 d0 d1 d2 d3 d4 z4 HMD HW' hd hd2 HCL
        have HPK := Lib.hid (Pack_any ⟨n, t, s, c, l1⟩ ⟨f1, f2, f3, f4, hl1b⟩ (by simpa [Hd.may] using hm) W2 hs2)
        unfold Hd.val Hd.packed at HPK
        refine HPK.out.mono ?_
        rintro e w3 ⟨rfl, hb3⟩
        clear HPK
        generalize hw0 : Hd.w0 ⟨n, t, s, c, l1⟩ = w0 at *
        have HW0 := Lib.hid hw0
        clear hw0
        go_wp2_with fail
        generalize hW4 : w3.alloc _ = W4
        have hb4 : Below W2.heap.size W2 W4 := by rw [← hW4]; exact hb3.alloc hb3.size _
        have H4 : HAt W4 p { h with last := l1 } := H2.below hb4
        have s4 : Step p p w W4 := s2.below' hb4
        have B4 := B2.below hb4 B2.lt
        have BT : Blk W4 w3.heap.size 143 #[.int .u32 w0, .int .u32 c, .int .u32 l1] := by rw [← hW4]; exact Blk.new w3 _ _
        clear hW4 hb4 hb3 hs2 H2 s2 B2
        generalize w3.heap.size = gT at *
        have k0 := H4.c0
        have z0 : W4.frozen? ⟨p.g, 0, none⟩ = false := H4.1.frozen 0
        obtain ⟨i0, hi0, hz0, hz1, hz2⟩ := info_parts info_u32
        have hown := H4.2.1.owns
        rw [u32s_len] at hown
        have HO := Lib.hid hown
        have hnews : Reads W4 W4.heap.size 1 (some ⟨gT, 0, none⟩) 3 (u32s [w0, c, l1]) := ⟨rfl, fun _ => ⟨_, rfl, BT.lt, fun j u hj => by
          rw [WideShapes.add_plain, Nat.zero_add, BT.cell]
          simpa [u32s] using hj⟩⟩
        have HN := Lib.hid hnews
        clear hown hnews
        have n1 : p.g ≠ p.gw := fun e => Row.ne_blk H4.2.1 H4.1 (by decide) e.symm
        have hga : p.gw < W4.heap.size := H4.lt (.inr (.inl rfl))
        have hgg : p.g < W4.heap.size := H4.lt (.inl rfl)
        go_region_law
          ((refine step_append_any _ (by rfl) _ _ _ (by rfl) 0 24 i0 _ 1 4 Tryd.underlying22 hi0 hz0 hz1 hz2 rfl (by omega) (.slice (some ⟨p.gw, 0, none⟩) h.words.length p.cw) h.words.length (u32s h.words) (by rfl) HO.out.drew W4.heap.size (some ⟨gT, 0, none⟩) 3 3 (u32s [w0, c, l1]) (by rfl) HN.out.drew (one_u32s _) (by simp only [maxLen]; omega) (by omega) (by omega) ?_; intro v1 w5 hown5 hgrow hat5; obtain ⟨g5, c5, rfl, hrow5, hlen5, _⟩ := Row.of_any hown5 (by omega); have k5 := (hgrow.cell_far ⟨p.g, 0, none⟩ hgg (by simp [Value.ownBlock]; exact n1)).trans k0; have z5 := (hgrow.frozen_far ⟨p.g, 0, none⟩ hgg (by simp [Value.ownBlock]; exact n1)).trans z0; clear hown5))
        have hw6 : u32s h.words ++ u32s [w0, c, l1] = u32s (h.words ++ [w0, c, l1]) := by simp [u32s]
        have hl6 : h.words.length + 3 = (h.words ++ [w0, c, l1]).length := by simp
        rw [hw6] at hrow5
        obtain ⟨H6, s6⟩ := HAt.grewWords H4.drew hrow5 hgrow (by
          rcases hat5 with e | e
          · left; simpa [Value.ownBlock] using e
          · right; simp [Value.ownBlock] at e; simp [e])
        rw [← hl6] at H6 s6
        have B6 : Blk (w5.setCell ⟨p.g, 0, none⟩ (.slice (some ⟨g5, 0, none⟩) (h.words.length + 3) c5)) w.heap.size 56 #[.int .i64 n, .int .i64 t, .int .i64 s, .int .u32 c, .int .u32 l1] := by
          have hne : w.heap.size ≠ p.gw := by have := H.lt (.inr (.inl rfl)); omega
          exact (B4.same (hgrow.block w.heap.size B4.lt (by simpa [Value.ownBlock] using hne))).far (p := ⟨p.g, 0, none⟩) hgB' _
        have s6' := Step.trans s4.drew s6
        clear hgrow hat5 hlen5 hrow5 k5 z5 s6 hw6 HO HN BT H4 s4 B4 k0 z0 n1 hga hgg
        generalize hW6 : w5.setCell ⟨p.g, 0, none⟩ (.slice (some ⟨g5, 0, none⟩) (h.words.length + 3) c5) = W6 at *
        clear hW6
        have HX1 := Lib.hid (show Hd.ptrB ⟨n, t, s, c, l1⟩ = Hd.ptrB ⟨n, t, s, c, 0⟩ from rfl)
        have HPT := Lib.hid (pointers_any ⟨n, t, s, c, l1⟩ ⟨f1, f2, f3, f4, hl1b⟩ W6)
        rw [HX1.out] at HPT
        unfold Hd.val at HPT
        obtain ⟨e0, e1, e2, e3, e4⟩ := B6.cells5
        go_wp2_with fail
        refine HPT.out.mono ?_
        rintro e w7 ⟨rfl, hb7⟩
        clear e0 e1 e2 e3 e4
        have H7 := H6.below hb7
        have B7 := B6.below hb7 B6.lt
        have s7 := s6'.below' hb7
        have HR0 := Lib.hid (show w7.cell? ⟨p.gr, 0, none⟩ = some (.int .u32 ((h.roots.getD 0 0 : Nat) : Int)) from H7.root (i := 0) (by show 0 < h.roots.length; rw [f.roots]; omega))
        have k2 := H7.c2
        clear HPT HX1 hb7 H6 B6 s6'
        obtain ⟨e0, e1, e2, e3, e4⟩ := B7.cells5
        have hrl : h.roots.length = 64 := f.roots
        simp only [hrl] at k2
        obtain ⟨fl, hfl⟩ : ∃ fl : Nat, h.fill ⟨n, t, s, c, 0⟩ = fl := ⟨_, rfl⟩
        rw [hfl] at HF
        have hft := Lib.hid (show ∀ b, Hd.ptrB ⟨n, t, s, c, 0⟩ = b → fl = if b then h.roots.getD 0 0 else 0 from fun b e => by rw [← hfl, ← e]; rfl)
        have HM7 := Lib.hid (show AllocMid p h n t s c l1 w0 w.heap.size w [] w7 from ⟨_, by simpa using H7, B7, s7⟩)
        clear hfl hrl H7 B7 s7
        generalize h.roots.getD 0 0 = r0 at *
        generalize Hd.ptrB ⟨n, t, s, c, 0⟩ = pb at *
        simp only []
        go_upto_if 75 with fail
        go_cut [9] (fun s9 wx => s9 = .int .u32 fl ∧ AllocMid p h n t s c l1 w0 w.heap.size w [] wx)
        case first =>
          cases pb
          · have hfl := hft.out _ rfl
            simp only [Bool.false_eq_true, if_false] at hfl
            subst hfl
            clear hft
            go_wp2_with fail
            go_meet
            exact ⟨rfl, HM7.out⟩
          · have hfl := hft.out _ rfl
            simp only [if_true] at hfl
            subst hfl
            clear hft
            have hcell := HR0.out
            go_wp2_with fail
            go_meet
            exact ⟨rfl, HM7.out⟩
        case rest =>
          obtain ⟨rfl, hmid⟩ := hcut
          clear hft HM7 HR0 k2 e0 e1 e2 e3 e4
          obtain ⟨p7, H7, B7, s7⟩ := hmid
          obtain ⟨e0, e1, e2, e3, e4⟩ := B7.cells5
          go_wp2_with fail
          have HM8 := Lib.hid (show AllocMid p h n t s c l1 w0 w.heap.size w (List.replicate 0 fl) wc from ⟨p7, H7, B7, s7⟩)
          clear H7 B7 s7 e0 e1 e2 e3 e4
          go_loopw [84] (fun i wr => ∃ k : Nat, k ≤ n ∧ i = .int .i64 k ∧ AllocMid p h n t s c l1 w0 w.heap.size w (List.replicate k fl) wr) (fun i _ => n - (intOf i).toNat)
          case atStart => exact ⟨0, by omega, rfl, HM8.out⟩
          case round =>
            clear HM8
            obtain ⟨k, hk, rfl, hmid⟩ := hrel
            by_cases hlt : k < n
            · obtain ⟨pk, Hk, Bk, sk⟩ := hmid
              obtain ⟨L, hlk⟩ : ∃ L, (h.words ++ [w0, c, l1] ++ List.replicate k fl).length = L := ⟨_, rfl⟩
              have hLb : L ≤ 1048575 := by rw [← hlk]; simp; omega
              have hL0 : 1 ≤ L := by rw [← hlk]; simp; omega
              have hgk := sk.g
              have k0 := Hk.c0
              have zz := Hk.1.frozen 0
              have hown := Hk.2.1.owns
              simp only [hlk] at k0
              rw [u32s_len] at hown
              simp only [hlk] at hown
              rw [hgk] at k0 zz
              have n1 : p.g ≠ pk.gw := fun e => Row.ne_blk Hk.2.1 Hk.1 (by decide) (by rw [hgk]; exact e.symm)
              have hgg : p.g < wr.heap.size := by have := Hk.lt (.inl rfl); omega
              have HO := Lib.hid hown
              have HK := Lib.hid Hk
              have HGK := Lib.hid hgk
              have HLK := Lib.hid hlk
              obtain ⟨i0, hi0, hz0, hz1, hz2⟩ := info_parts info_u32
              clear hown Hk hgk hlk
              go_wp2_with (at_builtin; refine wpList_append_any _ rfl (.tmp 90) (.tmp 92) _ rfl 0 24 i0 _ 1 4 Tryd.underlying22 hi0 hz0 hz1 hz2 rfl (by omega) (.slice (some ⟨pk.gw, 0, none⟩) L pk.cw) L _ rfl (HO.out.alloc _) (wr.heap.size + 1) (some ⟨wr.heap.size, 0, none⟩) 1 1 (u32s [fl]) rfl ⟨rfl, fun _ => ⟨_, rfl, by simp, cell_one_new _ _ _⟩⟩ (one_u32s _) (by simp only [maxLen]; omega) (by omega) (by omega) ?_; intro v1 w5 hown5 hgrow hat5; obtain ⟨g5, c5, rfl, hrow5, hlen5, _⟩ := Row.of_any hown5 (by omega); have k5 := (hgrow.cell_far ⟨p.g, 0, none⟩ (by simp; omega) (by simp [Value.ownBlock]; exact n1)).trans (show (wr.alloc _).cell? _ = _ from (World.cell?_alloc_lt wr _ _ hgg).trans k0); have z5 := (hgrow.frozen_far ⟨p.g, 0, none⟩ (by simp; omega) (by simp [Value.ownBlock]; exact n1)).trans (World.frozen?_alloc_old _ _ _ (by simp; omega) |>.trans zz); clear hown5)
              go_roundw
              case rel => exact ⟨k + 1, by omega, by go_num, AllocMid.grow HK.out Bk sk HGK.out HLK.out hrow5 hgrow hat5⟩
              case measure => simp [intOf]; omega
            · obtain rfl : k = n := by omega
              obtain ⟨pk, Hk, Bk, sk⟩ := hmid
              have hgk := sk.g
              have k1 := Hk.c1
              have zz := Hk.1.frozen 1
              rw [hgk] at k1 zz
              have HS := Lib.hid Hk.2.2.1
              have HK := Lib.hid Hk
              have HGK := Lib.hid hgk
              have n1 : p.g ≠ pk.gs := fun e => Row.ne_blk Hk.2.2.1 Hk.1 (by decide) (by rw [hgk]; exact e.symm)
              have hgg : p.g < wr.heap.size := by have := Hk.lt (.inl rfl); omega
              have hsl : (bools h.starts).length = h.starts.length := bools_len _
              have hml : h.starts.length = h.words.length := f.marks
              have hsb : h.starts.length ≤ 1048576 := by omega
              have HSL := Lib.hid hsl
              have HML := Lib.hid hml
              clear Hk hgk hsl hml
              obtain ⟨e0, e1, e2, e3, e4⟩ := Bk.cells5
              obtain ⟨i0, hi0, hz0, hz1, hz2⟩ := info_parts info_bool
              have a1 : IntKind.i64.wrap (3 + (k : Int)) = 3 + (k : Int) := IntWalk.i64_in _ (by omega)
              go_wp2_with fail
              go_region_law
                ((refine step_append_zeros (by rfl) _ _ _ _ (by rfl) (show Row wr.drew pk.gs 4 pk.cs (bools h.starts) from HS.out) i0 _ 1 Tryd.underlying95 Tryd.underlying3 hi0 hz0 hz1 hz2 rfl rfl h.starts.length (3 + k) HSL.out (by omega) (by simp only [maxLen]; omega) (by omega) (by rfl) (by first | rfl | (simp; omega)) ?_; intro g6 c6 w6 hrow6 hgrow6 hat6; have k6 := (hgrow6.cell_far ⟨p.g, 1, none⟩ hgg (by simpa using n1)).trans k1; have z6 := (hgrow6.frozen_far ⟨p.g, 1, none⟩ hgg (by simpa using n1)).trans zz))
              all_goals
                have hu : bools h.starts ++ List.replicate (3 + k) (Value.bool false) = bools (h.starts ++ List.replicate (3 + k) false) := by simp [bools]
                have hl9 : (h.starts ++ List.replicate (3 + k) false).length = h.starts.length + (3 + k) := by simp
                rw [hu] at hrow6
                obtain ⟨H9, s9⟩ := HAt.grewStarts (ys := List.replicate (3 + k) false) (show HAt wr.drew pk _ from HK.out) hrow6 hgrow6 (by
                  rcases hat6 with e | e
                  · exact .inl e
                  · right; rw [e]; exact Nat.le_refl _)
                have s9' := sk.drew.trans s9
                rw [HGK.out] at H9 s9'
                simp only [hl9] at H9 s9'
                have k9 := H9.c1
                simp only [hl9] at k9
                have m9 := H9.mark (i := h.starts.length) (by show h.starts.length < (h.starts ++ List.replicate (3 + k) false).length; rw [hl9]; omega)
                have z9 : (w6.setCell ⟨p.g, 1, none⟩ (.slice (some ⟨g6, 0, none⟩) (h.starts.length + (3 + k)) c6)).frozen? ⟨g6, h.starts.length, none⟩ = false := H9.2.2.1.frozen _
                have HF9 := Lib.hid (H9.setMark h.starts.length true)
                have S9 := Lib.hid s9'
                have HAT := Lib.hid (fun w => oat_any h.words.length f.one (by omega) w)
                have hwl : h.words.length = h.starts.length := HML.out.symm
                clear hrow6 hgrow6 hat6 s9 s9' hu hl9 a1 H9 k6 z6 e0 e1 e2 e3 e4
                generalize w6.setCell ⟨p.g, 1, none⟩ (.slice (some ⟨g6, 0, none⟩) (h.starts.length + (3 + k)) c6) = W9 at *
                generalize (h.starts ++ List.replicate (3 + k) false).getD h.starts.length false = b9 at *
                have k9' : W9.cell? ⟨p.g, 1, none⟩ = some (.slice (some ⟨g6, 0, none⟩) (h.starts.length + (3 + k)) c6) := k9
                have m9' : W9.cell? ⟨g6, h.starts.length, none⟩ = some (.bool b9) := m9
                clear k9 m9
                rw [hwl] at HAT ⊢
                have hlt9 : (h.starts.length : Int) < ((h.starts.length + (3 + k) : Nat) : Int) := by omega
                clear hwl
                go_wp2_with fail
                refine (HAT.out _).mono ?_
                rintro e w10 ⟨rfl, rfl⟩
                go_wp2_with fail
                go_ret2
                refine ⟨_, ?_, ?_, S9.out.setCell (S9.out.rows g6 (.inr (.inr (.inl rfl)))) _⟩
                · rw [HF.out.1, ← HML.out]
                  simp
                · rw [HF.out.2]
                  have e1 : Hd.w0 ⟨k, t, s, c, 0⟩ = w0 := HW0.out
                  have e2 : (h.starts ++ List.replicate (3 + k) false).set h.starts.length true = h.starts ++ (true :: List.replicate (2 + k) false) := by
                    rw [List.set_append_right _ _ (by omega), Nat.sub_self, show 3 + k = (2 + k) + 1 by omega, List.replicate_succ]
                    rfl
                  have e3 := HF9.out
                  rw [e2] at e3
                  unfold HM.pushH
                  rw [e1, ← HL1.out]
                  exact e3
end Go.Proofs.YtblekggklimpeaaDoor

namespace Go.Proofs.YtblekggklimpeaaDoor
open Go.RowKit

def allocOk (f n : Int) : Bool := decide (1 ≤ f) && decide (f ≤ 4) && decide (0 ≤ n) && decide (n ≤ 65535)
def mkHd (c : Nat) (f n : Int) : Hd := ⟨n.toNat, f.toNat, 0, c, 0⟩
def HM.AllocH (h : HM) (c : Nat) (f n : Int) : HM := if allocOk f n then h.allocH (mkHd c f n) else h
def HM.AllocV (h : HM) (c : Nat) (f n : Int) : Value := if allocOk f n then h.allocV (mkHd c f n) else .tuple #[.int .u32 0, .int .i64 1]

set_option maxHeartbeats 1000000 in
theorem Alloc_any {w : World} {p : HP} {h : HM} (H : HAt w p h) (f : h.Fit) (hs : Spares w) (hp : Far p) (c : Nat) (hc : c < 4294967296) (t n : Int) :
    Calls Tryd.prog 50 #[ptr p.g, .int .u32 c, .int .i64 t, .int .i64 n] w (Made p (h.AllocH c t n) (h.AllocV c t n) w) := by
  have bad : allocOk t n = false → (h.AllocH c t n = h ∧ h.AllocV c t n = .tuple #[.int .u32 0, .int .i64 1]) := fun e => by simp [HM.AllocH, HM.AllocV, e]
  by_cases h1 : t < 1
  · have HF := Lib.hid (bad (by simp [allocOk]; omega))
    clear bad
    go_enter Tryd.func50, Tryd.ntmps50
    go_wp2_with fail
    go_ret2
    exact ⟨p, by rw [HF.out.2]; rfl, by rw [HF.out.1]; exact H, Step.refl _ _⟩
  by_cases h2 : 4 < t
  · have HF := Lib.hid (bad (by simp [allocOk]; omega))
    clear bad
    go_enter Tryd.func50, Tryd.ntmps50
    go_wp2_with fail
    go_ret2
    exact ⟨p, by rw [HF.out.2]; rfl, by rw [HF.out.1]; exact H, Step.refl _ _⟩
  by_cases h3 : n < 0
  · have HF := Lib.hid (bad (by simp [allocOk]; omega))
    clear bad
    go_enter Tryd.func50, Tryd.ntmps50
    go_wp2_with fail
    go_ret2
    exact ⟨p, by rw [HF.out.2]; rfl, by rw [HF.out.1]; exact H, Step.refl _ _⟩
  by_cases h4 : 65535 < n
  · have HF := Lib.hid (bad (by simp [allocOk]; omega))
    clear bad
    go_enter Tryd.func50, Tryd.ntmps50
    go_wp2_with fail
    go_ret2
    exact ⟨p, by rw [HF.out.2]; rfl, by rw [HF.out.1]; exact H, Step.refl _ _⟩
  clear bad
  obtain ⟨k, rfl⟩ := Int.eq_ofNat_of_zero_le (by omega : 0 ≤ n)
  obtain ⟨s, rfl⟩ := Int.eq_ofNat_of_zero_le (by omega : 0 ≤ t)
  have HF := Lib.hid (show h.AllocH c s k = h.allocH ⟨k, s, 0, c, 0⟩ ∧ h.AllocV c s k = h.allocV ⟨k, s, 0, c, 0⟩ by
    have e : allocOk s k = true := by simp [allocOk]; omega
    simp [HM.AllocH, HM.AllocV, e, mkHd])
  have HA := Lib.hid (alloc_any H f hs hp ⟨k, s, 0, c, 0⟩ ⟨by simp; omega, by simp; omega, by simp, hc, by simp⟩ rfl (by simp [Hd.may]; omega))
  unfold Hd.val at HA
  generalize h.allocH ⟨k, s, 0, c, 0⟩ = h2 at *
  have hv : ∃ a b : Int, h.allocV ⟨k, s, 0, c, 0⟩ = .tuple #[.int .u32 a, .int .i64 b] := ⟨_, _, rfl⟩
  obtain ⟨a, b, hv⟩ := hv
  rw [hv] at HA HF
  clear hv
  go_enter Tryd.func50, Tryd.ntmps50
  go_wp2_with fail
  refine HA.out.mono ?_
  rintro e w1 ⟨p1, rfl, H1, s1⟩
  go_wp2_with fail
  go_ret2
  exact ⟨p1, by rw [HF.out.2]; rfl, by rw [HF.out.1]; exact H1, s1⟩

end Go.Proofs.YtblekggklimpeaaDoor

namespace Go.Proofs.YtblekggklimpeaaDoor
open Go.RowKit

theorem run_make_rowN {P : Program} (t e : TypeId) (i : TypeInfo) (z : Value) (ht : P.underlying t = some (.slice e)) (hi : P.info? e = some i) (hz : i.zero = some z)
    (kl kc : IntKind) (n c : Nat) (hnc : n ≤ c) (hbytes : i.bytes * c ≤ 281474976710656) (h63 : c ≤ 9223372036854775807) (w : World) :
    (Instr.makeSlice t (.int kl (n : Int)) (.int kc (c : Int))).run P w = .ok (.slice (some ⟨w.heap.size, 0, none⟩) n c) (w.alloc (.cells (madeCells z.cells (c * i.size)) e)) := by
  have hb : (i.bytes : Int) * (c : Int) ≤ 281474976710656 := by
    have h : ((i.bytes * c : Nat) : Int) ≤ 281474976710656 := by omega
    rwa [Int.natCast_mul] at h
  have hr := run_make (P := P) w t e i z ht hi hz kl kc n c (by omega) (by omega) hb (by omega)
  simp only [Int.toNat_natCast] at hr
  exact hr

def zcells (z : Value) (n : Nat) : Array Value := Array.replicate n z
theorem make_u32 (F : Nat) (hF : F ≤ 1048576) (w : World) :
    (Instr.makeSlice 22 (.int .i64 (F : Int)) (.int .i64 (F : Int))).run Tryd.prog w = .ok (.slice (some ⟨w.heap.size, 0, none⟩) F F) (w.alloc (.cells (zcells (.int .u32 0) F) 24)) := by
  obtain ⟨i0, hi0, hz0, hz1, hz2⟩ := info_parts info_u32
  have := run_make_rowN (P := Tryd.prog) 22 24 i0 _ Tryd.underlying22 hi0 hz0 .i64 .i64 F F (Nat.le_refl _) (by rw [hz2]; omega) (by omega) w
  have e : madeCells (Value.int .u32 0).cells (F * 1) = zcells (.int .u32 0) F := by
    apply Array.ext
    · simp [madeCells, zcells, Value.cells]
    · intro i h1 h2
      simp [madeCells, zcells, Value.cells, Nat.mod_one]
  rw [this, hz1, e]
theorem zcells_row (w : World) (e : TypeId) (F x : Nat) (hF : F ≤ maxLen) : Row (w.alloc (.cells (zcells (.int .u32 x) F) e)) w.heap.size e F (u32s (List.replicate F x)) :=
  ⟨zcells (.int .u32 x) F, Blk.new w _ _, by simp [u32s], hF, by simp [zcells], by simp [zcells, u32s]⟩

/-- What PackBytes answers: a new row of words, the spare bytes. -/
def PackedB (bs : List Nat) (w : World) (d : Ending) (w' : World) : Prop :=
  ∃ g, d = .returned (.tuple #[.slice (some ⟨g, 0, none⟩) (packM bs).length (packM bs).length, .int .i64 (4 * ((bs.length + 3) / 4) - bs.length : Nat), .int .i64 0]) ∧
    Row w' g 24 (packM bs).length (u32s (packM bs)) ∧ w.heap.size ≤ g ∧ Below w.heap.size w w'

theorem u8c_at {zs : List Nat} {k : Nat} {u : Value} (h : (u8c zs)[k]? = some u) : ∃ x, zs[k]? = some x ∧ u = .int .u8 (x : Int) := by
  unfold u8c at h
  rw [List.getElem?_map] at h
  cases hz : zs[k]? with
  | none => rw [hz] at h; cases h
  | some x => rw [hz] at h; exact ⟨x, rfl, by injection h with h; exact h.symm⟩

end Go.Proofs.YtblekggklimpeaaDoor
