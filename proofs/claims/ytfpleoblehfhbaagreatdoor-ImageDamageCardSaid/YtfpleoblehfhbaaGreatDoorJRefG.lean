/- The document's heap: elements read, elements written. -/
/- The document's heap: elements, classes, roots written. -/
/- The document's heap: lay. -/
/- The document's heap: Alloc. -/
/- A script in memory; what a call of a script keeps. -/
/- SameWords, SameOops, sameBytes: two lists are the same. -/
/- same: two lists of bytes; num. -/
import Derived.Test.YtfpleoblehfhbaaGreatDoorJLive
import Derived.Test.YtfpleoblehfhbaaGreatDoorJZeros
import Derived.Test.YtfpleoblehfhbaaGreatDoorJAlloc
import Derived.Test.YtfpleoblehfhbaaGreatDoorJMem
import Derived.StillTailTactics
import Derived.Deep.RegionLaw
import Derived.RegionTactic
set_option linter.unusedVariables false
set_option linter.unusedSectionVars false
namespace Go.Proofs.YtfpleoblehfhbaaGreatDoor
open Go.RowKit

theorem look_at {h : HM} (hh : h.Heads) {o : Nat} {i : Int} {F : Nat} {fs : List Nat} (hF : (F = 1 ∧ fs = [1, 4]) ∨ (F = 2 ∧ fs = [2]) ∨ (F = 3 ∧ fs = [3])) (he : h.lookE o i fs = 0) :
    ∃ k : Nat, i = k ∧ o / 2 + 3 + (if F = 2 then k / 4 else k) < h.words.length := by
  obtain ⟨hi, hc, h0, hlt⟩ := HM.look_ok he
  have hd := (HM.isB_hd hh hi).1
  obtain ⟨k, rfl⟩ := Int.eq_ofNat_of_zero_le h0
  refine ⟨k, rfl, ?_⟩
  unfold Hd.len at hlt
  rcases hF with ⟨rfl, rfl⟩ | ⟨rfl, rfl⟩ | ⟨rfl, rfl⟩
  · rw [if_neg (fun e => by rw [e] at hc; simp at hc)] at hlt
    rw [if_neg (by omega)]; omega
  · rw [if_pos (by simpa using hc)] at hlt
    rw [if_pos rfl]; omega
  · rw [if_neg (fun e => by rw [e] at hc; simp at hc)] at hlt
    rw [if_neg (by omega)]; omega
theorem HM.placeV_no {h : HM} {o F : Nat} {i : Int} {fs : List Nat} (he : h.lookE o i fs ≠ 0) : h.placeV o i F fs = .tuple #[.int .i64 0, .int .i64 (h.lookE o i fs)] := by
  unfold HM.placeV; rw [if_neg he]; rfl
theorem HM.placeV_at {h : HM} {o F k : Nat} {fs : List Nat} (he : h.lookE o k fs = 0) : h.placeV o k F fs = .tuple #[.int .i64 ((o / 2 + 3 + (if F = 2 then k / 4 else k) : Nat) : Int), .int .i64 0] := by
  unfold HM.placeV; rw [if_pos he, he, Int.toNat_natCast]; rfl
def RDeeds (p : HP) (h' : HM) (E : Nat) (w : World) (e : Ending) (w' : World) : Prop := e = .returned (.int .i64 E) ∧ RAt w' p h' ∧ Step p p w w'

section
variable {w : World} {p : HP} {h : HM} (R : RAt w p h) (f : h.Fit) (hh : h.Heads) (o : Nat) (ho : o < 4294967296) (i : Int) (hi63 : i ≤ 9223372036854775807)
include R f hh ho hi63

set_option maxRecDepth 100000 in
theorem rget_any : Calls Tryz.prog 76 #[ptr p.g, .int .u32 o, .int .i64 i] w (Told (.tuple #[.int .u32 (h.readN o i [1, 4] : Nat), .int .i64 (h.lookE o i [1, 4] : Nat)]) w) := by
  have HP := Lib.hid (rplace_any R f o ho hh i 1 [1, 4] (by decide) hi63)
  have hle := h.lookE_lt o i [1, 4]
  by_cases he : h.lookE o i [1, 4] = 0
  · obtain ⟨k, rfl, hk⟩ := look_at hh (F := 1) (fs := [1, 4]) (by decide) he
    rw [HM.placeV_at he] at HP
    simp only [Nat.reduceEqDiff, if_false] at HP hk
    have HN := Lib.hid (show h.readN o k [1, 4] = fw h o k by unfold HM.readN; rw [if_pos he]; rfl)
    have HC := Lib.hid (show ∀ w', Below w.heap.size w w' → w'.cell? ⟨p.g, 1, none⟩ = some (.slice (some ⟨p.gw, 0, none⟩) h.words.length p.cw) ∧ w'.cell? ⟨p.gw, o / 2 + 3 + k, none⟩ = some (.int .u32 (fw h o k : Nat)) from fun w' hb => ⟨(R.below hb).c1, (R.below hb).word hk⟩)
    have hmx := f.room
    have hmx2 := f.hi
    rw [HN.out, he]
    clear he hle HN R f hh
    generalize fw h o k = v at *
    generalize o / 2 + 3 + k = q at *
    generalize h.words.length = len at *
    unfold ptr at HP ⊢
    go_enter Tryz.func76, Tryz.ntmps76
    go_wp2_with fail
    refine HP.out.mono ?_
    rintro e w1 ⟨rfl, hb⟩
    obtain ⟨c1, cv⟩ := HC.out _ hb
    go_wp2_with fail
    go_ret2
    exact ⟨rfl, hb⟩
  · have hne : ((h.lookE o i [1, 4] : Int) != 0) = true := by simp; omega
    rw [HM.placeV_no he] at HP
    have HN := Lib.hid (show h.readN o i [1, 4] = 0 by unfold HM.readN; rw [if_neg he])
    rw [HN.out]
    generalize h.lookE o i [1, 4] = E at *
    clear he HN
    unfold ptr at HP ⊢
    go_enter Tryz.func76, Tryz.ntmps76
    go_wp2_with fail
    refine HP.out.mono ?_
    rintro e w1 ⟨rfl, hb⟩
    go_wp2_with fail
    go_ret2
    exact ⟨rfl, hb⟩

set_option maxRecDepth 100000 in
theorem rword_any : Calls Tryz.prog 75 #[ptr p.g, .int .u32 o, .int .i64 i] w (Told (.tuple #[.int .u32 (h.readN o i [3] : Nat), .int .i64 (h.lookE o i [3] : Nat)]) w) := by
  have HP := Lib.hid (rplace_any R f o ho hh i 3 [3] (by decide) hi63)
  have hle := h.lookE_lt o i [3]
  by_cases he : h.lookE o i [3] = 0
  · obtain ⟨k, rfl, hk⟩ := look_at hh (F := 3) (fs := [3]) (by decide) he
    rw [HM.placeV_at he] at HP
    simp only [Nat.reduceEqDiff, if_false] at HP hk
    have HN := Lib.hid (show h.readN o k [3] = fw h o k by unfold HM.readN; rw [if_pos he]; rfl)
    have HC := Lib.hid (show ∀ w', Below w.heap.size w w' → w'.cell? ⟨p.g, 1, none⟩ = some (.slice (some ⟨p.gw, 0, none⟩) h.words.length p.cw) ∧ w'.cell? ⟨p.gw, o / 2 + 3 + k, none⟩ = some (.int .u32 (fw h o k : Nat)) from fun w' hb => ⟨(R.below hb).c1, (R.below hb).word hk⟩)
    have hmx := f.room
    have hmx2 := f.hi
    rw [HN.out, he]
    clear he hle HN R f hh
    generalize fw h o k = v at *
    generalize o / 2 + 3 + k = q at *
    generalize h.words.length = len at *
    unfold ptr at HP ⊢
    go_enter Tryz.func75, Tryz.ntmps75
    go_wp2_with fail
    refine HP.out.mono ?_
    rintro e w1 ⟨rfl, hb⟩
    obtain ⟨c1, cv⟩ := HC.out _ hb
    go_wp2_with fail
    go_ret2
    exact ⟨rfl, hb⟩
  · have hne : ((h.lookE o i [3] : Int) != 0) = true := by simp; omega
    rw [HM.placeV_no he] at HP
    have HN := Lib.hid (show h.readN o i [3] = 0 by unfold HM.readN; rw [if_neg he])
    rw [HN.out]
    generalize h.lookE o i [3] = E at *
    clear he HN
    unfold ptr at HP ⊢
    go_enter Tryz.func75, Tryz.ntmps75
    go_wp2_with fail
    refine HP.out.mono ?_
    rintro e w1 ⟨rfl, hb⟩
    go_wp2_with fail
    go_ret2
    exact ⟨rfl, hb⟩

set_option maxRecDepth 100000 in
set_option maxHeartbeats 2000000 in
theorem rbyte_any : Calls Tryz.prog 74 #[ptr p.g, .int .u32 o, .int .i64 i] w (Told (.tuple #[.int .u8 (h.byteN o i : Nat), .int .i64 (h.lookE o i [2] : Nat)]) w) := by
  have HP := Lib.hid (rplace_any R f o ho hh i 2 [2] (by decide) hi63)
  have hle := h.lookE_lt o i [2]
  by_cases he : h.lookE o i [2] = 0
  · obtain ⟨k, rfl, hk⟩ := look_at hh (F := 2) (fs := [2]) (by decide) he
    rw [HM.placeV_at he] at HP
    simp only [if_true] at HP hk
    have HN := Lib.hid (show h.byteN o k = byteOf (fw h o (k / 4)) (k % 4) by unfold HM.byteN; rw [if_pos he]; rfl)
    have HC := Lib.hid (show ∀ w', Below w.heap.size w w' → w'.cell? ⟨p.g, 1, none⟩ = some (.slice (some ⟨p.gw, 0, none⟩) h.words.length p.cw) ∧ w'.cell? ⟨p.gw, o / 2 + 3 + k / 4, none⟩ = some (.int .u32 (fw h o (k / 4) : Nat)) from fun w' hb => ⟨(R.below hb).c1, (R.below hb).word hk⟩)
    have hmx := f.room
    have hmx2 := f.hi
    have hv : fw h o (k / 4) < 4294967296 := f.word _
    rw [HN.out, he]
    clear he hle HN R f hh
    generalize fw h o (k / 4) = v at *
    generalize o / 2 + 3 + k / 4 = q at *
    generalize h.words.length = len at *
    unfold ptr at HP ⊢
    rcases (by omega : k % 4 = 0 ∨ k % 4 = 1 ∨ k % 4 = 2 ∨ k % 4 = 3) with hr | hr | hr | hr
    all_goals
      have hmod : (k : Int) % 4 = ((k % 4 : Nat) : Int) := by omega
      rw [hr] at hmod
      have HFIN := Lib.hid (show ((byteOf v (k % 4) : Nat) : Int) = (v : Int) / ((2 ^ (8 * (k % 4)) : Nat) : Int) % 256 by unfold byteOf; simp)
      rw [hr] at HFIN
      rw [hr]
      clear hr
      go_enter Tryz.func74, Tryz.ntmps74
      go_wp2_with fail
      refine HP.out.mono ?_
      rintro e w1 ⟨rfl, hb⟩
      obtain ⟨c1, cv⟩ := HC.out _ hb
      go_wp2_with fail
      go_ret2
      refine ⟨?_, hb⟩
      rw [HFIN.out]
      first
        | (simp; done)
        | (simp; omega)
        | trace_state
  · have hne : ((h.lookE o i [2] : Int) != 0) = true := by simp; omega
    rw [HM.placeV_no he] at HP
    have HN := Lib.hid (show h.byteN o i = 0 by unfold HM.byteN; rw [if_neg he])
    rw [HN.out]
    generalize h.lookE o i [2] = E at *
    clear he HN
    unfold ptr at HP ⊢
    go_enter Tryz.func74, Tryz.ntmps74
    go_wp2_with fail
    refine HP.out.mono ?_
    rintro e w1 ⟨rfl, hb⟩
    go_wp2_with fail
    go_ret2
    exact ⟨rfl, hb⟩
end
end Go.Proofs.YtfpleoblehfhbaaGreatDoor

namespace Go.Proofs.YtfpleoblehfhbaaGreatDoor
open Go.RowKit

section
variable {w : World} {p : HP} {h : HM} (R : RAt w p h) (f : h.Fit) (hh : h.Heads) (o : Nat) (ho : o < 4294967296) (i : Int) (hi63 : i ≤ 9223372036854775807)
include R f hh ho hi63

end

section
variable {w : World} {p : HP} {h : HM} (R : RAt w p h) (f : h.Fit)
include R f
end
end Go.Proofs.YtfpleoblehfhbaaGreatDoor

namespace Go.Proofs.YtfpleoblehfhbaaGreatDoor
open Go.RowKit

section
variable {w w1 : World} {p : HP} {h : HM}
/-- The words' row was appended to, and the field holds the new slice. -/
theorem RAt.grewWords (H : RAt w p h) {g1 c1 : Nat} {ys : List Nat} (hr : Row w1 g1 32 c1 (u32s (h.words ++ ys))) (hg : w.grownBy w1 (some p.gw)) (hat : g1 = p.gw ∨ w.heap.size ≤ g1) :
    RAt (w1.setCell ⟨p.g, 1, none⟩ (.slice (some ⟨g1, 0, none⟩) (h.words ++ ys).length c1)) { p with gw := g1, cw := c1 } { h with words := h.words ++ ys } ∧
    Step p { p with gw := g1, cw := c1 } w (w1.setCell ⟨p.g, 1, none⟩ (.slice (some ⟨g1, 0, none⟩) (h.words ++ ys).length c1)) := by
  obtain ⟨hb, hw, hs, hrt⟩ := H
  have n1 : p.g ≠ p.gw := fun e => Row.ne_blk hw hb (by decide) e.symm
  have n2 : p.gs ≠ p.gw := hs.ne_ hw (by decide)
  have n3 : p.gr ≠ p.gw := hrt.ne_ hw (by decide)
  have hb1 := hb.same (hg.block p.g hb.lt (by simpa using n1))
  have hs1 := hs.same (hg.block p.gs hs.lt (by simpa using n2))
  have hr1 := hrt.same (hg.block p.gr hrt.lt (by simpa using n3))
  refine ⟨⟨hb1.set_ 1 _, hr.far (fun e => Row.ne_blk hr hb1 (by decide) e) _, hs1.far (fun e => Row.ne_blk hs1 hb1 (by decide) e) _, hr1.far (fun e => Row.ne_blk hr1 hb1 (by decide) e) _⟩, ?_⟩
  have s1 : Step p { p with gw := g1, cw := c1 } w w1 := ⟨hg.os, hg.tape, hg.output, hg.size, fun k hk hn => hg.block k hk (by
    intro e; injection e with e; exact hn (.inr (.inl e))), rfl, by
    rintro k (hk | hk | hk | hk)
    · exact .inl (.inl hk)
    · rcases hat with e | e
      · exact .inl (.inr (.inl (hk.trans e)))
      · exact .inr (hk ▸ e)
    · exact .inl (.inr (.inr (.inl hk)))
    · exact .inl (.inr (.inr (.inr hk)))⟩
  exact s1.setCell (.inl (.inl rfl)) _
theorem RAt.grewBegins (H : RAt w p h) {g1 c1 : Nat} {ys : List Bool} (hr : Row w1 g1 5 c1 (begins (h.starts ++ ys))) (hg : w.grownBy w1 (some p.gs)) (hat : g1 = p.gs ∨ w.heap.size ≤ g1) :
    RAt (w1.setCell ⟨p.g, 4, none⟩ (.slice (some ⟨g1, 0, none⟩) (h.starts ++ ys).length c1)) { p with gs := g1, cs := c1 } { h with starts := h.starts ++ ys } ∧
    Step p { p with gs := g1, cs := c1 } w (w1.setCell ⟨p.g, 4, none⟩ (.slice (some ⟨g1, 0, none⟩) (h.starts ++ ys).length c1)) := by
  obtain ⟨hb, hw, hs, hrt⟩ := H
  have n1 : p.g ≠ p.gs := fun e => Row.ne_blk hs hb (by decide) e.symm
  have n2 : p.gw ≠ p.gs := hw.ne_ hs (by decide)
  have n3 : p.gr ≠ p.gs := hrt.ne_ hs (by decide)
  have hb1 := hb.same (hg.block p.g hb.lt (by simpa using n1))
  have hw1 := hw.same (hg.block p.gw hw.lt (by simpa using n2))
  have hr1 := hrt.same (hg.block p.gr hrt.lt (by simpa using n3))
  refine ⟨⟨hb1.set_ 4 _, hw1.far (fun e => Row.ne_blk hw1 hb1 (by decide) e) _, hr.far (fun e => Row.ne_blk hr hb1 (by decide) e) _, hr1.far (fun e => Row.ne_blk hr1 hb1 (by decide) e) _⟩, ?_⟩
  have s1 : Step p { p with gs := g1, cs := c1 } w w1 := ⟨hg.os, hg.tape, hg.output, hg.size, fun k hk hn => hg.block k hk (by
    intro e; injection e with e; exact hn (.inr (.inr (.inl e)))), rfl, by
    rintro k (hk | hk | hk | hk)
    · exact .inl (.inl hk)
    · exact .inl (.inr (.inl hk))
    · rcases hat with e | e
      · exact .inl (.inr (.inr (.inl (hk.trans e))))
      · exact .inr (hk ▸ e)
    · exact .inl (.inr (.inr (.inr hk)))⟩
  exact s1.setCell (.inl (.inl rfl)) _
end
def RMade (p : HP) (h' : HM) (v : Value) (w : World) (e : Ending) (w' : World) : Prop := ∃ p', e = .returned v ∧ RAt w' p' h' ∧ Step p p' w w'

theorem wpList_append_zeros {P : Program} {w : World} {ops : Array Oper} {rest : List Oper} {o : Oper} {a : Act} {Q : Exit → Act → World → Prop} (hgd : o.guard = none) (s x : Operand) (t tn : TypeId)
    (ho : o.op = .call { callee := .builtin .append, args := #[s, x], argTypes := #[t, tn] })
    {g c : Nat} {e : TypeId} {xs : List Value} (hr : Row w g e c xs) (i : TypeInfo) (z : Value) (bytes : Nat)
    (ht : P.underlying t = some (.slice e)) (htn : P.underlying tn = some (.int .i64)) (hi : P.info? e = some i) (hz : i.zero = some z) (hsize : i.size = 1) (hby : i.bytes = bytes)
    (hz1 : z.cells = #[z]) (hone : z.oneCell' = true) (n k : Nat) (hn : xs.length = n) (hk : 0 < k) (h63 : n + k ≤ maxLen) (hbytes : (n + k) * bytes ≤ 140737488355328)
    (hs : a.eval s = .slice (some ⟨g, 0, none⟩) n c) (hx : a.eval x = .int .i64 k)
    (h : ∀ g' c' w', Row w' g' e c' (xs ++ List.replicate k z) → w.grownBy w' (some g) → (g' = g ∨ g' = w.heap.size) → wpList P ops Q rest (a.put o.dst (.slice (some ⟨g', 0, none⟩) (n + k) c')) w') : wpList P ops Q (o :: rest) a w := by
  refine wpList_plain hgd fun K hK => ?_
  subst hn
  obtain ⟨g', c', w', hrun, h1, h2, h3⟩ := run_append_zeros hr t tn o.type i z bytes ht htn hi hz hsize hby hz1 hone k hk h63 hbytes
  exact Lib.wp_append_run w s x t tn ho _ _ hs hx _ w' hrun (hK _ _ (h g' c' w' h1 h2 h3))

def RMid (p p' : HP) (h' : HM) (w : World) (gf n : Nat) (ys : List Nat) (wr : World) : Prop :=
  RAt wr p' h' ∧ Step p p' w wr ∧ Row wr gf 32 n (u32s ys) ∧ ¬ p'.has gf
theorem RMid.next {p p' p'' : HP} {h' h'' : HM} {w wr wx : World} {gf n : Nat} {ys : List Nat} (m : RMid p p' h' w gf n ys wr) (R : RAt wx p'' h'') (s : Step p' p'' wr wx) : RMid p p'' h'' w gf n ys wx :=
  ⟨R, m.2.1.trans s, s.row m.2.2.1 m.2.2.2⟩
theorem RMid.below {p p' : HP} {h' : HM} {w wr wx : World} {gf n : Nat} {ys : List Nat} (m : RMid p p' h' w gf n ys wr) (hb : Below wr.heap.size wr wx) : RMid p p' h' w gf n ys wx :=
  m.next (m.1.below hb) (.of_below hb)

end Go.Proofs.YtfpleoblehfhbaaGreatDoor

namespace Go.Proofs.YtfpleoblehfhbaaGreatDoor
open Go.RowKit
attribute [local go_sem] Oper.semAt_some

theorem RMade.after {p : HP} {h' : HM} {v : Value} {w w1 w' : World} {e : Ending} (m : RMade p h' v w1 e w') (hb : Below w.heap.size w w1) : RMade p h' v w e w' := by
  obtain ⟨p', h1, h2, h3⟩ := m
  exact ⟨p', h1, h2, (Step.of_below hb).trans h3⟩
theorem rep_at (k n a b : Nat) (hk : k < n) : (List.replicate k a ++ List.replicate (n - k) b)[k]? = some b := by
  rw [List.getElem?_append_right (by simp), List.length_replicate, Nat.sub_self, List.getElem?_replicate, if_pos (by omega)]
theorem set_replicate_app (k n a b : Nat) (hk : k < n) : (List.replicate k a ++ List.replicate (n - k) b).set k a = List.replicate (k + 1) a ++ List.replicate (n - (k + 1)) b := by
  rw [List.set_append_right _ _ (by simp), List.length_replicate, Nat.sub_self, show n - k = (n - (k + 1)) + 1 by omega, List.replicate_succ, List.set_cons_zero, List.replicate_succ' (n := k)]
  simp
theorem push_eq {h : HM} (c t k : Nat) (hcl : h.clsB c = true) :
    h.allocH (mkHd c t k) = (if h.size < h.words.length + 3 + k ∨ h.last = 4294967295 then h else h.pushH ⟨k, t, 0, c, 0⟩ (List.replicate k (if t = 1 ∨ t = 4 then h.roots.getD 0 0 else 0))) ∧
    h.allocV (mkHd c t k) = (if h.size < h.words.length + 3 + k ∨ h.last = 4294967295 then .tuple #[.int .u32 0, .int .i64 4] else .tuple #[.int .u32 (2 * h.words.length : Nat), .int .i64 0]) := by
  unfold HM.allocH HM.allocV HM.allocE
  have e : mkHd c (t : Int) (k : Int) = ⟨k, t, 0, c, 0⟩ := rfl
  rw [e]
  dsimp only
  rw [hcl]
  have hf : h.fill ⟨k, t, 0, c, 0⟩ = (if t = 1 ∨ t = 4 then h.roots.getD 0 0 else 0) := by
    unfold HM.fill Hd.ptrB
    by_cases ht : t = 1 ∨ t = 4
    · simp [ht]
    · simp [ht]
  rw [hf]
  by_cases hfull : h.size < h.words.length + 3 + k ∨ h.last = 4294967295
  · simp [hfull]
  · simp [hfull]
theorem make_eq {h : HM} (c : Nat) (bs : List Nat) (hl : bs.length ≤ 262140) (hcl : h.clsB c = true) :
    h.makeH c bs = (if h.size < h.words.length + 3 + (bs.length + 3) / 4 ∨ h.last = 4294967295 then h else h.pushH (makeX c bs) (packM bs)) ∧
    h.makeV c bs = (if h.size < h.words.length + 3 + (bs.length + 3) / 4 ∨ h.last = 4294967295 then .tuple #[.int .u32 0, .int .i64 4] else .tuple #[.int .u32 (2 * h.words.length : Nat), .int .i64 0]) := by
  have e0 : h.makeE c bs = h.allocE (makeX c bs) := by unfold HM.makeE; rw [if_neg (by omega)]
  unfold HM.makeH HM.makeV
  rw [e0]
  unfold HM.allocE
  rw [show (makeX c bs).cls = c from rfl, hcl, show (makeX c bs).size = (bs.length + 3) / 4 from rfl]
  by_cases hfull : h.size < h.words.length + 3 + (bs.length + 3) / 4 ∨ h.last = 4294967295
  · simp [hfull]
  · simp [hfull]
section
variable {w : World} {p : HP} {h : HM} (R : RAt w p h) (f : h.Fit)
include R f
end
end Go.Proofs.YtfpleoblehfhbaaGreatDoor

namespace Go.Proofs.YtfpleoblehfhbaaGreatDoor
open Go.RowKit

def Dd.val (d : Dd) (A : Option Addr) (n c : Nat) : Value :=
  .agg #[.int .i64 d.k, .int .u32 (d.o : Nat), .int .u32 (d.v : Nat), .int .i64 d.f, .int .i64 d.i, .int .i64 d.n, .int .u32 (d.w : Nat), .slice A n c]

def Dd.vals (d : Dd) (A : Option Addr) (n c : Nat) : List Value :=
  [.int .i64 d.k, .int .u32 (d.o : Nat), .int .u32 (d.v : Nat), .int .i64 d.f, .int .i64 d.i, .int .i64 d.n, .int .u32 (d.w : Nat), .slice A n c]
/-- A script lies in memory, below block B. -/
def DeedsAt (w : World) (B : Nat) (A : Option Addr) (ds : List Dd) : Prop :=
  ∀ i d, ds[i]? = some d → d.Fit ∧ ∃ ad Ab nb cb, A = some ad ∧ ad.block < B ∧ nb ≤ 9223372036854775807 ∧ Reads w B 1 Ab nb (u8c d.b) ∧ ∀ j v, (d.vals Ab nb cb)[j]? = some v → w.cell? (ad.add (i * 8 + j)) = some v
section
variable {w w' : World} {p p' : HP} {B : Nat} {A : Option Addr} {ds : List Dd}
theorem DeedsAt.keep (h : DeedsAt w B A ds) (hk : ∀ q : Addr, q.block < B → w'.cell? q = w.cell? q) : DeedsAt w' B A ds := by
  intro i d hd
  obtain ⟨f, ad, Ab, nb, cb, h1, h2, h3, h4, h5⟩ := h i d hd
  exact ⟨f, ad, Ab, nb, cb, h1, h2, h3, h4.keep hk, fun j v hv => (hk _ (by rw [block_of_add]; exact h2)).trans (h5 j v hv)⟩
theorem DeedsAt.below (h : DeedsAt w B A ds) (hb : Below B w w') : DeedsAt w' B A ds := h.keep fun _ hq => hb.cell hq
theorem DeedsAt.fit (h : DeedsAt w B A ds) : ∀ d ∈ ds, d.Fit := fun d hd => by
  obtain ⟨i, hi⟩ := List.getElem?_of_mem hd
  exact (h i d hi).1
theorem cell_add {a : Addr} {j : Nat} {v : Value} (h : w.cell? (a.add j) = some v) (hj : 0 < j) : w.cell? ⟨a.block, a.off + j, none⟩ = some v := by
  unfold Addr.add at h
  rw [if_neg (by omega)] at h
  exact h
theorem DeedsAt.load (h : DeedsAt w B A ds) {i : Nat} {d : Dd} (hd : ds[i]? = some d) :
    ∃ ad Ab nb cb, A = some ad ∧ ad.block < B ∧ nb ≤ 9223372036854775807 ∧ Reads w B 1 Ab nb (u8c d.b) ∧
      w.cell? (ad.add (i * 8)) = some (.int .i64 d.k) ∧ w.cell? ⟨(ad.add (i * 8)).block, (ad.add (i * 8)).off + 1, none⟩ = some (.int .u32 (d.o : Nat)) ∧
      w.cell? ⟨(ad.add (i * 8)).block, (ad.add (i * 8)).off + 2, none⟩ = some (.int .u32 (d.v : Nat)) ∧ w.cell? ⟨(ad.add (i * 8)).block, (ad.add (i * 8)).off + 3, none⟩ = some (.int .i64 d.f) ∧
      w.cell? ⟨(ad.add (i * 8)).block, (ad.add (i * 8)).off + 4, none⟩ = some (.int .i64 d.i) ∧ w.cell? ⟨(ad.add (i * 8)).block, (ad.add (i * 8)).off + 5, none⟩ = some (.int .i64 d.n) ∧
      w.cell? ⟨(ad.add (i * 8)).block, (ad.add (i * 8)).off + 6, none⟩ = some (.int .u32 (d.w : Nat)) ∧ w.cell? ⟨(ad.add (i * 8)).block, (ad.add (i * 8)).off + 7, none⟩ = some (.slice Ab nb cb) := by
  obtain ⟨f, ad, Ab, nb, cb, h1, h2, h3, h4, h5⟩ := h i d hd
  have h6 : ∀ j v, 0 < j → (d.vals Ab nb cb)[j]? = some v → w.cell? ⟨(ad.add (i * 8)).block, (ad.add (i * 8)).off + j, none⟩ = some v := fun j v hj hv =>
    cell_add (by rw [add_of_add]; exact h5 j v hv) hj
  exact ⟨ad, Ab, nb, cb, h1, h2, h3, h4, h5 0 _ rfl, h6 1 _ (by omega) rfl, h6 2 _ (by omega) rfl, h6 3 _ (by omega) rfl, h6 4 _ (by omega) rfl, h6 5 _ (by omega) rfl, h6 6 _ (by omega) rfl, h6 7 _ (by omega) rfl⟩
end

theorem own_step {W w w' : World} {p p' : HP} {base n : Nat} {e : TypeId} {v : Value} {xs : List Value} (s : Step p p' w w') (h : w.ownsRow base e 1 v n xs) (ha : ∀ k, v.ownBlock = some k → ¬ p.has k) :
    w'.ownsRow base e 1 v n xs ∧ ∀ k, v.ownBlock = some k → ¬ p'.has k := by
  have hlt := h.lt
  refine ⟨⟨h.1, ?_⟩, fun k hk hh => ?_⟩
  · rcases h.2 with h2 | ⟨g, cap, cur, rfl, hb, hh, r⟩
    · exact .inl h2
    · exact .inr ⟨g, cap, cur, rfl, hb, (s.block g (hlt g rfl).2 (ha g rfl)).trans hh, r⟩
  · rcases s.rows k hh with hh | hh
    · exact ha k hk hh
    · have := (hlt k hk).2; omega
theorem Live.grown {W w w' : World} {p : HP} {g : Nat} {h : HM} {row : Option Nat} (L : Live W w p g h) (hg : w.grownBy w' row) (hr : ∀ k, row = some k → ¬ p.has k ∧ W.heap.size ≤ k) : Live W w' p g h :=
  ⟨L.at_.same fun k hk => hg.block k (L.at_.lt hk) (fun e => (hr k e.symm).1 hk), L.hg, L.good, L.env, L.new,
    ⟨hg.os.trans L.below.os, hg.tape.trans L.below.tape, hg.output.trans L.below.output, Nat.le_trans L.below.size hg.size, fun k hk =>
      (hg.block k (by have := L.below.size; omega) (fun e => by have := (hr k e.symm).2; omega)).trans (L.below.block k hk)⟩⟩
theorem HM.new_scr {n : Nat} (h1 : 64 ≤ n) (h2 : n ≤ 1048576) : (HM.new n).Scr [] := ⟨HM.new_good h1 h2 (HM.new_fit h1 h2), rfl⟩
theorem runM_len {n : Nat} (h1 : 64 ≤ n) (h2 : n ≤ 1048576) (ds : List Dd) (fd : ∀ d ∈ ds, d.Fit) : ((HM.new n).runM ds).length < 349526 := by
  obtain ⟨l, s, _, _, hl, _⟩ := (HM.new_scr h1 h2).run ds fd
  have := s.len
  have := s.last_lt
  simp at hl
  omega
theorem take_snoc {α : Type} {ds : List α} {k : Nat} {d : α} (hd : ds[k]? = some d) : ds.take (k + 1) = ds.take k ++ [d] := by
  rw [List.take_add_one, hd]; rfl

theorem ret_bool {a : Bool} (h : a = true) : Ending.returned (.bool a) = .returned (.bool true) := by rw [h]
end Go.Proofs.YtfpleoblehfhbaaGreatDoor

namespace Go.Proofs.YtfpleoblehfhbaaGreatDoor
open Go.RowKit

theorem u8c_lenS (l : List Nat) : (u8c l).length = l.length := by simp [u8c]
theorem u8c_get {l : List Nat} {i : Nat} (h : i < l.length) : (u8c l)[i]? = some (.int .u8 ((l.getD i 0 : Nat) : Int)) := by
  simp [u8c, List.getD, h]

set_option maxHeartbeats 1000000 in
theorem sameWords_any (A A' : Option Addr) (n n' c c' : Nat) (xs ys : List Nat) (w : World) (hn : n ≤ 9223372036854775807) (hn' : n' ≤ 9223372036854775807) (hr : Reads w w.heap.size 1 A n (u32s xs)) (hr' : Reads w w.heap.size 1 A' n' (u32s ys)) :
    Calls Tryz.prog 26 #[.slice A n c, .slice A' n' c'] w (Told (.bool (sameL xs ys)) w) := by
  have hl : xs.length = n := by have := hr.1; rw [u32s_len] at this; omega
  have hl' : ys.length = n' := by have := hr'.1; rw [u32s_len] at this; omega
  have HL := Lib.hid hl; have HL' := Lib.hid hl'
  clear hl hl'
  have HR := Lib.hid hr; have HR' := Lib.hid hr'
  clear hr hr'
  by_cases hnn : n = n'
  · subst hnn
    go_enter Tryz.func26, Tryz.ntmps26
    go_wp2_with fail
    go_loopw [5] (fun i wr => ∃ k : Nat, k ≤ n ∧ i = .int .i64 k ∧ xs.take k = ys.take k ∧ Below w.heap.size w wr) (fun i _ => n - (intOf i).toNat)
    case atStart => exact ⟨0, by omega, rfl, rfl, Below.refl _ _⟩
    case round =>
      obtain ⟨k, hk, rfl, ht, hb⟩ := hrel
      have HT := Lib.hid ht; clear ht
      by_cases hlt : k < n
      · have hx : k < xs.length := by rw [HL.out]; exact hlt
        have hy : k < ys.length := by rw [HL'.out]; exact hlt
        obtain ⟨ad, u, rfl, hbl, hu, hc⟩ := (HR.out.below hb).at_ hlt
        obtain ⟨ad', u', rfl, hbl', hu', hc'⟩ := (HR'.out.below hb).at_ hlt
        rw [u32s_get hx] at hu
        rw [u32s_get hy] at hu'
        injection hu with hu
        injection hu' with hu'
        subst hu hu'
        have HX := Lib.hid hx; have HY := Lib.hid hy
        clear hx hy
        by_cases he : xs.getD k 0 = ys.getD k 0
        · have HE := Lib.hid (take_eq_succ HX.out HY.out he HT.out)
          have hv : ((xs.getD k 0 : Int) != (ys.getD k 0 : Int)) = false := by rw [he]; simp
          clear he
          generalize xs.getD k 0 = x at *
          generalize ys.getD k 0 = y at *
          go_wp2_with fail
          go_region
          all_goals go_wp2_with fail
          all_goals go_roundw
          case rel => exact ⟨k + 1, by omega, by go_num, HE.out, below_drew hb⟩
          case measure => simp [intOf]; omega
        · have HE := Lib.hid (sameL_at HX.out HY.out he)
          have hv : ((xs.getD k 0 : Int) != (ys.getD k 0 : Int)) = true := by rw [bne_iff_ne]; omega
          clear he
          generalize xs.getD k 0 = x at *
          generalize ys.getD k 0 = y at *
          go_wp2_with fail
          go_region
          all_goals go_wp2_with fail
          all_goals go_ret
          all_goals exact ⟨by rw [HE.out]; rfl, below_drew hb⟩
      · obtain rfl : k = n := by omega
        have HA := Lib.hid (sameL_all HL.out HL'.out HT.out)
        go_wp2_with fail
        go_ret
        exact ⟨by rw [HA.out]; rfl, hb⟩
  · have HF := Lib.hid (sameL_len (xs := xs) (ys := ys) (by rw [HL.out, HL'.out]; exact hnn))
    have hv : ((n : Int) != (n' : Int)) = true := by simp; omega
    clear hnn
    go_enter Tryz.func26, Tryz.ntmps26
    go_wp2_with fail
    go_ret
    exact ⟨by rw [HF.out]; rfl, Below.refl _ _⟩

set_option maxHeartbeats 1000000 in
theorem sameOops_any (A A' : Option Addr) (n n' c c' : Nat) (xs ys : List Nat) (w : World) (hn : n ≤ 9223372036854775807) (hn' : n' ≤ 9223372036854775807) (hr : Reads w w.heap.size 1 A n (u32s xs)) (hr' : Reads w w.heap.size 1 A' n' (u32s ys)) :
    Calls Tryz.prog 28 #[.slice A n c, .slice A' n' c'] w (Told (.bool (sameL xs ys)) w) := by
  have hl : xs.length = n := by have := hr.1; rw [u32s_len] at this; omega
  have hl' : ys.length = n' := by have := hr'.1; rw [u32s_len] at this; omega
  have HL := Lib.hid hl; have HL' := Lib.hid hl'
  clear hl hl'
  have HR := Lib.hid hr; have HR' := Lib.hid hr'
  clear hr hr'
  by_cases hnn : n = n'
  · subst hnn
    go_enter Tryz.func28, Tryz.ntmps28
    go_wp2_with fail
    go_loopw [5] (fun i wr => ∃ k : Nat, k ≤ n ∧ i = .int .i64 k ∧ xs.take k = ys.take k ∧ Below w.heap.size w wr) (fun i _ => n - (intOf i).toNat)
    case atStart => exact ⟨0, by omega, rfl, rfl, Below.refl _ _⟩
    case round =>
      obtain ⟨k, hk, rfl, ht, hb⟩ := hrel
      have HT := Lib.hid ht; clear ht
      by_cases hlt : k < n
      · have hx : k < xs.length := by rw [HL.out]; exact hlt
        have hy : k < ys.length := by rw [HL'.out]; exact hlt
        obtain ⟨ad, u, rfl, hbl, hu, hc⟩ := (HR.out.below hb).at_ hlt
        obtain ⟨ad', u', rfl, hbl', hu', hc'⟩ := (HR'.out.below hb).at_ hlt
        rw [u32s_get hx] at hu
        rw [u32s_get hy] at hu'
        injection hu with hu
        injection hu' with hu'
        subst hu hu'
        have HX := Lib.hid hx; have HY := Lib.hid hy
        clear hx hy
        by_cases he : xs.getD k 0 = ys.getD k 0
        · have HE := Lib.hid (take_eq_succ HX.out HY.out he HT.out)
          have hv : ((xs.getD k 0 : Int) != (ys.getD k 0 : Int)) = false := by rw [he]; simp
          clear he
          generalize xs.getD k 0 = x at *
          generalize ys.getD k 0 = y at *
          go_wp2_with fail
          go_region
          all_goals go_wp2_with fail
          all_goals go_roundw
          case rel => exact ⟨k + 1, by omega, by go_num, HE.out, below_drew hb⟩
          case measure => simp [intOf]; omega
        · have HE := Lib.hid (sameL_at HX.out HY.out he)
          have hv : ((xs.getD k 0 : Int) != (ys.getD k 0 : Int)) = true := by rw [bne_iff_ne]; omega
          clear he
          generalize xs.getD k 0 = x at *
          generalize ys.getD k 0 = y at *
          go_wp2_with fail
          go_region
          all_goals go_wp2_with fail
          all_goals go_ret
          all_goals exact ⟨by rw [HE.out]; rfl, below_drew hb⟩
      · obtain rfl : k = n := by omega
        have HA := Lib.hid (sameL_all HL.out HL'.out HT.out)
        go_wp2_with fail
        go_ret
        exact ⟨by rw [HA.out]; rfl, hb⟩
  · have HF := Lib.hid (sameL_len (xs := xs) (ys := ys) (by rw [HL.out, HL'.out]; exact hnn))
    have hv : ((n : Int) != (n' : Int)) = true := by simp; omega
    clear hnn
    go_enter Tryz.func28, Tryz.ntmps28
    go_wp2_with fail
    go_ret
    exact ⟨by rw [HF.out]; rfl, Below.refl _ _⟩

end Go.Proofs.YtfpleoblehfhbaaGreatDoor

namespace Go.Proofs.YtfpleoblehfhbaaGreatDoor
open Go.RowKit

set_option maxHeartbeats 1000000 in
theorem isame_any (A A' : Option Addr) (n n' c c' : Nat) (xs ys : List Nat) (w : World) (hn : n ≤ 9223372036854775807) (hn' : n' ≤ 9223372036854775807) (hr : Reads w w.heap.size 1 A n (u8c xs)) (hr' : Reads w w.heap.size 1 A' n' (u8c ys)) :
    Calls Tryz.prog 13 #[.slice A n c, .slice A' n' c'] w (Told (.bool (sameL xs ys)) w) := by
  have hl : xs.length = n := by have := hr.1; rw [u8c_lenS] at this; omega
  have hl' : ys.length = n' := by have := hr'.1; rw [u8c_lenS] at this; omega
  have HL := Lib.hid hl; have HL' := Lib.hid hl'
  clear hl hl'
  have HR := Lib.hid hr; have HR' := Lib.hid hr'
  clear hr hr'
  by_cases hnn : n = n'
  · subst hnn
    go_enter Tryz.func13, Tryz.ntmps13
    go_wp2_with fail
    go_loopw [5] (fun i wr => ∃ k : Nat, k ≤ n ∧ i = .int .i64 k ∧ xs.take k = ys.take k ∧ Below w.heap.size w wr) (fun i _ => n - (intOf i).toNat)
    case atStart => exact ⟨0, by omega, rfl, rfl, Below.refl _ _⟩
    case round =>
      obtain ⟨k, hk, rfl, ht, hb⟩ := hrel
      have HT := Lib.hid ht; clear ht
      by_cases hlt : k < n
      · have hx : k < xs.length := by rw [HL.out]; exact hlt
        have hy : k < ys.length := by rw [HL'.out]; exact hlt
        obtain ⟨ad, u, rfl, hbl, hu, hc⟩ := (HR.out.below hb).at_ hlt
        obtain ⟨ad', u', rfl, hbl', hu', hc'⟩ := (HR'.out.below hb).at_ hlt
        rw [u8c_get hx] at hu
        rw [u8c_get hy] at hu'
        injection hu with hu
        injection hu' with hu'
        subst hu hu'
        have HX := Lib.hid hx; have HY := Lib.hid hy
        clear hx hy
        by_cases he : xs.getD k 0 = ys.getD k 0
        · have HE := Lib.hid (take_eq_succ HX.out HY.out he HT.out)
          have hv : ((xs.getD k 0 : Int) != (ys.getD k 0 : Int)) = false := by rw [he]; simp
          clear he
          generalize xs.getD k 0 = x at *
          generalize ys.getD k 0 = y at *
          go_wp2_with fail
          go_region
          all_goals go_wp2_with fail
          all_goals go_roundw
          case rel => exact ⟨k + 1, by omega, by go_num, HE.out, below_drew hb⟩
          case measure => simp [intOf]; omega
        · have HE := Lib.hid (sameL_at HX.out HY.out he)
          have hv : ((xs.getD k 0 : Int) != (ys.getD k 0 : Int)) = true := by rw [bne_iff_ne]; omega
          clear he
          generalize xs.getD k 0 = x at *
          generalize ys.getD k 0 = y at *
          go_wp2_with fail
          go_region
          all_goals go_wp2_with fail
          all_goals go_ret
          all_goals exact ⟨by rw [HE.out]; rfl, below_drew hb⟩
      · obtain rfl : k = n := by omega
        have HA := Lib.hid (sameL_all HL.out HL'.out HT.out)
        go_wp2_with fail
        go_ret
        exact ⟨by rw [HA.out]; rfl, hb⟩
  · have HF := Lib.hid (sameL_len (xs := xs) (ys := ys) (by rw [HL.out, HL'.out]; exact hnn))
    have hv : ((n : Int) != (n' : Int)) = true := by simp; omega
    clear hnn
    go_enter Tryz.func13, Tryz.ntmps13
    go_wp2_with fail
    go_ret
    exact ⟨by rw [HF.out]; rfl, Below.refl _ _⟩
theorem inum_any (E : Nat) (hE : E < 4294967296) (w : World) : Calls Tryz.prog 8 #[.int .i64 E] w fun e w' => e = .returned (.int .i64 E) ∧ w = w' := by
  go_enter Tryz.func8, Tryz.ntmps8
  go_wp2_with fail
  go_ret
  exact ⟨rfl, rfl⟩
end Go.Proofs.YtfpleoblehfhbaaGreatDoor
