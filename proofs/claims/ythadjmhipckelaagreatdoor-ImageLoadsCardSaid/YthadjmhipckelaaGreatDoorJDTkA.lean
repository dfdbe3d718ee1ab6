import Derived.Test.YthadjmhipckelaaGreatDoorJDNwA
import Derived.Test.YthadjmhipckelaaGreatDoorJDNewer
import Derived.Test.YthadjmhipckelaaGreatDoorJRefG
import Derived.Test.YthadjmhipckelaaGreatDoorJIParse
import Derived.Test.YthadjmhipckelaaGreatDoorJRefQ
import Derived.Test.YthadjmhipckelaaGreatDoorJILoad
import Derived.Test.YthadjmhipckelaaGreatDoorJISave
import Derived.Deep.RegionHeld3
import Derived.Deep.CutBlock
set_option linter.unusedVariables false
set_option linter.unusedSimpArgs false
set_option linter.unusedSectionVars false
namespace Go.Proofs.YthadjmhipckelaaGreatDoor
section
open Go.RowKit
theorem Blk.setAll4 {w : World} {g : Nat} {t : TypeId} {a b c d : Value} (h : Blk w g t #[a, b, c, d]) (x0 x1 x2 x3 : Value) :
 Blk ((((w.setCell ⟨g, 0, none⟩ x0).setCell ⟨g, 1, none⟩ x1).setCell ⟨g, 2, none⟩ x2).setCell ⟨g, 3, none⟩ x3) g t #[x0, x1, x2, x3] :=
 (((h.set_ 0 x0).set_ 1 x1).set_ 2 x2).set_ 3 x3
theorem below4 {w W : World} {B g : Nat} (h : Below B W w) (hB : B ≤ g) (a' b' c' d' : Value) : Below B W ((((w.setCell ⟨g, 0, none⟩ a').setCell ⟨g, 1, none⟩ b').setCell ⟨g, 2, none⟩ c').setCell ⟨g, 3, none⟩ d') :=
 (((h.setCell (p := ⟨g, 0, none⟩) hB a').setCell (p := ⟨g, 1, none⟩) hB b').setCell (p := ⟨g, 2, none⟩) hB c').setCell (p := ⟨g, 3, none⟩) hB d'
def snapV (v o n l : Nat) : Value := .agg #[.int .i64 v, .int .i64 o, .int .i64 n, .int .u32 l]
def TakD (b : List Nat) (size : Nat) (w : World) (e : Ending) (w' : World) : Prop :=
 Below w.heap.size w w' ∧ ((takeE b size ≠ 0 ∧ e = .returned (.tuple #[.pointer none, snapV 0 0 0 0, .int .i64 (takeE b size : Nat)])) ∨
  (takeE b size = 0 ∧ ∃ (r : Rd) (l : List Ob) (q : HP), takeR b = .ok r ∧ (takeH b size).Good l ∧
    e = .returned (.tuple #[ptr q.g, snapV r.ver l.length r.words.length r.last, .int .i64 0]) ∧ RAt w' q (takeH b size) ∧ ∀ k, q.has k → w.heap.size ≤ k))
def MidD (bs : List Nat) (w W : World) (b5 : Nat) (v7 v8 : Value) : Prop :=
 Below w.heap.size w W ∧ Blk W b5 34 #[.int .i64 0, .int .i64 0, .int .i64 0, .int .u32 0] ∧
 ((∃ E : Nat, takeR bs = .error E ∧ E ≠ 0 ∧ v7 = .pointer none ∧ v8 = .int .i64 E) ∨
 (∃ (r : Rd) (xg : Nat) (b vw vr : Value), takeR bs = .ok r ∧ v7 = .pointer (some ⟨xg, 0, none⟩) ∧ v8 = .int .i64 0 ∧ Blk W xg 63 (RdC (.int .i64 r.ver) b (.int .i64 r.words.length) (.int .u32 r.last) vw vr r.wrong) ∧
   W.ownsRow (b5 + 1) 32 1 vw r.words.length (u32s r.words) ∧ W.ownsRow (b5 + 1) 72 1 vr r.roots.length (u32s r.roots) ∧ b5 < xg))
theorem MidD.none {bs : List Nat} {w W : World} {b5 E : Nat} (hb : Below w.heap.size w W) (z : Blk W b5 34 #[.int .i64 0, .int .i64 0, .int .i64 0, .int .u32 0]) (h : takeR bs = .error E) : MidD bs w W b5 (.pointer none) (.int .i64 (E : Nat)) :=
 ⟨hb, z, .inl ⟨E, h, takeR_err h, rfl, rfl⟩⟩
theorem MidD.older {bs : List Nat} {w W W' : World} {b5 : Nat} {e : Ending} (hb : Below w.heap.size w W) (z : Blk W b5 34 #[.int .i64 0, .int .i64 0, .int .i64 0, .int .u32 0]) (h : takeR bs = oldM bs) (H : OlderP bs W e W') :
 ∃ v7 v8, e = .returned (.tuple #[v7, v8]) ∧ MidD bs w W' b5 v7 v8 := by
 obtain ⟨hb1, H⟩ := H
 have z1 := z.below hb1 z.lt
 have hb2 := below_top hb hb1
 cases ho : oldM bs with
 | error E =>
   rw [ho] at H
   exact ⟨_, _, H, hb2, z1, .inl ⟨E, h.trans ho, oldM_err ho, rfl, rfl⟩⟩
 | ok r =>
   rw [ho] at H
   obtain ⟨xg, vw, vr, h1, h2, h3, h4, h5⟩ := H
   have hver : r.ver = 1 ∧ r.wrong = false := by
    unfold oldM at ho
    split at ho
    ·cases ho
    ·split at ho
     ·cases ho
     ·cases ho; exact ⟨rfl, rfl⟩
   have hz := z.lt
   refine ⟨_, _, h1, hb2, z1, .inr ⟨r, xg, .int .i64 0, vw, vr, h.trans ho, rfl, rfl, ?_, own_base h3 (by omega), own_base h4 (by omega), by omega⟩⟩
   rw [hver.1, hver.2]
   exact h2
theorem MidD.newer {bs : List Nat} {w W W' : World} {b5 : Nat} {e : Ending} (h8 : ∀ x ∈ bs, x < 256) (hb : Below w.heap.size w W) (z : Blk W b5 34 #[.int .i64 0, .int .i64 0, .int .i64 0, .int .u32 0]) (h : takeR bs = match newM (bs.drop 5) with
 | .error e => .error e
 | .ok i => .ok ⟨2, i.words, i.roots, i.last, i.wrong⟩) (H : NewerP (bs.drop 5) W e W') :
 ∃ v7 v8, e = .returned (.tuple #[v7, v8]) ∧ MidD bs w W' b5 v7 v8 := by
 obtain ⟨hb1, H⟩ := H
 have z1 := z.below hb1 z.lt
 have hb2 := below_top hb hb1
 cases ho : newM (bs.drop 5) with
 | error E =>
   rw [ho] at H h
   exact ⟨_, _, H, hb2, z1, .inl ⟨E, h, takeR_err h, rfl, rfl⟩⟩
 | ok i =>
   rw [ho] at H h
   obtain ⟨xg, vw, vr, h1, h2, h3, h4, h5⟩ := H
   have hz := z.lt
   have hw : placeT i.ts = i.words.length := (words_place i.ts i.ts (newM_fit ho (fun x hx => h8 x (List.mem_of_mem_drop hx))).2.2).symm
   refine ⟨_, _, h1, hb2, z1, .inr ⟨_, xg, .int .i64 i.ts.length, vw, vr, h, rfl, rfl, ?_, own_base h3 (by omega), own_base h4 (by omega), by omega⟩⟩
   rw [hw] at h2
   exact h2
theorem RLoadP.two {size last : Nat} {ws rs : List Nat} {w w' : World} {e : Ending} (H : RLoadP size ws rs last w e w') :
 ∃ (vq : Value) (E : Nat), e = .returned (.tuple #[vq, .int .i64 (E : Nat)]) ∧ Below w.heap.size w w' ∧ loadE size ws rs last = E ∧ (E = 0 → ∃ q : HP, vq = ptr q.g ∧ RAt w' q (HM.ofWords size ws rs last) ∧ ∀ k, q.has k → w.heap.size ≤ k) := by
 obtain ⟨hb, ⟨h1, h2⟩ | ⟨h1, q, h2, h3, h4⟩⟩ := H
 ·exact ⟨_, _, h2, hb, rfl, fun h => absurd h h1⟩
 ·exact ⟨_, 0, h2, hb, h1, fun _ => ⟨q, rfl, h3, h4⟩⟩
open Classical in
theorem take_small {b : List Nat} {size : Nat} {r : Rd} (h : takeR b = .ok r) (hs : size < r.words.length) : takeE b size = 4 := by
 unfold takeE
 rw [h]
 exact if_pos hs
open Classical in
theorem take_bad {b : List Nat} {size : Nat} {r : Rd} (h : takeR b = .ok r) (hs : ¬ size < r.words.length) (hb : r.wrong = true ∨ loadE size r.words r.roots r.last ≠ 0) (hr : r.roots.length = 64) : takeE b size = 145 := by
 unfold takeE
 rw [h]
 refine (if_neg hs).trans (if_pos ?_)
 rcases hb with h1 | h1
 ·exact .inl h1
 ·exact .inr fun hok => h1 (loadE_zero hs hr hok)
open Classical in
theorem take_fine {b : List Nat} {size : Nat} {r : Rd} (h : takeR b = .ok r) (h8 : ∀ x ∈ b, x < 256) (h1 : 64 ≤ size) (h2 : size ≤ 1048576) (hs : ¬ size < r.words.length) (hw : r.wrong = false) (he : loadE size r.words r.roots r.last = 0) :
 takeE b size = 0 ∧ takeH b size = HM.ofWords size r.words r.roots r.last ∧ ∃ l, (takeH b size).Good l := by
 have F := take_fit h h8
 have hok : LoadOk size r.words r.roots r.last := Classical.byContradiction fun hn => loadE_ne hn he
 have eH : takeH b size = HM.ofWords size r.words r.roots r.last := by unfold takeH; rw [h]
 refine ⟨?_, eH, ?_⟩
 ·unfold takeE
  rw [h]
  exact (if_neg hs).trans (if_neg (by rintro (h3 | h3); rw [hw] at h3; cases h3; exact h3 hok))
 ·obtain ⟨l, hl, hso⟩ := hok
  exact ⟨l, by rw [eH]; exact HM.ofWords_good h1 h2 F.w32 F.r32 F.roots F.last (by omega) hl hso⟩
end
section
open Go.RowKit
attribute [local go_sem] Oper.semAt_some
def InfoP (b : List Nat) (w : World) (e : Ending) (w' : World) : Prop :=
 Below w.heap.size w w' ∧ ((takeE b 1048576 ≠ 0 ∧ e = .returned (.tuple #[snapV 0 0 0 0, .int .i64 (takeE b 1048576 : Nat)])) ∨
  (takeE b 1048576 = 0 ∧ ∃ (r : Rd) (l : List Ob), takeR b = .ok r ∧ (takeH b 1048576).Good l ∧ e = .returned (.tuple #[snapV r.ver l.length r.words.length r.last, .int .i64 0])))
def MigP (b : List Nat) (w : World) (e : Ending) (w' : World) : Prop :=
 Below w.heap.size w w' ∧ ((takeE b 1048576 ≠ 0 ∧ e = .returned (.tuple #[.slice none 0 0, .int .i64 (takeE b 1048576 : Nat)])) ∨
  (takeE b 1048576 = 0 ∧ ∃ (l : List Ob) (v : Value), (takeH b 1048576).Good l ∧ e = .returned (.tuple #[v, .int .i64 0]) ∧ w'.ownsRow w.heap.size 5 1 v ((takeH b 1048576).newI l).length (u8c ((takeH b 1048576).newI l))))
set_option maxRecDepth 100000 in
set_option maxHeartbeats 4000000 in
theorem imigrate_any {w : World} {n c : Nat} {A : Option Addr} {bs : List Nat} (hs : Spares w) (hr : Reads w w.heap.size 1 A n (u8c bs)) (hA : 0 < n → ∃ g0 o0, A = some ⟨g0, o0, none⟩) (hc : n ≤ c) (hn : n ≤ 9223372036854775807) (h8 : ∀ x ∈ bs, x < 256) :
 Calls Tryz.prog 9 #[.slice A n c] w (MigP bs w) := by
 have HT := Lib.hid (take_any hs hr hA hc hn h8 (size := 1048576) (by decide) (by decide))
 have HSP := Lib.hid hs
 clear hs hr hA hc hn h8
 go_enter Tryz.func9, Tryz.ntmps9
 go_wp2_with fail
 refine HT.out.mono ?_
 rintro e w1 ⟨hb1, ⟨h3, rfl⟩ | ⟨h3, r, l, p, A1, A2, n1, c1, n2, c2, hr, hG, rfl, hat, hnew⟩⟩
 ·have HB := Lib.hid (hb1.alloc hb1.size (.cells #[.int .i64 0, .int .i64 0, .int .u32 0, .slice none 0 0, .slice none 0 0] 47))
  have H3 := Lib.hid h3
  obtain ⟨E, hE⟩ : ∃ E, E = takeE bs 1048576 := ⟨_, rfl⟩
  have HEE := Lib.hid hE
  rw [← hE] at h3 ⊢
  clear hE
  have hne : ((E : Int) != 0) = true := by simp; omega
  have hnei : ¬ ((E : Int) = 0) := by omega
  clear hb1 h3 HT
  unfold rdV
  go_wp2_with fail
  go_ret2
  exact ⟨HB.out, .inl ⟨H3.out, by rw [HEE.out]; rfl⟩⟩
 ·have hb2 : Below w1.heap.size w1 (w1.alloc (.cells #[.int .i64 r.ver, .int .i64 l.length, .int .u32 r.last, .slice A1 n1 c1, .slice A2 n2 c2] 47)) := (Below.refl _ _).alloc (Nat.le_refl _) _
  have HB1 := Lib.hid (below_top hb1 hb2)
  have HSV := Lib.hid (isave_any (hat.below hb2) hG (HSP.out.below (below_top hb1 hb2)))
  have HG := Lib.hid hG
  have H3 := Lib.hid h3
  clear hb1 hG hat hnew h3 HT hb2
  unfold ptr
  unfold ptr at HSV
  go_wp2_with fail
  generalize w1.alloc (.cells #[.int .i64 r.ver, .int .i64 l.length, .int .u32 r.last, .slice A1 n1 c1, .slice A2 n2 c2] 47) = w2 at *
  refine HSV.out.mono ?_
  rintro e w3 ⟨v, rfl, ho, hb3⟩
  have HO := Lib.hid (own_base ho HB1.out.size)
  have HB3 := Lib.hid (below_top HB1.out hb3)
  clear ho hb3 HSV HB1
  go_wp2_with fail
  go_ret2
  exact ⟨HB3.out, .inr ⟨H3.out, l, v, HG.out, rfl, HO.out⟩⟩
set_option maxRecDepth 100000 in
set_option maxHeartbeats 8000000 in
theorem iinfo_any {w : World} {n c : Nat} {A : Option Addr} {bs : List Nat} (hs : Spares w) (hr : Reads w w.heap.size 1 A n (u8c bs)) (hA : 0 < n → ∃ g0 o0, A = some ⟨g0, o0, none⟩) (hc : n ≤ c) (hn : n ≤ 9223372036854775807) (h8 : ∀ x ∈ bs, x < 256) :
 Calls Tryz.prog 8 #[.slice A n c] w (InfoP bs w) := by
 have hb1 : Below w.heap.size w (w.alloc (.cells #[.int .i64 0, .int .i64 0, .int .i64 0, .int .u32 0] 34)) := (Below.refl _ _).alloc (Nat.le_refl _) _
 have HZ1 := Lib.hid (Blk.new w 34 #[.int .i64 0, .int .i64 0, .int .i64 0, .int .u32 0])
 have HF1 := Lib.hid hb1
 have hwW : w.heap.size ≤ (w.alloc (.cells #[.int .i64 0, .int .i64 0, .int .i64 0, .int .u32 0] 34)).heap.size := hb1.size
 have HT := Lib.hid (take_any (hs.below hb1) ((hr.below hb1).more hwW) hA hc hn h8 (size := 1048576) (by decide) (by decide))
 clear hb1 hs hr hA hc hn h8 hwW
 go_enter Tryz.func8, Tryz.ntmps8
 go_upto_region 1 with fail
 generalize w.alloc (.cells #[.int .i64 0, .int .i64 0, .int .i64 0, .int .u32 0] 34) = W1 at *
 go_wp2_with fail
 refine HT.out.mono ?_
 rintro e w1 ⟨hb1, ⟨h3, rfl⟩ | ⟨h3, r, l, p, A1, A2, n1, c1, n2, c2, hr, hG, rfl, hat, hnew⟩⟩
 ·obtain ⟨E, hE⟩ : ∃ E, E = takeE bs 1048576 := ⟨_, rfl⟩
  have hb2 : Below w1.heap.size w1 (w1.alloc (.cells #[.int .i64 0, .int .i64 0, .int .u32 0, .slice none 0 0, .slice none 0 0] 47)) := (Below.refl _ _).alloc (Nat.le_refl _) _
  have HB := Lib.hid (below_top (below_top HF1.out hb1) hb2)
  have HZ2 := Lib.hid ((HZ1.out.below hb1 HZ1.out.lt).alloc (.cells #[.int .i64 0, .int .i64 0, .int .u32 0, .slice none 0 0, .slice none 0 0] 47))
  have H3 := Lib.hid h3
  have HEE := Lib.hid hE
  rw [← hE] at h3 ⊢
  have hne : ((E : Int) != 0) = true := by simp; omega
  have hnei : ¬ ((E : Int) = 0) := by omega
  clear hE hb1 h3 HT hb2 HZ1 HF1
  unfold rdV
  go_upto_region 2 with fail
  generalize w1.alloc (.cells #[.int .i64 0, .int .i64 0, .int .u32 0, .slice none 0 0, .slice none 0 0] 47) = W3 at *
  have z0 := HZ2.out.frozen 0
  have z1 := HZ2.out.frozen 1
  have z2 := HZ2.out.frozen 2
  have z3 := HZ2.out.frozen 3
  have d0 : W3.cell? ⟨w.heap.size, 0, none⟩ = some (.int .i64 0) := HZ2.out.cell 0
  have d1 : W3.cell? ⟨w.heap.size, 1, none⟩ = some (.int .i64 0) := HZ2.out.cell 1
  have d2 : W3.cell? ⟨w.heap.size, 2, none⟩ = some (.int .i64 0) := HZ2.out.cell 2
  have d3 : W3.cell? ⟨w.heap.size, 3, none⟩ = some (.int .u32 0) := HZ2.out.cell 3
  have HZ5 := Lib.hid (HZ2.out.setAll4 (.int .i64 0) (.int .i64 0) (.int .i64 0) (.int .u32 0))
  have HFB := Lib.hid (below4 HB.out (Nat.le_refl _) (.int .i64 0) (.int .i64 0) (.int .i64 0) (.int .u32 0))
  go_wp2_with fail
  generalize ((((W3.setCell ⟨w.heap.size, 0, none⟩ (.int .i64 0)).setCell ⟨w.heap.size, 1, none⟩ (.int .i64 0)).setCell ⟨w.heap.size, 2, none⟩ (.int .i64 0)).setCell ⟨w.heap.size, 3, none⟩ (.int .u32 0)) = WF at *
  clear z0 d0 z1 d1 z2 d2 z3 d3
  have f0 := HZ5.out.cell 0
  have f1 := HZ5.out.cell 1
  have f2 := HZ5.out.cell 2
  have f3 := HZ5.out.cell 3
  refine bodyPost_ret (v := .tuple #[.agg #[.int .i64 0, .int .i64 0, .int .i64 0, .int .u32 0], .int .i64 (E : Nat)]) (by simp [results, Tryz.results8, go_sem, f0, f1, f2, f3]) rfl ?_
  exact ⟨HFB.out, .inl ⟨H3.out, by rw [HEE.out]; rfl⟩⟩
 ·have hb2 : Below w1.heap.size w1 (w1.alloc (.cells #[.int .i64 r.ver, .int .i64 l.length, .int .u32 r.last, .slice A1 n1 c1, .slice A2 n2 c2] 47)) := (Below.refl _ _).alloc (Nat.le_refl _) _
  have HB := Lib.hid (below_top (below_top HF1.out hb1) hb2)
  have HZ2 := Lib.hid ((HZ1.out.below hb1 HZ1.out.lt).alloc (.cells #[.int .i64 r.ver, .int .i64 l.length, .int .u32 r.last, .slice A1 n1 c1, .slice A2 n2 c2] 47))
  have HX2 := Lib.hid (Blk.new w1 47 #[.int .i64 r.ver, .int .i64 l.length, .int .u32 r.last, .slice A1 n1 c1, .slice A2 n2 c2])
  have hw1 : (takeH bs 1048576).words.length = r.words.length := by unfold takeH; rw [hr]; rfl
  have HAT := Lib.hid (hat.below hb2)
  have HTP := Lib.hid (fun (W : World) (h : Below (w1.alloc (.cells #[.int .i64 r.ver, .int .i64 l.length, .int .u32 r.last, .slice A1 n1 c1, .slice A2 n2 c2] 47)).heap.size (w1.alloc (.cells #[.int .i64 r.ver, .int .i64 l.length, .int .u32 r.last, .slice A1 n1 c1, .slice A2 n2 c2] 47)) W) => top_any (HAT.out.below h) hG.fit)
  rw [hw1] at HTP
  have HTK := Lib.hid hr
  have HG := Lib.hid hG
  have H3 := Lib.hid h3
  have hlt : w.heap.size < w1.heap.size := (HZ1.out.below hb1 HZ1.out.lt).lt
  clear hb1 hG hat hnew h3 HT hb2 hr hw1 HZ1 HF1 HAT
  unfold ptr
  unfold ptr at HTP
  go_upto_region 4 with fail
  generalize w1.alloc (.cells #[.int .i64 r.ver, .int .i64 l.length, .int .u32 r.last, .slice A1 n1 c1, .slice A2 n2 c2] 47) = W3 at *
  generalize w1.heap.size = xg at *
  have x0 : W3.cell? ⟨xg, 0, none⟩ = some (.int .i64 r.ver) := HX2.out.cell 0
  have x1 : W3.cell? ⟨xg, 1, none⟩ = some (.int .i64 l.length) := HX2.out.cell 1
  have x2 : W3.cell? ⟨xg, 2, none⟩ = some (.int .u32 r.last) := HX2.out.cell 2
  have z0 := HZ2.out.frozen 0
  have z1 := HZ2.out.frozen 1
  have z2 := HZ2.out.frozen 2
  have z3 := HZ2.out.frozen 3
  have d0 : W3.cell? ⟨w.heap.size, 0, none⟩ = some (.int .i64 0) := HZ2.out.cell 0
  have d1 : W3.cell? ⟨w.heap.size, 1, none⟩ = some (.int .i64 0) := HZ2.out.cell 1
  have d2 : W3.cell? ⟨w.heap.size, 2, none⟩ = some (.int .i64 0) := HZ2.out.cell 2
  have d3 : W3.cell? ⟨w.heap.size, 3, none⟩ = some (.int .u32 0) := HZ2.out.cell 3
  have HZ5 := Lib.hid (HZ2.out.setAll4 (.int .i64 r.ver) (.int .i64 l.length) (.int .i64 r.words.length) (.int .u32 r.last))
  have HFB := Lib.hid (below4 HB.out (Nat.le_refl _) (.int .i64 r.ver) (.int .i64 l.length) (.int .i64 r.words.length) (.int .u32 r.last))
  refine wp_region_U 10 (fun w' => w'.cell? ⟨xg, 0, none⟩ = some (.int .i64 (r.ver : Int)) ∧ w'.cell? ⟨xg, 1, none⟩ = some (.int .i64 (l.length : Int)) ∧ w'.cell? ⟨xg, 2, none⟩ = some (.int .u32 (r.last : Int))) (by kernel_rfl) ?_
  have hS : W3.drew.cell? ⟨xg, 0, none⟩ = some (.int .i64 (r.ver : Int)) ∧ W3.drew.cell? ⟨xg, 1, none⟩ = some (.int .i64 (l.length : Int)) ∧ W3.drew.cell? ⟨xg, 2, none⟩ = some (.int .u32 (r.last : Int)) := ⟨x0, x1, x2⟩
  have HTP2 := Lib.hid (HTP.out W3.drew (below_drew (Below.refl _ _)))
  have HZ4 := Lib.hid (show Blk W3.drew w.heap.size 34 #[.int .i64 0, .int .i64 0, .int .i64 0, .int .u32 0] from HZ2.out)
  have HF4 := Lib.hid (below_drew HB.out)
  have HX4 := Lib.hid (show Blk W3.drew xg 47 #[.int .i64 r.ver, .int .i64 l.length, .int .u32 r.last, .slice A1 n1 c1, .slice A2 n2 c2] from HX2.out)
  clear HTP HX2 HZ2 HB x0 x1 x2 z0 z1 z2 z3 d0 d1 d2 d3 HZ5 HFB
  generalize W3.drew = wq at *
  refine U_readC 0 [1, 8, 9, 10] (v := (.pointer (some ⟨xg, 0, none⟩))) rfl (by kernel_rfl) (fun _ _ _ h => h) hS (by kernel_rfl) (fun w' hw' => by obtain ⟨h0, h1, h2⟩ := hw'; go_simp) ?_
  try simp only [Act.put, List.setIfInBounds_toArray, List.set_cons_zero, List.set_cons_succ]
  refine U_readC 1 [8, 9, 10] (v := (.int .i64 (r.ver : Int))) rfl (by kernel_rfl) (fun _ _ _ h => h) hS (by kernel_rfl) (fun w' hw' => by obtain ⟨h0, h1, h2⟩ := hw'; go_simp) ?_
  try simp only [Act.put, List.setIfInBounds_toArray, List.set_cons_zero, List.set_cons_succ]
  refine U_readC 2 [3, 8, 9, 10] (v := (.pointer (some ⟨xg, 1, none⟩))) rfl (by kernel_rfl) (fun _ _ _ h => h) hS (by kernel_rfl) (fun w' hw' => by obtain ⟨h0, h1, h2⟩ := hw'; go_simp) ?_
  try simp only [Act.put, List.setIfInBounds_toArray, List.set_cons_zero, List.set_cons_succ]
  refine U_readC 3 [8, 9, 10] (v := (.int .i64 (l.length : Int))) rfl (by kernel_rfl) (fun _ _ _ h => h) hS (by kernel_rfl) (fun w' hw' => by obtain ⟨h0, h1, h2⟩ := hw'; go_simp) ?_
  try simp only [Act.put, List.setIfInBounds_toArray, List.set_cons_zero, List.set_cons_succ]
  refine U_readC 4 [5, 8, 9, 10] (v := (.pointer (some ⟨p.g, 0, none⟩))) rfl (by kernel_rfl) (fun _ _ _ h => h) hS (by kernel_rfl) (fun w' hw' => by obtain ⟨h0, h1, h2⟩ := hw'; go_simp) ?_
  try simp only [Act.put, List.setIfInBounds_toArray, List.set_cons_zero, List.set_cons_succ]
  refine U_readC 6 [7, 8, 9, 10] (v := (.pointer (some ⟨xg, 2, none⟩))) rfl (by kernel_rfl) (fun _ _ _ h => h) hS (by kernel_rfl) (fun w' hw' => by obtain ⟨h0, h1, h2⟩ := hw'; go_simp) ?_
  try simp only [Act.put, List.setIfInBounds_toArray, List.set_cons_zero, List.set_cons_succ]
  refine U_readC 7 [8, 9, 10] (v := (.int .u32 (r.last : Int))) rfl (by kernel_rfl) (fun _ _ _ h => h) hS (by kernel_rfl) (fun w' hw' => by obtain ⟨h0, h1, h2⟩ := hw'; go_simp) ?_
  try simp only [Act.put, List.setIfInBounds_toArray, List.set_cons_zero, List.set_cons_succ]
  refine U_one 5 (by kernel_rfl) rfl rfl (fun K hK => ?_)
  go_simp
  refine HTP2.out.mono ?_
  rintro e w' ⟨rfl, rfl⟩
  refine hK _ _ (fun _ => hS) ?_
  clear hK K
  try simp only [Act.put, List.setIfInBounds_toArray, List.set_cons_zero, List.set_cons_succ]
  refine U_one 8 (by kernel_rfl) rfl rfl (fun K hK => ?_)
  go_simp
  refine hK _ _ (fun _ => hS) ?_
  clear hK K
  try simp only [Act.put, List.setIfInBounds_toArray, List.set_cons_zero, List.set_cons_succ]
  have z0 := HZ4.out.frozen 0
  have z1 := HZ4.out.frozen 1
  have z2 := HZ4.out.frozen 2
  have z3 := HZ4.out.frozen 3
  have d0 : wq.cell? ⟨w.heap.size, 0, none⟩ = some (.int .i64 0) := HZ4.out.cell 0
  have d1 : wq.cell? ⟨w.heap.size, 1, none⟩ = some (.int .i64 0) := HZ4.out.cell 1
  have d2 : wq.cell? ⟨w.heap.size, 2, none⟩ = some (.int .i64 0) := HZ4.out.cell 2
  have d3 : wq.cell? ⟨w.heap.size, 3, none⟩ = some (.int .u32 0) := HZ4.out.cell 3
  have HZ5 := Lib.hid (HZ4.out.setAll4 (.int .i64 r.ver) (.int .i64 l.length) (.int .i64 r.words.length) (.int .u32 r.last))
  have HFB := Lib.hid (below4 HF4.out (Nat.le_refl _) (.int .i64 r.ver) (.int .i64 l.length) (.int .i64 r.words.length) (.int .u32 r.last))
  have HX5 := Lib.hid (HX4.out.same (show ((((wq.setCell ⟨w.heap.size, 0, none⟩ (.int .i64 r.ver)).setCell ⟨w.heap.size, 1, none⟩ (.int .i64 l.length)).setCell ⟨w.heap.size, 2, none⟩ (.int .i64 r.words.length)).setCell ⟨w.heap.size, 3, none⟩ (.int .u32 r.last)).heap[xg]? = wq.heap[xg]? from by
   have hkn : xg ≠ w.heap.size := by omega
   rw [Below.heap_setCell _ _ _ xg hkn, Below.heap_setCell _ _ _ xg hkn, Below.heap_setCell _ _ _ xg hkn, Below.heap_setCell _ _ _ xg hkn]))
  refine U_one 9 (by kernel_rfl) rfl rfl (fun K hK => ?_)
  go_simp
  generalize ((((wq.setCell ⟨w.heap.size, 0, none⟩ (.int .i64 r.ver)).setCell ⟨w.heap.size, 1, none⟩ (.int .i64 l.length)).setCell ⟨w.heap.size, 2, none⟩ (.int .i64 r.words.length)).setCell ⟨w.heap.size, 3, none⟩ (.int .u32 r.last)) = WF at *
  have hS9 : WF.cell? ⟨xg, 0, none⟩ = some (.int .i64 (r.ver : Int)) ∧ WF.cell? ⟨xg, 1, none⟩ = some (.int .i64 (l.length : Int)) ∧ WF.cell? ⟨xg, 2, none⟩ = some (.int .u32 (r.last : Int)) := ⟨HX5.out.cell 0, HX5.out.cell 1, HX5.out.cell 2⟩
  refine hK _ _ (fun _ => hS9) ?_
  clear hK K
  try simp only [Act.put, List.setIfInBounds_toArray, List.set_cons_zero, List.set_cons_succ]
  refine U_one 10 (by kernel_rfl) rfl rfl (fun K hK => ?_)
  go_simp
  refine hK _ _ (fun h => absurd h (by decide)) ?_
  clear hK K
  try simp only [Act.put, List.setIfInBounds_toArray, List.set_cons_zero, List.set_cons_succ]
  refine U_done (by kernel_rfl) ?_ _
  simp only [Calm, Exit.then]
  clear hS hS9 z0 d0 z1 d1 z2 d2 z3 d3
  go_wp2_with fail
  have f0 := HZ5.out.cell 0
  have f1 := HZ5.out.cell 1
  have f2 := HZ5.out.cell 2
  have f3 := HZ5.out.cell 3
  refine bodyPost_ret (v := .tuple #[.agg #[.int .i64 r.ver, .int .i64 l.length, .int .i64 r.words.length, .int .u32 r.last], .int .i64 0]) (by simp [results, Tryz.results8, go_sem, f0, f1, f2, f3]) rfl ?_
  exact ⟨HFB.out, .inr ⟨H3.out, r, l, HTK.out, HG.out, rfl⟩⟩
end
section
open Go.RowKit
attribute [local go_sem] Oper.semAt_some
set_option maxRecDepth 100000 in
set_option maxHeartbeats 16000000 in
theorem takeD_any {w : World} {A : Option Addr} {n c size : Nat} {bs : List Nat} (hs : Spares w) (hr : Reads w w.heap.size 1 A n (u8c bs)) (hA : 0 < n → ∃ g0 o0, A = some ⟨g0, o0, none⟩) (hc : n ≤ c) (hn : n ≤ 9223372036854775807) (h8 : ∀ x ∈ bs, x < 256) (h64 : 64 ≤ size) (hsize : size ≤ 1048576) :
 Calls Tryz.prog 10 #[.slice A n c, .int .i64 size] w (TakD bs size w) := by
 have hbl : bs.length = n := by have := hr.1; rw [u8c_len] at this; omega
 have hb1 : Below w.heap.size w (w.alloc (.cells #[.int .i64 0, .int .i64 0, .int .i64 0, .int .u32 0] 34)) := (Below.refl _ _).alloc (Nat.le_refl _) _
 have HZ1 := Lib.hid (Blk.new w 34 #[.int .i64 0, .int .i64 0, .int .i64 0, .int .u32 0])
 have HF1 := Lib.hid hb1
 have HR1 := Lib.hid (hr.below hb1)
 have HS1 := Lib.hid (hs.below hb1)
 have HBL := Lib.hid hbl
 have H8 := Lib.hid h8
 clear hb1 hr hs hbl h8
 go_enter Tryz.func10, Tryz.ntmps10
 go_upto_region 1 with fail
 generalize w.alloc (.cells #[.int .i64 0, .int .i64 0, .int .i64 0, .int .u32 0] 34) = W1 at *
 by_cases hbig : 8388608 < n
 ·have hd : decide (8388608 < (n : Int)) = true := decide_eq_true (by omega)
  have HNM := Lib.hid (show takeR bs = .error 2 from by unfold takeR; rw [if_pos (by rw [HBL.out]; exact hbig)])
  have HTE := Lib.hid (takeR_errs (size := size) HNM.out)
  have z0 := HZ1.out.frozen 0
  have z1 := HZ1.out.frozen 1
  have z2 := HZ1.out.frozen 2
  have z3 := HZ1.out.frozen 3
  have d0 : W1.cell? ⟨w.heap.size, 0, none⟩ = some (.int .i64 0) := HZ1.out.cell 0
  have d1 : W1.cell? ⟨w.heap.size, 1, none⟩ = some (.int .i64 0) := HZ1.out.cell 1
  have d2 : W1.cell? ⟨w.heap.size, 2, none⟩ = some (.int .i64 0) := HZ1.out.cell 2
  have d3 : W1.cell? ⟨w.heap.size, 3, none⟩ = some (.int .u32 0) := HZ1.out.cell 3
  have HZ5 := Lib.hid (HZ1.out.setAll4 (.int .i64 0) (.int .i64 0) (.int .i64 0) (.int .u32 0))
  have HFB := Lib.hid (below4 HF1.out (Nat.le_refl _) (.int .i64 0) (.int .i64 0) (.int .i64 0) (.int .u32 0))
  clear HR1 HS1 HBL H8
  go_wp2_with fail
  generalize ((((W1.setCell ⟨w.heap.size, 0, none⟩ (.int .i64 0)).setCell ⟨w.heap.size, 1, none⟩ (.int .i64 0)).setCell ⟨w.heap.size, 2, none⟩ (.int .i64 0)).setCell ⟨w.heap.size, 3, none⟩ (.int .u32 0)) = WF at *
  clear z0 d0 z1 d1 z2 d2 z3 d3
  have f0 := HZ5.out.cell 0
  have f1 := HZ5.out.cell 1
  have f2 := HZ5.out.cell 2
  have f3 := HZ5.out.cell 3
  refine bodyPost_ret (v := .tuple #[.pointer none, .agg #[.int .i64 0, .int .i64 0, .int .i64 0, .int .u32 0], .int .i64 2]) (by simp [results, Tryz.results10, go_sem, f0, f1, f2, f3]) rfl ?_
  exact ⟨HFB.out, .inl ⟨by rw [HTE.out]; first | decide | exact HNE.out, by rw [HTE.out]; rfl⟩⟩
 have hd : decide (8388608 < (n : Int)) = false := decide_eq_false (by omega)
 by_cases h5 : n < 5
 ·have hd5 : decide ((n : Int) < 5) = true := decide_eq_true (by omega)
  have HNM := Lib.hid (show takeR bs = .error 140 from by unfold takeR; rw [if_neg (by rw [HBL.out]; exact hbig), if_pos (.inl (by rw [HBL.out]; exact h5))])
  have HTE := Lib.hid (takeR_errs (size := size) HNM.out)
  have z0 := HZ1.out.frozen 0
  have z1 := HZ1.out.frozen 1
  have z2 := HZ1.out.frozen 2
  have z3 := HZ1.out.frozen 3
  have d0 : W1.cell? ⟨w.heap.size, 0, none⟩ = some (.int .i64 0) := HZ1.out.cell 0
  have d1 : W1.cell? ⟨w.heap.size, 1, none⟩ = some (.int .i64 0) := HZ1.out.cell 1
  have d2 : W1.cell? ⟨w.heap.size, 2, none⟩ = some (.int .i64 0) := HZ1.out.cell 2
  have d3 : W1.cell? ⟨w.heap.size, 3, none⟩ = some (.int .u32 0) := HZ1.out.cell 3
  have HZ5 := Lib.hid (HZ1.out.setAll4 (.int .i64 0) (.int .i64 0) (.int .i64 0) (.int .u32 0))
  have HFB := Lib.hid (below4 HF1.out (Nat.le_refl _) (.int .i64 0) (.int .i64 0) (.int .i64 0) (.int .u32 0))
  clear HR1 HS1 HBL H8
  go_wp2_with fail
  generalize ((((W1.setCell ⟨w.heap.size, 0, none⟩ (.int .i64 0)).setCell ⟨w.heap.size, 1, none⟩ (.int .i64 0)).setCell ⟨w.heap.size, 2, none⟩ (.int .i64 0)).setCell ⟨w.heap.size, 3, none⟩ (.int .u32 0)) = WF at *
  clear z0 d0 z1 d1 z2 d2 z3 d3
  have f0 := HZ5.out.cell 0
  have f1 := HZ5.out.cell 1
  have f2 := HZ5.out.cell 2
  have f3 := HZ5.out.cell 3
  refine bodyPost_ret (v := .tuple #[.pointer none, .agg #[.int .i64 0, .int .i64 0, .int .i64 0, .int .u32 0], .int .i64 140]) (by simp [results, Tryz.results10, go_sem, f0, f1, f2, f3]) rfl ?_
  exact ⟨HFB.out, .inl ⟨by rw [HTE.out]; first | decide | exact HNE.out, by rw [HTE.out]; rfl⟩⟩
 have hd5 : decide ((n : Int) < 5) = false := decide_eq_false (by omega)
 obtain ⟨g0, o0, hA'⟩ := hA (by omega)
 clear hA
 subst hA'
 have HSL : ∀ w : World, (Instr.slice 22 (.slice (some ⟨g0, o0, none⟩) n c) none (some (.int .i64 4)) none).run Tryz.prog w = .ok (.slice (some ⟨g0, o0, none⟩) 4 c) w := fun w => by
  have h := slice_head w (some ⟨g0, o0, none⟩) n c 4 (by omega)
  have e : tailA (some ⟨g0, o0, none⟩) c 0 = some ⟨g0, o0, none⟩ := by
   unfold tailA
   split
   ·rfl
   ·simp [Addr.add]
  rw [e] at h
  exact h
 have HCV := conv_head (len := 4) (c2 := c) HR1.out (by omega) (by omega)
 by_cases hmk : bs.take 4 = [69, 70, 73, 71]
 rotate_left
 ·have HNM := Lib.hid (show takeR bs = .error 140 from by unfold takeR; rw [if_neg (by rw [HBL.out]; exact hbig), if_pos (.inr hmk)])
  have hst : ((istrN (bs.take 4)).toList == ({ data := #[69, 70, 73, 71] } : ByteArray).toList) = false := str_ne (fun e => hmk (by
   rw [← strN_mark] at e
   exact (istrN_inj (fun x hx => H8.out x (List.mem_of_mem_take hx)) (by decide)).1 e))
  have hst2 : ((istrN (bs.take 4)).toList == ([69, 70, 73, 71] : List UInt8)) = false := by have h := hst; rw [ByteArray.toList_eq ({ data := #[69, 70, 73, 71] } : ByteArray)] at h; exact h
  have hsn : ¬ istrN (bs.take 4) = ({ data := #[69, 70, 73, 71] } : ByteArray) := fun e => hmk (by
   rw [← strN_mark] at e
   exact (istrN_inj (fun x hx => H8.out x (List.mem_of_mem_take hx)) (by decide)).1 e)
  clear hmk
  have HTE := Lib.hid (takeR_errs (size := size) HNM.out)
  have z0 := HZ1.out.frozen 0
  have z1 := HZ1.out.frozen 1
  have z2 := HZ1.out.frozen 2
  have z3 := HZ1.out.frozen 3
  have d0 : W1.cell? ⟨w.heap.size, 0, none⟩ = some (.int .i64 0) := HZ1.out.cell 0
  have d1 : W1.cell? ⟨w.heap.size, 1, none⟩ = some (.int .i64 0) := HZ1.out.cell 1
  have d2 : W1.cell? ⟨w.heap.size, 2, none⟩ = some (.int .i64 0) := HZ1.out.cell 2
  have d3 : W1.cell? ⟨w.heap.size, 3, none⟩ = some (.int .u32 0) := HZ1.out.cell 3
  have HZ5 := Lib.hid (HZ1.out.setAll4 (.int .i64 0) (.int .i64 0) (.int .i64 0) (.int .u32 0))
  have HFB := Lib.hid (below4 HF1.out (Nat.le_refl _) (.int .i64 0) (.int .i64 0) (.int .i64 0) (.int .u32 0))
  clear HR1 HS1 HBL H8
  go_wp2_with fail
  generalize ((((W1.setCell ⟨w.heap.size, 0, none⟩ (.int .i64 0)).setCell ⟨w.heap.size, 1, none⟩ (.int .i64 0)).setCell ⟨w.heap.size, 2, none⟩ (.int .i64 0)).setCell ⟨w.heap.size, 3, none⟩ (.int .u32 0)) = WF at *
  clear z0 d0 z1 d1 z2 d2 z3 d3
  have f0 := HZ5.out.cell 0
  have f1 := HZ5.out.cell 1
  have f2 := HZ5.out.cell 2
  have f3 := HZ5.out.cell 3
  refine bodyPost_ret (v := .tuple #[.pointer none, .agg #[.int .i64 0, .int .i64 0, .int .i64 0, .int .u32 0], .int .i64 140]) (by simp [results, Tryz.results10, go_sem, f0, f1, f2, f3]) rfl ?_
  exact ⟨HFB.out, .inl ⟨by rw [HTE.out]; first | decide | exact HNE.out, by rw [HTE.out]; rfl⟩⟩
 rw [hmk, strN_mark] at HCV
 have HT1 : ¬ 8388608 < bs.length := by rw [HBL.out]; exact hbig
 have HT2 : ¬ (bs.length < 5 ∨ bs.take 4 ≠ [69, 70, 73, 71]) := by rw [HBL.out]; rintro (h | h); exact h5 h; exact h hmk
 have H3 := Lib.hid (And.intro (fun h3 => take_old1 HT1 HT2 h3) (And.intro (fun h3 => take_new2 HT1 HT2 h3) (fun h3 h4 => take_none HT1 HT2 h3 h4)))
 clear HT1 HT2 hmk
 clear hd hd5
 have c4 : W1.cell? ⟨g0, o0 + 4, none⟩ = some (.int .u8 (bs.getD 4 0 : Nat)) := by
  obtain ⟨ad, e, hb, hx⟩ := HR1.out.2 (by omega)
  injection e with e
  subst e
  have hl : 4 < bs.length := by rw [HBL.out]; omega
  have := hx 4 (.int .u8 (bs[4] : Nat)) (by unfold u8c; rw [List.getElem?_map, List.getElem?_eq_getElem hl]; rfl)
  rw [WideShapes.add_plain] at this
  rw [this, List.getD_eq_getElem?_getD, List.getElem?_eq_getElem hl]
  rfl
 generalize bs.getD 4 0 = vb at *
 go_upto_block 0 with fail
 clear HCV HSL c4
 go_cut [7, 8] from 27 to 41 (fun v7 v8 W' => MidD bs w W' w.heap.size v7 v8)
 case first =>
  have hwW : w.heap.size ≤ W1.heap.size := HF1.out.size
  by_cases hv1 : vb = 1
  ·subst hv1
   have HOL := Lib.hid (older_any (w := W1) (c := c) (HR1.out.more hwW) hc (by omega) (by omega) H8.out)
   have HMO := Lib.hid (fun e W' (h : OlderP bs W1 e W') => MidD.older HF1.out HZ1.out (H3.out.1 rfl) h)
   clear H3 HR1 HS1 HZ1 HF1
   go_wp2_with fail
   refine HOL.out.mono ?_
   rintro e W3 hcase
   obtain ⟨v7, v8, rfl, HM⟩ := HMO.out _ _ hcase
   have HM2 := Lib.hid HM
   clear HM HOL HMO hcase
   go_wp2_with fail
   go_meet
   exact HM2.out
  by_cases hv2 : vb = 2
  ·subst hv2
   have hsl : ∀ w : World, (Instr.slice 22 (.slice (some ⟨g0, o0, none⟩) n c) (some (.int .i64 5)) none none).run Tryz.prog w = .ok (.slice (tailA (some ⟨g0, o0, none⟩) c 5) (n - 5) (c - 5)) w := fun w => slice_rest w (some ⟨g0, o0, none⟩) n c 5 (by omega)
   have HOL := Lib.hid (newer_any (w := W1) (A := tailA (some ⟨g0, o0, none⟩) c 5) (n := n - 5) (c := c - 5) (bs := bs.drop 5) HS1.out ((reads_rest HR1.out hc (by omega)).more hwW) (by omega) (by omega) (fun x hx => H8.out x (List.mem_of_mem_drop hx)))
   have HMO := Lib.hid (fun e W' (h : NewerP (bs.drop 5) W1 e W') => MidD.newer H8.out HF1.out HZ1.out (H3.out.2.1 rfl) h)
   clear H3 HR1 HS1 HZ1 HF1
   go_wp2_with fail
   refine HOL.out.mono ?_
   rintro e W3 hcase
   obtain ⟨v7, v8, rfl, HM⟩ := HMO.out _ _ hcase
   have HM2 := Lib.hid HM
   clear HM HOL HMO hcase hsl
   go_wp2_with fail
   go_meet
   exact HM2.out
  have hb1 : ((vb : Int) == 1) = false := by simp; omega
  have hb2 : ((vb : Int) == 2) = false := by simp; omega
  have HM2 := Lib.hid (show MidD bs w W1 w.heap.size (.pointer none) (.int .i64 ((141 : Nat) : Int)) from MidD.none HF1.out HZ1.out (H3.out.2.2 hv1 hv2))
  clear H3 HR1 HS1 HZ1 HF1 hv1 hv2
  go_wp2_with fail
  go_meet
  exact HM2.out
 case rest =>
  clear HR1 HS1 HZ1 HF1 H3
  obtain ⟨hbc, hzc, ⟨E, hte, hE, rfl, rfl⟩ | ⟨r, xg, vo, vw, vr, htk, rfl, rfl, hbx, ho1, ho2, hlx⟩⟩ := hcut
  ·have HFc := Lib.hid hbc; have HZc := Lib.hid hzc; have HNM := Lib.hid hte; have HNE := Lib.hid hE
   have hne : ((E : Int) != 0) = true := by simp; omega
   have hnei : ¬ ((E : Int) = 0) := by omega
   clear hbc hzc hte hE
   have HTE := Lib.hid (takeR_errs (size := size) HNM.out)
   have z0 := HZc.out.frozen 0
   have z1 := HZc.out.frozen 1
   have z2 := HZc.out.frozen 2
   have z3 := HZc.out.frozen 3
   have d0 : wc.cell? ⟨w.heap.size, 0, none⟩ = some (.int .i64 0) := HZc.out.cell 0
   have d1 : wc.cell? ⟨w.heap.size, 1, none⟩ = some (.int .i64 0) := HZc.out.cell 1
   have d2 : wc.cell? ⟨w.heap.size, 2, none⟩ = some (.int .i64 0) := HZc.out.cell 2
   have d3 : wc.cell? ⟨w.heap.size, 3, none⟩ = some (.int .u32 0) := HZc.out.cell 3
   have HZ5 := Lib.hid (HZc.out.setAll4 (.int .i64 0) (.int .i64 0) (.int .i64 0) (.int .u32 0))
   have HFB := Lib.hid (below4 HFc.out (Nat.le_refl _) (.int .i64 0) (.int .i64 0) (.int .i64 0) (.int .u32 0))
   go_wp2_with fail
   generalize ((((wc.setCell ⟨w.heap.size, 0, none⟩ (.int .i64 0)).setCell ⟨w.heap.size, 1, none⟩ (.int .i64 0)).setCell ⟨w.heap.size, 2, none⟩ (.int .i64 0)).setCell ⟨w.heap.size, 3, none⟩ (.int .u32 0)) = WF at *
   clear z0 d0 z1 d1 z2 d2 z3 d3
   have f0 := HZ5.out.cell 0
   have f1 := HZ5.out.cell 1
   have f2 := HZ5.out.cell 2
   have f3 := HZ5.out.cell 3
   refine bodyPost_ret (v := .tuple #[.pointer none, .agg #[.int .i64 0, .int .i64 0, .int .i64 0, .int .u32 0], .int .i64 (E : Int)]) (by simp [results, Tryz.results10, go_sem, f0, f1, f2, f3]) rfl ?_
   exact ⟨HFB.out, .inl ⟨by rw [HTE.out]; first | decide | exact HNE.out, by rw [HTE.out]; rfl⟩⟩
  have HFc := Lib.hid hbc; have HZc := Lib.hid hzc; have HTK := Lib.hid htk; have HBX := Lib.hid hbx
  have F := take_fit htk H8.out
  have HFT := Lib.hid F
  obtain ⟨Aw, cw, rfl, hrw⟩ := own_sliceI ho1
  obtain ⟨Ar, cr, rfl, hrr⟩ := own_sliceI ho2
  have e1 : wc.cell? ⟨xg, 4, none⟩ = some (.slice Aw r.words.length cw) := hbx.cell 4
  have e2 : wc.cell? ⟨xg, 5, none⟩ = some (.slice Ar r.roots.length cr) := hbx.cell 5
  have e3 : wc.cell? ⟨xg, 3, none⟩ = some (.int .u32 (r.last : Nat)) := hbx.cell 3
  have hx6 : wc.cell? ⟨xg, 6, none⟩ = some (.bool r.wrong) := hbx.cell 6
  by_cases hsz : size < r.words.length
  ·have hd : decide ((size : Int) < (r.words.length : Int)) = true := decide_eq_true (by omega)
   clear hbc hzc htk hbx ho1 ho2 F hrw hrr
   have HTE := Lib.hid (take_small HTK.out hsz)
   have z0 := HZc.out.frozen 0
   have z1 := HZc.out.frozen 1
   have z2 := HZc.out.frozen 2
   have z3 := HZc.out.frozen 3
   have d0 : wc.cell? ⟨w.heap.size, 0, none⟩ = some (.int .i64 0) := HZc.out.cell 0
   have d1 : wc.cell? ⟨w.heap.size, 1, none⟩ = some (.int .i64 0) := HZc.out.cell 1
   have d2 : wc.cell? ⟨w.heap.size, 2, none⟩ = some (.int .i64 0) := HZc.out.cell 2
   have d3 : wc.cell? ⟨w.heap.size, 3, none⟩ = some (.int .u32 0) := HZc.out.cell 3
   have HZ5 := Lib.hid (HZc.out.setAll4 (.int .i64 0) (.int .i64 0) (.int .i64 0) (.int .u32 0))
   have HFB := Lib.hid (below4 HFc.out (Nat.le_refl _) (.int .i64 0) (.int .i64 0) (.int .i64 0) (.int .u32 0))
   clear e2 e3 hx6
   go_wp2_with fail
   generalize ((((wc.setCell ⟨w.heap.size, 0, none⟩ (.int .i64 0)).setCell ⟨w.heap.size, 1, none⟩ (.int .i64 0)).setCell ⟨w.heap.size, 2, none⟩ (.int .i64 0)).setCell ⟨w.heap.size, 3, none⟩ (.int .u32 0)) = WF at *
   clear z0 d0 z1 d1 z2 d2 z3 d3
   have f0 := HZ5.out.cell 0
   have f1 := HZ5.out.cell 1
   have f2 := HZ5.out.cell 2
   have f3 := HZ5.out.cell 3
   refine bodyPost_ret (v := .tuple #[.pointer none, .agg #[.int .i64 0, .int .i64 0, .int .i64 0, .int .u32 0], .int .i64 4]) (by simp [results, Tryz.results10, go_sem, f0, f1, f2, f3]) rfl ?_
   exact ⟨HFB.out, .inl ⟨by rw [HTE.out]; first | decide | exact HNE.out, by rw [HTE.out]; rfl⟩⟩
  have hd : decide ((size : Int) < (r.words.length : Int)) = false := decide_eq_false (by omega)
  have hrl : r.roots.length = 64 := F.roots
  have hwl : r.words.length ≤ 1048576 := by omega
  have HL := Lib.hid ((rLoad_any (w := wc.drew) size h64 hsize Aw r.words.length cw r.words (by omega) (hrw.below (below_drew (Below.refl _ _))) F.w32 Ar r.roots.length cr r.roots (by omega) (hrr.below (below_drew (Below.refl _ _))) F.r32 r.last F.last).mono fun e w2 h => h.two)
  have hlxc : xg < wc.heap.size := hbx.lt
  have KC := Lib.hid (show ∀ W', Below wc.heap.size wc W' → W'.cell? ⟨xg, 4, none⟩ = some (.slice Aw r.words.length cw) ∧ W'.cell? ⟨xg, 5, none⟩ = some (.slice Ar r.roots.length cr) ∧ W'.cell? ⟨xg, 3, none⟩ = some (.int .u32 (r.last : Nat)) from fun W' hb =>
   ⟨(hb.cell (World.block_lt_of_cell? _ _ e1)).trans e1, (hb.cell (World.block_lt_of_cell? _ _ e2)).trans e2, (hb.cell (World.block_lt_of_cell? _ _ e3)).trans e3⟩)
  have HSZ := Lib.hid hsz; have HRL := Lib.hid hrl
  clear hbc hzc htk hbx ho1 ho2 F hrw hrr hsz hrl
  go_upto_region 16 with fail
  clear hd e1 e2 e3
  have hb0 := Below.refl wc.heap.size wc
  go_region_held3 (fun W' => W'.cell? ⟨xg, 4, none⟩ = some (.slice Aw r.words.length cw) ∧ W'.cell? ⟨xg, 5, none⟩ = some (.slice Ar r.roots.length cr) ∧ W'.cell? ⟨xg, 3, none⟩ = some (.int .u32 (r.last : Nat)))
   (first | with_reducible exact KC.out _ hb0 | with_reducible exact KC.out _ (Below.drew hb0) | with_reducible exact KC.out _ hk)
   ((go_at_call 25; (with_reducible refine HL.out.mono ?_); rintro e w2 ⟨vq, E, rfl, hk0, hE, hq⟩; have hk := below_top (below_drew hb0) hk0; have HQ := Lib.hid hq; have HE := Lib.hid hE))
  have HX2 := Lib.hid (HBX.out.below hk HBX.out.lt)
  have HZ2 := Lib.hid (HZc.out.below hk HZc.out.lt)
  have HF2 := Lib.hid (below_top HFc.out hk)
  have hx6 : w2.cell? ⟨xg, 6, none⟩ = some (.bool r.wrong) := HX2.out.cell 6
  have HBD := Lib.hid (fun h => take_bad HTK.out HSZ.out h HRL.out)
  have HGT := Lib.hid hk
  clear hq hE hk0 hk KC HL HBX HZc HFc
  by_cases hE0 : E = 0
  rotate_left
  ·have hne : ((E : Int) != 0) = true := by simp; omega
   have hnei : ¬ ((E : Int) = 0) := by omega
   have HB5 := Lib.hid (HBD.out (.inr (by rw [HE.out]; exact hE0)))
   clear hx6 HBD HQ HE HGT hE0
   have HTE := Lib.hid (HB5.out)
   have z0 := HZ2.out.frozen 0
   have z1 := HZ2.out.frozen 1
   have z2 := HZ2.out.frozen 2
   have z3 := HZ2.out.frozen 3
   have d0 : w2.cell? ⟨w.heap.size, 0, none⟩ = some (.int .i64 0) := HZ2.out.cell 0
   have d1 : w2.cell? ⟨w.heap.size, 1, none⟩ = some (.int .i64 0) := HZ2.out.cell 1
   have d2 : w2.cell? ⟨w.heap.size, 2, none⟩ = some (.int .i64 0) := HZ2.out.cell 2
   have d3 : w2.cell? ⟨w.heap.size, 3, none⟩ = some (.int .u32 0) := HZ2.out.cell 3
   have HZ5 := Lib.hid (HZ2.out.setAll4 (.int .i64 0) (.int .i64 0) (.int .i64 0) (.int .u32 0))
   have HFB := Lib.hid (below4 HF2.out (Nat.le_refl _) (.int .i64 0) (.int .i64 0) (.int .i64 0) (.int .u32 0))
   clear HX2
   go_wp2_with fail
   generalize ((((w2.setCell ⟨w.heap.size, 0, none⟩ (.int .i64 0)).setCell ⟨w.heap.size, 1, none⟩ (.int .i64 0)).setCell ⟨w.heap.size, 2, none⟩ (.int .i64 0)).setCell ⟨w.heap.size, 3, none⟩ (.int .u32 0)) = WF at *
   clear z0 d0 z1 d1 z2 d2 z3 d3
   have f0 := HZ5.out.cell 0
   have f1 := HZ5.out.cell 1
   have f2 := HZ5.out.cell 2
   have f3 := HZ5.out.cell 3
   refine bodyPost_ret (v := .tuple #[.pointer none, .agg #[.int .i64 0, .int .i64 0, .int .i64 0, .int .u32 0], .int .i64 145]) (by simp [results, Tryz.results10, go_sem, f0, f1, f2, f3]) rfl ?_
   exact ⟨HFB.out, .inl ⟨by rw [HTE.out]; first | decide | exact HNE.out, by rw [HTE.out]; rfl⟩⟩
  subst hE0
  cases hwr : r.wrong with
  | true =>
    rw [hwr] at hx6
    have HB5 := Lib.hid (HBD.out (.inl hwr))
    clear HBD HQ HE HGT hwr
    have HTE := Lib.hid (HB5.out)
    have z0 := HZ2.out.frozen 0
    have z1 := HZ2.out.frozen 1
    have z2 := HZ2.out.frozen 2
    have z3 := HZ2.out.frozen 3
    have d0 : w2.cell? ⟨w.heap.size, 0, none⟩ = some (.int .i64 0) := HZ2.out.cell 0
    have d1 : w2.cell? ⟨w.heap.size, 1, none⟩ = some (.int .i64 0) := HZ2.out.cell 1
    have d2 : w2.cell? ⟨w.heap.size, 2, none⟩ = some (.int .i64 0) := HZ2.out.cell 2
    have d3 : w2.cell? ⟨w.heap.size, 3, none⟩ = some (.int .u32 0) := HZ2.out.cell 3
    have HZ5 := Lib.hid (HZ2.out.setAll4 (.int .i64 0) (.int .i64 0) (.int .i64 0) (.int .u32 0))
    have HFB := Lib.hid (below4 HF2.out (Nat.le_refl _) (.int .i64 0) (.int .i64 0) (.int .i64 0) (.int .u32 0))
    go_wp2_with fail
    generalize ((((w2.setCell ⟨w.heap.size, 0, none⟩ (.int .i64 0)).setCell ⟨w.heap.size, 1, none⟩ (.int .i64 0)).setCell ⟨w.heap.size, 2, none⟩ (.int .i64 0)).setCell ⟨w.heap.size, 3, none⟩ (.int .u32 0)) = WF at *
    clear z0 d0 z1 d1 z2 d2 z3 d3
    have f0 := HZ5.out.cell 0
    have f1 := HZ5.out.cell 1
    have f2 := HZ5.out.cell 2
    have f3 := HZ5.out.cell 3
    refine bodyPost_ret (v := .tuple #[.pointer none, .agg #[.int .i64 0, .int .i64 0, .int .i64 0, .int .u32 0], .int .i64 145]) (by simp [results, Tryz.results10, go_sem, f0, f1, f2, f3]) rfl ?_
    exact ⟨HFB.out, .inl ⟨by rw [HTE.out]; first | decide | exact HNE.out, by rw [HTE.out]; rfl⟩⟩
  | false =>
    rw [hwr] at hx6
    obtain ⟨t1, t2, l, G⟩ := take_fine HTK.out H8.out h64 hsize HSZ.out hwr HE.out
    obtain ⟨q, rfl, hR, hnew⟩ := HQ.out rfl
    rw [← t2] at hR
    have hst : (takeH bs size).starts.length ≤ 9000000 := by have h1 := G.fit.marks; have h2 := G.fit.room; have h3 := G.fit.hi; omega
    have HCN := Lib.hid (rcountB_any hR hst)
    have hcl : cntB (takeH bs size).starts = l.length := cntB_laid G.laid
    rw [hcl] at HCN
    have HR := Lib.hid hR; have HG := Lib.hid G; have HT1 := Lib.hid t1
    have HNW := Lib.hid (show ∀ k, q.has k → wc.heap.size ≤ k from hnew)
    have e1 : w2.cell? ⟨xg, 1, none⟩ = some vo := HX2.out.cell 1
    have y1 := HX2.out.frozen 1
    clear HQ HE HBD hwr G hR hnew t1 t2 hst hcl
    unfold ptr
    unfold ptr at HCN
    go_wp2_with fail
    refine HCN.out.mono ?_
    rintro e w3 ⟨rfl, rfl⟩
    have HX3 := Lib.hid (HX2.out.set_ 1 (.int .i64 (l.length : Nat)))
    have HZ3 := Lib.hid (HZ2.out.same (Below.heap_setCell w2 ⟨xg, 1, none⟩ (.int .i64 (l.length : Nat)) w.heap.size (by show w.heap.size ≠ xg; omega)))
    have HF3 := Lib.hid (HF2.out.setCell (p := ⟨xg, 1, none⟩) (by show w.heap.size ≤ xg; omega) (.int .i64 (l.length : Nat)))
    have HR3 := Lib.hid (HR.out.same fun k hk => Below.heap_setCell w2 ⟨xg, 1, none⟩ (.int .i64 (l.length : Nat)) k (by show k ≠ xg; have := HNW.out k hk; omega))
    have hwx : w.heap.size < wc.heap.size := by omega
    go_upto_region 20 with fail
    clear HX2 HZ2 HF2 HR HCN y1 e1 hx6
    generalize w2.setCell ⟨xg, 1, none⟩ (.int .i64 (l.length : Int)) = W3 at *
    have x0 : W3.cell? ⟨xg, 0, none⟩ = some (.int .i64 r.ver) := HX3.out.cell 0
    have x1 : W3.cell? ⟨xg, 1, none⟩ = some (.int .i64 l.length) := HX3.out.cell 1
    have x2 : W3.cell? ⟨xg, 2, none⟩ = some (.int .i64 r.words.length) := HX3.out.cell 2
    have x3 : W3.cell? ⟨xg, 3, none⟩ = some (.int .u32 r.last) := HX3.out.cell 3
    have z0 := HZ3.out.frozen 0
    have z1 := HZ3.out.frozen 1
    have z2 := HZ3.out.frozen 2
    have z3 := HZ3.out.frozen 3
    have d0 : W3.cell? ⟨w.heap.size, 0, none⟩ = some (.int .i64 0) := HZ3.out.cell 0
    have d1 : W3.cell? ⟨w.heap.size, 1, none⟩ = some (.int .i64 0) := HZ3.out.cell 1
    have d2 : W3.cell? ⟨w.heap.size, 2, none⟩ = some (.int .i64 0) := HZ3.out.cell 2
    have d3 : W3.cell? ⟨w.heap.size, 3, none⟩ = some (.int .u32 0) := HZ3.out.cell 3
    have HZ5 := Lib.hid (HZ3.out.setAll4 (.int .i64 r.ver) (.int .i64 l.length) (.int .i64 r.words.length) (.int .u32 r.last))
    have HFB := Lib.hid (below4 HF3.out (Nat.le_refl _) (.int .i64 r.ver) (.int .i64 l.length) (.int .i64 r.words.length) (.int .u32 r.last))
    have HRB := Lib.hid (HR3.out.same fun k hk => show ((((W3.setCell ⟨w.heap.size, 0, none⟩ (.int .i64 r.ver)).setCell ⟨w.heap.size, 1, none⟩ (.int .i64 l.length)).setCell ⟨w.heap.size, 2, none⟩ (.int .i64 r.words.length)).setCell ⟨w.heap.size, 3, none⟩ (.int .u32 r.last)).heap[k]? = W3.heap[k]? from by
     have hkn : k ≠ w.heap.size := by have := HNW.out k hk; omega
     rw [Below.heap_setCell _ _ _ k hkn, Below.heap_setCell _ _ _ k hkn, Below.heap_setCell _ _ _ k hkn, Below.heap_setCell _ _ _ k hkn])
    clear HX3 HZ3 HF3 HR3
    go_region
    all_goals go_wp2_with fail
    all_goals generalize hWF : ((((W3.setCell ⟨w.heap.size, 0, none⟩ (.int .i64 r.ver)).setCell ⟨w.heap.size, 1, none⟩ (.int .i64 l.length)).setCell ⟨w.heap.size, 2, none⟩ (.int .i64 r.words.length)).setCell ⟨w.heap.size, 3, none⟩ (.int .u32 r.last)) = WF at *
    all_goals clear hWF z0 d0 x0 z1 d1 x1 z2 d2 x2 z3 d3 x3
    all_goals have f0 : WF.drew.cell? ⟨w.heap.size, 0, none⟩ = some (.int .i64 r.ver) := HZ5.out.cell 0
    all_goals have f1 : WF.drew.cell? ⟨w.heap.size, 1, none⟩ = some (.int .i64 l.length) := HZ5.out.cell 1
    all_goals have f2 : WF.drew.cell? ⟨w.heap.size, 2, none⟩ = some (.int .i64 r.words.length) := HZ5.out.cell 2
    all_goals have f3 : WF.drew.cell? ⟨w.heap.size, 3, none⟩ = some (.int .u32 r.last) := HZ5.out.cell 3
    all_goals refine bodyPost_ret (v := .tuple #[.pointer (some ⟨q.g, 0, none⟩), .agg #[.int .i64 r.ver, .int .i64 l.length, .int .i64 r.words.length, .int .u32 r.last], .int .i64 0]) (by simp [results, Tryz.results10, go_sem, f0, f1, f2, f3]) rfl ?_
    all_goals exact ⟨below_drew HFB.out, .inr ⟨HT1.out, r, l, q, HTK.out, HG.out, rfl, HRB.out.below (below_drew (Below.refl _ _)), fun k hk => Nat.le_trans (Nat.le_of_lt hwx) (HNW.out k hk)⟩⟩
end
section
open Go.RowKit
attribute [local go_sem] Oper.semAt_some
def DLoadP (b : List Nat) (size : Int) (w : World) (e : Ending) (w' : World) : Prop :=
 Below w.heap.size w w' ∧ ((ildE b size ≠ 0 ∧ e = .returned (.tuple #[.pointer none, .int .i64 (ildE b size : Nat)])) ∨
  (ildE b size = 0 ∧ ∃ q : HP, e = .returned (.tuple #[ptr q.g, .int .i64 0]) ∧ RAt w' q (takeH b size.toNat)))
set_option maxRecDepth 100000 in
set_option maxHeartbeats 4000000 in
theorem dload_any {w : World} {n c : Nat} {A : Option Addr} {bs : List Nat} (size : Int) (hs : Spares w) (hr : Reads w w.heap.size 1 A n (u8c bs)) (hA : 0 < n → ∃ g0 o0, A = some ⟨g0, o0, none⟩) (hc : n ≤ c) (hn : n ≤ 9223372036854775807) (h8 : ∀ x ∈ bs, x < 256) :
 Calls Tryz.prog 5 #[.slice A n c, .int .i64 size] w (DLoadP bs size w) := by
 by_cases hsz : size < 64 ∨ 1048576 < size
 ·have HF := Lib.hid (show ildE bs size = 1 from if_pos hsz)
  by_cases h0 : size < 64
  ·have hd1 : decide (size < 64) = true := by simpa using h0
   clear hsz h0 hs hr hA hc hn h8
   go_enter Tryz.func5, Tryz.ntmps5
   go_wp2_with fail
   go_ret2
   exact ⟨Below.refl _ _, .inl ⟨by rw [HF.out]; decide, by rw [HF.out]; rfl⟩⟩
  ·have hd1 : decide (size < 64) = false := by simpa using h0
   have hd2 : 1048576 < size := by omega
   have hd3 : decide (size > 1048576) = true := by simpa using hd2
   have hd4 : decide (1048576 < size) = true := by simpa using hd2
   clear hsz h0 hs hr hA hc hn h8
   go_enter Tryz.func5, Tryz.ntmps5
   go_wp2_with fail
   go_ret2
   exact ⟨Below.refl _ _, .inl ⟨by rw [HF.out]; decide, by rw [HF.out]; rfl⟩⟩
 ·obtain ⟨s, hs'⟩ := Int.eq_ofNat_of_zero_le (show 0 ≤ size by omega)
  subst hs'
  have h1 : 64 ≤ s := by omega
  have h2 : s ≤ 1048576 := by omega
  have HF := Lib.hid (show ildE bs (s : Int) = takeE bs s from (if_neg hsz).trans (by rw [Int.toNat_natCast]))
  have HT := Lib.hid (takeD_any hs hr hA hc hn h8 h1 h2)
  have hd1 : decide ((s : Int) < 64) = false := by simp; omega
  have hd2 : decide ((s : Int) > 1048576) = false := by simp; omega
  have hd3 : decide (1048576 < (s : Int)) = false := by simp; omega
  clear hsz hs hr hA hc hn h8 h1 h2
  unfold DLoadP
  rw [Int.toNat_natCast, HF.out]
  go_enter Tryz.func5, Tryz.ntmps5
  go_wp2_with fail
  refine HT.out.mono ?_
  rintro e w1 ⟨hb1, ⟨h3, rfl⟩ | ⟨h3, r, l, q, hr, hG, rfl, hat, hnew⟩⟩
  ·have HB := Lib.hid (hb1.alloc hb1.size (.cells #[.int .i64 0, .int .i64 0, .int .i64 0, .int .u32 0] 34))
   have H3 := Lib.hid h3
   clear hb1 h3 HT HF
   unfold snapV
   go_wp2_with fail
   go_ret2
   exact ⟨HB.out, .inl ⟨H3.out, rfl⟩⟩
  ·have HB1 := Lib.hid hb1
   have HBX := Lib.hid ((Below.refl w1.heap.size w1).alloc (Nat.le_refl _) (.cells #[.int .i64 r.ver, .int .i64 l.length, .int .i64 r.words.length, .int .u32 r.last] 34))
   have HAT := Lib.hid hat
   have H3 := Lib.hid h3
   clear hb1 hG hat hnew h3 HF HT
   unfold ptr snapV
   go_wp2_with fail
   go_ret2
   exact ⟨below_top HB1.out HBX.out, .inr ⟨H3.out, q, rfl, HAT.out.below HBX.out⟩⟩
end
section
open Go.RowKit
theorem Row.shortD {w : World} {g c : Nat} {e : TypeId} {xs ys : List Value} (h : Row w g e c (xs ++ ys)) : Row w g e c xs := by
 obtain ⟨cur, hb, hl, hm, hc, hx⟩ := h
 refine ⟨cur, hb, by rw [List.length_append] at hl; omega, hm, hc, ?_⟩
 have := congrArg (List.take xs.length) hx
 rw [List.take_take, List.length_append, Nat.min_eq_left (by omega), List.take_left] at this
 exact this
theorem rdSec_small {t E : Nat} {b : List Nat} (h : rdSec t b = .error E) : E < 1000 := by
 unfold rdSec at h
 repeat' (split at h)
 all_goals first
  | (cases h; done)
  | (cases h; decide)
theorem rdSecs_small : ∀ {ts b : List Nat} {E : Nat}, rdSecs ts b = .error E → E < 1000
 | [], b, E, h => by cases h
 | t :: ts, b, E, h => by
   unfold rdSecs at h
   split at h
   ·rename_i e he
    cases h
    exact rdSec_small he
   ·split at h
    ·rename_i he
     cases h
     exact rdSecs_small he
    ·cases h
theorem takeR_small {b : List Nat} {E : Nat} (h : takeR b = .error E) : E < 1000 := by
 unfold takeR at h
 split at h
 ·cases h; decide
 ·split at h
  ·cases h; decide
  ·split at h
   ·unfold oldM at h
    split at h
    ·cases h; decide
    ·split at h
     ·cases h; decide
     ·cases h
   ·split at h
    ·split at h
     ·rename_i e he
      cases h
      unfold newM at he
      split at he
      ·rename_i e2 he2
       cases he
       exact rdSecs_small he2
      ·split at he
       ·cases he; decide
       ·split at he
        ·cases he; decide
        ·cases he
     ·cases h
    ·cases h; decide
open Classical in
theorem takeE_small (b : List Nat) (size : Nat) : takeE b size < 1000 := by
 unfold takeE
 split
 ·rename_i E hE
  exact takeR_small hE
 ·split
  ·decide
  ·split <;> decide
theorem ildE_small (b : List Nat) (size : Int) : ildE b size < 1000 := by
 unfold ildE
 split
 ·decide
 ·exact takeE_small _ _
theorem reads_plain {w : World} {B n : Nat} {A : Option Addr} {xs : List Value} (h : Reads w B 1 A n xs) (h0 : 0 < n) : ∃ g0 o0, A = some ⟨g0, o0, none⟩ := by
 obtain ⟨ad, rfl, hb, hx⟩ := h.2 h0
 have hl : 0 < xs.length := by have := h.1; omega
 have hc := hx 0 xs[0] (by rw [List.getElem?_eq_getElem hl])
 obtain ⟨b, o, s⟩ := ad
 have hs : s = none := by simpa [Addr.add] using World.cell?_spot hc
 exact ⟨b, o, by rw [hs]⟩
theorem good_same {h : HM} {l l' : List Ob} (G : h.Good l) (G' : h.Good l') : l = l' := by
 have e1 := (HM.Good.ofWords G).2
 have e2 := (HM.Good.ofWords G').2
 rw [e1] at e2
 injection e2
end
end Go.Proofs.YthadjmhipckelaaGreatDoor
