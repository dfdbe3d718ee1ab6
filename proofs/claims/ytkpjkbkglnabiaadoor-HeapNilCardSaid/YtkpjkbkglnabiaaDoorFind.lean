/- All and Find of the program's heap. -/
import Derived.Test.YtkpjkbkglnabiaaDoorAll
set_option linter.unusedVariables false
namespace Go.Proofs.YtkpjkbkglnabiaaDoor
open Go.RowKit
attribute [local go_sem] Oper.semAt_some

theorem all_any (g : Nat) (w : World) : Calls Tryd.prog 31 #[ptr g] w fun e w' => e = .returned (.func (.func 58) #[] #[.pointer (some ⟨w.heap.size, 0, none⟩)]) ∧ w' = w.alloc (.cells #[ptr g] 25) := by
  unfold ptr
  go_enter Tryd.func31, Tryd.ntmps31
  go_wp2_with fail
  go_ret
  exact ⟨rfl, rfl⟩

/-- The first object with a serial; 0: there is none. -/
def findN (l : List Ob) (s : Nat) : Nat := oopI l (l.findIdx (fun b => b.x.ser == s))
theorem find_done {l : List Ob} {s : Nat} (h : ∀ y : Fin l.length, (l[y.1]'y.2).x.ser ≠ s) : findN l s = 0 := by
  unfold findN oopI
  have : l.findIdx (fun b => b.x.ser == s) = l.length := by
    rw [List.findIdx_eq_length]
    intro b hb
    obtain ⟨i, hi, rfl⟩ := List.getElem_of_mem hb
    simpa using h ⟨i, hi⟩
  rw [this, if_neg (by omega)]
theorem find_stop {l : List Ob} {s : Nat} {q : List (Fin l.length)} {y : Fin l.length} (hp : q ++ [y] <+: List.finRange l.length) (hq : ∀ z ∈ q, (l[z.1]'z.2).x.ser ≠ s) (hy : (l[y.1]'y.2).x.ser = s) : findN l s = 2 * posOf (l.take y.1) := by
  obtain ⟨r, hr⟩ := hp
  have hlen : q.length < l.length := by have := congrArg List.length hr; simp at this; omega
  have hyq : y = ⟨q.length, hlen⟩ := by
    have h1 : (q ++ [y] ++ r)[q.length]? = some y := by simp
    rw [hr, List.getElem?_eq_getElem (by simpa using hlen)] at h1
    simp at h1
    exact h1.symm
  have hz : ∀ j (hj : j < q.length), (l[j]'(by omega)).x.ser ≠ s := by
    intro j hj
    have h1 : (q ++ [y] ++ r)[j]? = some q[j] := by simp [List.getElem?_append, hj]
    rw [hr, List.getElem?_eq_getElem (by simp; omega)] at h1
    simp at h1
    have := hq q[j] (List.getElem_mem hj)
    rw [← h1] at this
    exact this
  subst hyq
  unfold findN oopI
  have : l.findIdx (fun b => b.x.ser == s) = q.length := by
    rw [List.findIdx_eq hlen]
    exact ⟨by simpa using hy, fun j hj => by simpa using hz j hj⟩
  rw [this, if_pos hlen]

set_option maxRecDepth 100000 in
set_option maxHeartbeats 4000000 in
theorem find_any {w : World} {p : HP} {h : HM} {l : List Ob} (H : HAt w p h) (G : h.Good l) (hs : Spares w) (s : Nat) (hs32 : s < 4294967296) :
    Calls Tryd.prog 32 #[ptr p.g, .int .u32 s] w (Told (.int .u32 (findN l s : Nat)) w) := by
  have HMD := Lib.hid (fun w' (H : HAt w' p h) => made_any H (by have := G.fit.lo; omega) G.fit.hi)
  refine (callsIn_wide (n := 6)).1 ?_
  refine callsIn_of_wp_marks Tryd.func32 rfl trivial ?_ rfl
  simp only [Tryd.ntmps32, List.size_toArray, List.length_cons, List.length_nil, Nat.reduceAdd, Nat.reduceSub, Array.replicate_succ, Array.replicate_zero, List.push_toArray, List.append_toArray, List.nil_append, List.cons_append]
  unfold ptr at HMD ⊢
  gi_wp2_with fail
  refine ⟨trivial, (callsIn_wide.2 (HMD.out _ (H.below (((Below.refl _ w).alloc (Nat.le_refl _) _).alloc (by simp) _)))).mono ?_⟩
  rintro e W2 ⟨rfl, rfl⟩
  gi_wp2_with fail
  refine ⟨trivial, (callsIn_wide.2 (all_any p.g _)).mono ?_⟩
  rintro e W2 ⟨rfl, rfl⟩
  have bS := ((Boxed.new w 30 (.int .u32 (s : Int))).alloc (.cells #[.int .u32 0] 31)).alloc (.cells #[ptr p.g] 25)
  have bR := (Boxed.new (w.alloc (.cells #[.int .u32 (s : Int)] 30)) 31 (.int .u32 0)).alloc (.cells #[ptr p.g] 25)
  have bH := Boxed.new ((w.alloc (.cells #[.int .u32 (s : Int)] 30)).alloc (.cells #[.int .u32 0] 31)) 25 (ptr p.g)
  simp only [World.size_alloc] at bR bH
  have hB0 : Below w.heap.size w (((w.alloc (.cells #[.int .u32 (s : Int)] 30)).alloc (.cells #[.int .u32 0] 31)).alloc (.cells #[ptr p.g] 25)) := (((Below.refl _ w).alloc (Nat.le_refl _) _).alloc (by simp) _).alloc (by simp; omega) _
  have hsz : (((w.alloc (.cells #[.int .u32 (s : Int)] 30)).alloc (.cells #[.int .u32 0] 31)).alloc (.cells #[ptr p.g] 25)).heap.size = w.heap.size + 3 := by simp
  obtain ⟨W0, hW0⟩ : ∃ W0, ((w.alloc (.cells #[.int .u32 (s : Int)] 30)).alloc (.cells #[.int .u32 0] 31)).alloc (.cells #[ptr p.g] 25) = W0 := ⟨_, rfl⟩
  rw [hW0] at bS bR bH hB0 hsz
  gi_wp2_with fail
  clear hW0
  have HI := Lib.hid (show HAt W0 p h ∧ Spares W0 from ⟨H.below hB0, hs.below hB0⟩)
  have hlt := World.block_lt_of_cell? _ _ (hs 0 (by omega))
  simp only at hlt
  refine wpIn_rangeFunc_ownH (F := Fence.wide) rfl (by omega) (gf := 58) (lb := #[.pointer (some ⟨w.heap.size + 1 + 1, 0, none⟩)]) rfl trivial (enters_of Tryd.func58 (by kernel_rfl) rfl)
    (all_stops HI.out.1 G HI.out.2 5 (w.heap.size + 1 + 1) w.heap.size bH.cell hlt) KpB.trans (fun W l o o' _ h1 h2 _ => KpB.book W l o o' h1 h2) (Below.refl _ _) (fun _ => rfl)
    (fun pre W => (Boxed W w.heap.size 30 (.int .u32 (s : Int)) ∧ Boxed W (w.heap.size + 1) 31 (.int .u32 0)) ∧ (∀ z ∈ pre, (l[z.1]'z.2).x.ser ≠ s) ∧ Below w.heap.size w W)
    (fun c pre W => c = .ret ∧ (∃ q y, pre = q ++ [y] ∧ (∀ z ∈ q, (l[z.1]'z.2).x.ser ≠ s) ∧ (l[y.1]'y.2).x.ser = s ∧ Boxed W (w.heap.size + 1) 31 (.int .u32 ((2 * posOf (l.take y.1) : Nat) : Int))) ∧ Below w.heap.size w W)
    (OwnFrom.and (OwnFrom.and (Own.from (boxed_own _ _ _) _) (Own.from (boxed_own _ _ _) _)) (OwnFrom.and (ownFrom_pure _ _) (ownFrom_below (Nat.le_refl _) (by omega))))
    (fun c => OwnFrom.and (ownFrom_pure _ _) (OwnFrom.and (fun pre A B row hs hg hr => by
      obtain ⟨q, y, e1, e2, e3, hb⟩ := hs
      exact ⟨q, y, e1, e2, e3, boxed_own _ _ (fun (_ : Unit) => Value.int .u32 ((2 * posOf (l.take y.1) : Nat) : Int)) () A B row hb hg (fun r e => (hr r e).2)⟩) (ownFrom_below (Nat.le_refl _) (by omega))))
    ⟨⟨bS, bR⟩, (fun z hz => by cases hz), hB0⟩
    (fun x a' W => ∃ Bx, w.heap.size + 1 < Bx ∧ Blk W Bx 52 (l[x.1]'x.2).x.cells ∧ a' = { tmps := #[.pointer (some ⟨p.g, 0, none⟩), .int .u32 (s : Int), undef, .pointer (some ⟨w.heap.size, 0, none⟩), .pointer (some ⟨w.heap.size + 1, 0, none⟩), .int .u32 ((2 * posOf (l.take x.1) : Nat) : Int), .pointer (some ⟨Bx, 0, none⟩), .pointer (some ⟨p.g, 0, none⟩), .bool true, .bool false, .pointer (some ⟨p.g, 0, none⟩), .func (.func 58) #[] #[.pointer (some ⟨w.heap.size + 1 + 1, 0, none⟩)], .int .u32 ((2 * posOf (l.take x.1) : Nat) : Int), (l[x.1]'x.2).x.val, undef, undef, undef, undef, undef], defers := [] })
    (fun x a' _ X Y row hs hg hr => by
      obtain ⟨Bx, h1, h2, h3⟩ := hs
      refine ⟨Bx, h1, h2.same (hg.block Bx h2.lt (fun e => ?_)), h3⟩
      obtain ⟨_, o, ho, hc⟩ := hr Bx e.symm
      unfold Blk at h2
      rw [h2] at ho
      injection ho with ho
      subst ho
      simp [Obj.isCells] at hc)
    ?assign ?body ?done ?stop
  case assign =>
    rintro lp pre x W K ⟨⟨bS1, bR1⟩, hz, hB1⟩ hK
    rw [show allV l x = #[.int .u32 ((2 * posOf (l.take x.1) : Nat) : Int), .agg #[.int .i64 ((l[x.1]'x.2).x.size : Nat), .int .i64 ((l[x.1]'x.2).x.fmt : Nat), .int .i64 ((l[x.1]'x.2).x.spare : Nat), .int .u32 ((l[x.1]'x.2).x.cls : Nat), .int .u32 ((l[x.1]'x.2).x.ser : Nat)]] from rfl]
    have HZ := Lib.hid hz
    have HK := Lib.hid hK
    clear hK hz
    unfold Hd.val Hd.cells at HK
    have hb1 := bS1.lt
    generalize (l[x.1]'x.2).x = X at *
    generalize 2 * posOf (l.take x.1) = o at *
    gi_wp2_with fail
    exact HK.out _ _ ((KeepsOthers.alloc _ _).from _) ((KpB.refl _ _ _).alloc _) ⟨⟨bS1.alloc _, bR1.alloc _⟩, HZ.out, hB1.alloc hB1.size _⟩ ⟨W.heap.size, bR1.lt, Blk.new W _ _, rfl⟩
  case body =>
    rintro lp pre x a' W hl ⟨r, hr⟩ ⟨⟨bS1, bR1⟩, hz, hB1⟩ ⟨Bx, hBx, bX, rfl⟩ hltx
    have HZ := Lib.hid hz
    have cS := bS1.cell
    have cR := bR1.cell
    have fR := bR1.frozen
    unfold Hd.cells at bX
    unfold Hd.val
    obtain ⟨d0, d1, d2, d3, d4⟩ := bX.cells5
    clear hz
    by_cases hser : (l[x.1]'x.2).x.ser = s
    · have hq : (((l[x.1]'x.2).x.ser : Int) == (s : Int)) = true := by simp; omega
      have HX := Lib.hid hser
      clear hser
      have HO := Lib.hid (show ∃ o, 2 * posOf (l.take x.1) = o from ⟨_, rfl⟩)
      obtain ⟨o, ho⟩ := HO.out
      rw [ho]
      have HOE := Lib.hid ho
      clear ho HO
      generalize hX : (l[x.1]'x.2).x = X at *
      have HXE := Lib.hid hX
      clear hX
      gi_wp2_with fail
      refine ⟨(KeepsOthers.setCell _ _ _).from _, rfl, ⟨pre, x, rfl, HZ.out, by rw [HXE.out]; exact HX.out, ?_⟩, hB1.setCell (p := ⟨w.heap.size + 1, 0, none⟩) (by simp) _⟩
      rw [HOE.out]
      exact bR1.set _
    · have hq : (((l[x.1]'x.2).x.ser : Int) == (s : Int)) = false := by simp; omega
      have HX := Lib.hid hser
      clear hser
      generalize hX : (l[x.1]'x.2).x = X at *
      have HXE := Lib.hid hX
      clear hX
      generalize 2 * posOf (l.take x.1) = o at *
      gi_wp2_with fail
      refine ⟨(KeepsOthers.refl _).from _, KpB.refl _ _ _, ⟨bS1, bR1⟩, (fun z hz => ?_), hB1⟩
      rcases List.mem_append.1 hz with h1 | h1
      · exact HZ.out z h1
      · obtain rfl : z = x := by simpa using h1
        rw [HXE.out]; exact HX.out
  case done =>
    rintro D xs W hD rfl ⟨⟨bS1, bR1⟩, hz, hB1⟩ hK
    have hf := Lib.hid (find_done (fun y => hz y (List.mem_finRange y)))
    have cR := bR1.cell
    have fR := bR1.frozen
    clear hz
    gi_wp2_with fail
    have hK2 := (KeepsOthers.setCell W ⟨w.heap.size + 1, 0, none⟩ (.int .u32 0)).same D _ hK rfl
    have bR2 := bR1.set (.int .u32 0)
    refine ⟨by simp, .inl ⟨_, _, rfl, run_takeDeferred hK2, ?_⟩⟩
    have hc := cell_kept bR2.cell (grownBy_putObj' _ D (.deferred none)) (fun r e => by cases e; exact ⟨_, hK2, rfl⟩)
    refine ⟨.int .u32 0, by simp [results, Tryd.results32, go_sem, hc], by rw [hf.out]; rfl, ?_⟩
    exact (hB1.setCell (p := ⟨w.heap.size + 1, 0, none⟩) (by simp) _).trans (belowK_b (w := w) (Nat.le_refl _) _ D _ _ (by omega) hK2 rfl rfl)
  case stop =>
    rintro D c pre W hD hp ⟨rfl, ⟨q, y, rfl, hq, hy, bR1⟩, hB1⟩ hK
    have hf := Lib.hid (find_stop hp hq hy)
    clear hq hy hp
    gi_wp2_with fail
    refine ⟨by simp, .inl ⟨_, _, rfl, run_takeDeferred hK, ?_⟩⟩
    have hc := cell_kept bR1.cell (grownBy_putObj' _ D (.deferred none)) (fun r e => by cases e; exact ⟨_, hK, rfl⟩)
    refine ⟨.int .u32 ((2 * posOf (l.take y.1) : Nat) : Int), by simp [results, Tryd.results32, go_sem, hc], by rw [hf.out], ?_⟩
    exact hB1.trans (belowK_b (w := w) (Nat.le_refl _) _ D _ _ (by omega) hK rfl rfl)
end Go.Proofs.YtkpjkbkglnabiaaDoor
