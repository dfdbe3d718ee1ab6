/- do: a deed with both heaps; the two answer the same. -/
import Derived.Test.YtkpjkbkglnabiaaGreatDoorJRefJ
import Derived.Test.YtkpjkbkglnabiaaGreatDoorJSnd
import Derived.Deep.RegionHeld3
set_option linter.unusedVariables false
set_option linter.unusedSectionVars false
namespace Go.Proofs.YtkpjkbkglnabiaaGreatDoor
open Go.RowKit
attribute [local go_sem] Oper.semAt_some

theorem Blk.cells8 {w : World} {g : Nat} {t : TypeId} {a0 a1 a2 a3 a4 a5 a6 a7 : Value} (h : Blk w g t #[a0, a1, a2, a3, a4, a5, a6, a7]) :
    w.cell? ⟨g, 0, none⟩ = some a0 ∧ w.cell? ⟨g, 1, none⟩ = some a1 ∧ w.cell? ⟨g, 2, none⟩ = some a2 ∧ w.cell? ⟨g, 3, none⟩ = some a3 ∧ w.cell? ⟨g, 4, none⟩ = some a4 ∧ w.cell? ⟨g, 5, none⟩ = some a5 ∧ w.cell? ⟨g, 6, none⟩ = some a6 ∧ w.cell? ⟨g, 7, none⟩ = some a7 :=
  ⟨h.cell 0, h.cell 1, h.cell 2, h.cell 3, h.cell 4, h.cell 5, h.cell 6, h.cell 7⟩
/-- A block that is none of the heaps' stays. -/
theorem Blk.step2 {w w' : World} {p q p' q' : HP} {g : Nat} {t : TypeId} {cs : Array Value} (B : Blk w g t cs) (s : Step2 p q p' q' w w') (hp : ¬ p.has g) (hq : ¬ q.has g) : Blk w' g t cs ∧ ¬ p'.has g ∧ ¬ q'.has g :=
  ⟨B.same (s.block g B.lt hp hq), fun h => (s.prows g h).elim hp (fun h => by have := B.lt; omega), fun h => (s.qrows g h).elim hq (fun h => by have := B.lt; omega)⟩

section
variable {W w : World} {p q : HP} {g k : Nat} {h : HM} (T : Two W w p g q k h h) (dk : Int) (o v : Nat) (f i m : Int) (x : Nat) (b : List Nat) (fo : o < 4294967296) (fv : v < 4294967296) (fx : x < 4294967296) (fb : ∀ y ∈ b, y < 256)
  (A : Option Addr) (n c : Nat) (hn : n ≤ 9223372036854775807) (hr : Reads w w.heap.size 1 A n (u8c b)) (hi63 : i ≤ 9223372036854775807)
include T fo fv fx fb hn hr hi63

set_option maxRecDepth 100000 in
set_option maxHeartbeats 4000000 in
theorem do0_any (h0 : dk.tmod 14 = 0) : Calls Tryz.prog 8 #[.pointer (some ⟨g, 0, none⟩), .pointer (some ⟨k, 0, none⟩), .agg #[.int .i64 dk, .int .u32 (o : Nat), .int .u32 (v : Nat), .int .i64 f, .int .i64 i, .int .i64 m, .int .u32 (x : Nat), .slice A n c]] w (Done2 W p g q k (h.AllocH v f m) (h.AllocH v f m) (.bool true) w) := by
  have hf := T.live.fit
  have hh := T.live.heads
  have hb0 := (Below.refl w.heap.size w).alloc (Nat.le_refl _) (.cells #[.int .i64 dk, .int .u32 (o : Nat), .int .u32 (v : Nat), .int .i64 f, .int .i64 i, .int .i64 m, .int .u32 (x : Nat), .slice A n c] 33)
  have T0 := Lib.hid (T.after hb0)
  have BX := Lib.hid (Blk.new w 33 #[.int .i64 dk, .int .u32 (o : Nat), .int .u32 (v : Nat), .int .i64 f, .int .i64 i, .int .i64 m, .int .u32 (x : Nat), .slice A n c])
  have HBP := Lib.hid (show ¬ p.has w.heap.size from fun e => by have := T.live.at_.lt e; omega)
  have HBQ := Lib.hid (show ¬ q.has w.heap.size from fun e => by have := T.doc.lt e; omega)
  have HS0 := Lib.hid (Step2.of_below (p := p) (q := q) hb0)
  have hE := h.AllocE_lt v f m
  clear T hb0 hr fb
  go_enter Tryz.func8, Tryz.ntmps8
  go_wp2_with fail
  refine (T0.out.live.alloc v fv f m).mono ?_
  intro e w1 hD
  obtain ⟨p1, q1, rfl, T1, s1⟩ := T0.out.of_done hD
  obtain ⟨BX1, hp1, hq1⟩ := BX.out.step2 s1 HBP.out HBQ.out
  obtain ⟨c0, c1, c2, c3, c4, c5, c6, c7⟩ := BX1.cells8
  have HT1 := Lib.hid (T1.ralloc hf v fv f m)
  have HS1 := Lib.hid (HS0.out.trans s1)
  clear hD T1 s1 BX1 hf hh
  generalize h.AllocO v f m = O1 at *
  generalize h.AllocE v f m = E1 at *
  go_wp2_with fail
  refine HT1.out.mono ?_
  rintro e w2 ⟨p2, q2, rfl, T2, s2⟩
  have HT2 := Lib.hid T2
  have HS2 := Lib.hid (HS1.out.trans s2)
  clear T2 s2 c0 c1 c2 c3 c4 c5 c6 c7 HT1
  go_wp2_with fail
  refine (num_any _ hE _).mono ?_
  rintro e w3 ⟨rfl, rfl⟩
  go_wp2_with fail
  go_ret
  exact ⟨p2, q2, rfl, HT2.out, HS2.out⟩

set_option maxRecDepth 100000 in
set_option maxHeartbeats 4000000 in
theorem do2_any (h0 : dk.tmod 14 = 2) : Calls Tryz.prog 8 #[.pointer (some ⟨g, 0, none⟩), .pointer (some ⟨k, 0, none⟩), .agg #[.int .i64 dk, .int .u32 (o : Nat), .int .u32 (v : Nat), .int .i64 f, .int .i64 i, .int .i64 m, .int .u32 (x : Nat), .slice A n c]] w (Done2 W p g q k (h) (h) (.bool true) w) := by
  have hf := T.live.fit
  have hh := T.live.heads
  have hb0 := (Below.refl w.heap.size w).alloc (Nat.le_refl _) (.cells #[.int .i64 dk, .int .u32 (o : Nat), .int .u32 (v : Nat), .int .i64 f, .int .i64 i, .int .i64 m, .int .u32 (x : Nat), .slice A n c] 33)
  have T0 := Lib.hid (T.after hb0)
  have BX := Lib.hid (Blk.new w 33 #[.int .i64 dk, .int .u32 (o : Nat), .int .u32 (v : Nat), .int .i64 f, .int .i64 i, .int .i64 m, .int .u32 (x : Nat), .slice A n c])
  have HBP := Lib.hid (show ¬ p.has w.heap.size from fun e => by have := T.live.at_.lt e; omega)
  have HBQ := Lib.hid (show ¬ q.has w.heap.size from fun e => by have := T.doc.lt e; omega)
  have HS0 := Lib.hid (Step2.of_below (p := p) (q := q) hb0)
  have hE := h.lookE_lt' o i [1, 4]
  clear T hb0 hr fb
  go_enter Tryz.func8, Tryz.ntmps8
  go_wp2_with fail
  refine (T0.out.live.get o fo i).mono ?_
  rintro e w1 ⟨rfl, hb1⟩
  have T1 := T0.out.after hb1
  have BX1 := BX.out.below hb1 BX.out.lt
  obtain ⟨c0, c1, c2, c3, c4, c5, c6, c7⟩ := BX1.cells8
  have HT1 := Lib.hid (rget_any T1.doc hf hh o fo i hi63)
  rw [T1.hk] at HT1
  have HTT := Lib.hid T1
  have HS1 := Lib.hid (HS0.out.trans (Step2.of_below hb1))
  clear hb1 T1 BX1 hf hh
  generalize h.readN o i [1, 4] = O1 at *
  generalize h.lookE o i [1, 4] = E1 at *
  go_wp2_with fail
  refine HT1.out.mono ?_
  rintro e w2 ⟨rfl, hb2⟩
  have HT2 := Lib.hid (HTT.out.after hb2)
  have HS2 := Lib.hid (HS1.out.trans (Step2.of_below hb2))
  clear hb2 c0 c1 c2 c3 c4 c5 c6 c7 HT1
  go_wp2_with fail
  refine (num_any _ hE _).mono ?_
  rintro e w3 ⟨rfl, rfl⟩
  go_wp2_with fail
  go_ret
  exact ⟨_, _, rfl, HT2.out, HS2.out⟩

set_option maxRecDepth 100000 in
set_option maxHeartbeats 4000000 in
theorem do4_any (h0 : dk.tmod 14 = 4) : Calls Tryz.prog 8 #[.pointer (some ⟨g, 0, none⟩), .pointer (some ⟨k, 0, none⟩), .agg #[.int .i64 dk, .int .u32 (o : Nat), .int .u32 (v : Nat), .int .i64 f, .int .i64 i, .int .i64 m, .int .u32 (x : Nat), .slice A n c]] w (Done2 W p g q k (h) (h) (.bool true) w) := by
  have hf := T.live.fit
  have hh := T.live.heads
  have hb0 := (Below.refl w.heap.size w).alloc (Nat.le_refl _) (.cells #[.int .i64 dk, .int .u32 (o : Nat), .int .u32 (v : Nat), .int .i64 f, .int .i64 i, .int .i64 m, .int .u32 (x : Nat), .slice A n c] 33)
  have T0 := Lib.hid (T.after hb0)
  have BX := Lib.hid (Blk.new w 33 #[.int .i64 dk, .int .u32 (o : Nat), .int .u32 (v : Nat), .int .i64 f, .int .i64 i, .int .i64 m, .int .u32 (x : Nat), .slice A n c])
  have HBP := Lib.hid (show ¬ p.has w.heap.size from fun e => by have := T.live.at_.lt e; omega)
  have HBQ := Lib.hid (show ¬ q.has w.heap.size from fun e => by have := T.doc.lt e; omega)
  have HS0 := Lib.hid (Step2.of_below (p := p) (q := q) hb0)
  have hE := h.lookE_lt' o i [3]
  clear T hb0 hr fb
  go_enter Tryz.func8, Tryz.ntmps8
  go_wp2_with fail
  refine (T0.out.live.word o fo i).mono ?_
  rintro e w1 ⟨rfl, hb1⟩
  have T1 := T0.out.after hb1
  have BX1 := BX.out.below hb1 BX.out.lt
  obtain ⟨c0, c1, c2, c3, c4, c5, c6, c7⟩ := BX1.cells8
  have HT1 := Lib.hid (rword_any T1.doc hf hh o fo i hi63)
  rw [T1.hk] at HT1
  have HTT := Lib.hid T1
  have HS1 := Lib.hid (HS0.out.trans (Step2.of_below hb1))
  clear hb1 T1 BX1 hf hh
  generalize h.readN o i [3] = O1 at *
  generalize h.lookE o i [3] = E1 at *
  go_wp2_with fail
  refine HT1.out.mono ?_
  rintro e w2 ⟨rfl, hb2⟩
  have HT2 := Lib.hid (HTT.out.after hb2)
  have HS2 := Lib.hid (HS1.out.trans (Step2.of_below hb2))
  clear hb2 c0 c1 c2 c3 c4 c5 c6 c7 HT1
  go_wp2_with fail
  refine (num_any _ hE _).mono ?_
  rintro e w3 ⟨rfl, rfl⟩
  go_wp2_with fail
  go_ret
  exact ⟨_, _, rfl, HT2.out, HS2.out⟩

set_option maxRecDepth 100000 in
set_option maxHeartbeats 4000000 in
theorem do6_any (h0 : dk.tmod 14 = 6) : Calls Tryz.prog 8 #[.pointer (some ⟨g, 0, none⟩), .pointer (some ⟨k, 0, none⟩), .agg #[.int .i64 dk, .int .u32 (o : Nat), .int .u32 (v : Nat), .int .i64 f, .int .i64 i, .int .i64 m, .int .u32 (x : Nat), .slice A n c]] w (Done2 W p g q k (h) (h) (.bool true) w) := by
  have hf := T.live.fit
  have hh := T.live.heads
  have hb0 := (Below.refl w.heap.size w).alloc (Nat.le_refl _) (.cells #[.int .i64 dk, .int .u32 (o : Nat), .int .u32 (v : Nat), .int .i64 f, .int .i64 i, .int .i64 m, .int .u32 (x : Nat), .slice A n c] 33)
  have T0 := Lib.hid (T.after hb0)
  have BX := Lib.hid (Blk.new w 33 #[.int .i64 dk, .int .u32 (o : Nat), .int .u32 (v : Nat), .int .i64 f, .int .i64 i, .int .i64 m, .int .u32 (x : Nat), .slice A n c])
  have HBP := Lib.hid (show ¬ p.has w.heap.size from fun e => by have := T.live.at_.lt e; omega)
  have HBQ := Lib.hid (show ¬ q.has w.heap.size from fun e => by have := T.doc.lt e; omega)
  have HS0 := Lib.hid (Step2.of_below (p := p) (q := q) hb0)
  have hE := h.lookE_lt' o i [2]
  clear T hb0 hr fb
  go_enter Tryz.func8, Tryz.ntmps8
  go_wp2_with fail
  refine (T0.out.live.byte o fo i).mono ?_
  rintro e w1 ⟨rfl, hb1⟩
  have T1 := T0.out.after hb1
  have BX1 := BX.out.below hb1 BX.out.lt
  obtain ⟨c0, c1, c2, c3, c4, c5, c6, c7⟩ := BX1.cells8
  have HT1 := Lib.hid (rbyte_any T1.doc hf hh o fo i hi63)
  rw [T1.hk] at HT1
  have HTT := Lib.hid T1
  have HS1 := Lib.hid (HS0.out.trans (Step2.of_below hb1))
  clear hb1 T1 BX1 hf hh
  generalize h.byteN o i = O1 at *
  generalize h.lookE o i [2] = E1 at *
  go_wp2_with fail
  refine HT1.out.mono ?_
  rintro e w2 ⟨rfl, hb2⟩
  have HT2 := Lib.hid (HTT.out.after hb2)
  have HS2 := Lib.hid (HS1.out.trans (Step2.of_below hb2))
  clear hb2 c0 c1 c2 c3 c4 c5 c6 c7 HT1
  go_wp2_with fail
  refine (num_any _ hE _).mono ?_
  rintro e w3 ⟨rfl, rfl⟩
  go_wp2_with fail
  go_ret
  exact ⟨_, _, rfl, HT2.out, HS2.out⟩

set_option maxRecDepth 100000 in
set_option maxHeartbeats 4000000 in
theorem do3_any (h0 : dk.tmod 14 = 3) : Calls Tryz.prog 8 #[.pointer (some ⟨g, 0, none⟩), .pointer (some ⟨k, 0, none⟩), .agg #[.int .i64 dk, .int .u32 (o : Nat), .int .u32 (v : Nat), .int .i64 f, .int .i64 i, .int .i64 m, .int .u32 (x : Nat), .slice A n c]] w (Done2 W p g q k (h.putH o i v) (h.putH o i v) (.bool true) w) := by
  have hf := T.live.fit
  have hh := T.live.heads
  have hb0 := (Below.refl w.heap.size w).alloc (Nat.le_refl _) (.cells #[.int .i64 dk, .int .u32 (o : Nat), .int .u32 (v : Nat), .int .i64 f, .int .i64 i, .int .i64 m, .int .u32 (x : Nat), .slice A n c] 33)
  have T0 := Lib.hid (T.after hb0)
  have BX := Lib.hid (Blk.new w 33 #[.int .i64 dk, .int .u32 (o : Nat), .int .u32 (v : Nat), .int .i64 f, .int .i64 i, .int .i64 m, .int .u32 (x : Nat), .slice A n c])
  have HBP := Lib.hid (show ¬ p.has w.heap.size from fun e => by have := T.live.at_.lt e; omega)
  have HBQ := Lib.hid (show ¬ q.has w.heap.size from fun e => by have := T.doc.lt e; omega)
  have HS0 := Lib.hid (Step2.of_below (p := p) (q := q) hb0)
  have hE := h.putE_lt o i v
  obtain ⟨d0, d1, d2, d3, d4, d5, d6, d7⟩ := BX.out.drew.cells8
  clear T hb0 hr fb
  have TD := Lib.hid (T0.out.after (below_drew (Below.refl _ _)))
  go_enter Tryz.func8, Tryz.ntmps8
  go_upto_region 16 with fail
  generalize hW : w.alloc (.cells #[.int .i64 dk, .int .u32 (o : Nat), .int .u32 (v : Nat), .int .i64 f, .int .i64 i, .int .i64 m, .int .u32 (x : Nat), .slice A n c] 33) = W1 at *
  clear hW
  have HPC := Lib.hid (TD.out.live.put o fo i v fv)
  have HDOC := Lib.hid (fun (w' : World) (p' q' : HP) (b' : HM) (T' : Two W w' p' g q' k b' h) => T'.rput hf hh o fo i hi63 v fv)
  clear hf hh
  generalize h.putE o i v = E1 at *
  go_region_held3 (fun w' => w'.cell? ⟨w.heap.size, 1, none⟩ = some (.int .u32 (o : Nat)) ∧ w'.cell? ⟨w.heap.size, 4, none⟩ = some (.int .i64 i) ∧ w'.cell? ⟨w.heap.size, 2, none⟩ = some (.int .u32 (v : Nat)))
    (first | exact ⟨d1, d4, d2⟩ | exact ⟨c1, c4, c2⟩ | exact ⟨b1, b4, b2⟩ | go_keep)
    (first
      | (go_at_call 28; refine HPC.out.mono ?_; intro e w1 hD; obtain ⟨p1, q1, rfl, T1, s1⟩ := TD.out.of_done hD; obtain ⟨BX1, hp1, hq1⟩ := BX.out.drew.step2 s1 HBP.out HBQ.out; obtain ⟨c0, c1, c2, c3, c4, c5, c6, c7⟩ := BX1.cells8; have HT1 := Lib.hid T1; have HS1 := Lib.hid ((HS0.out.trans (Step2.of_below (below_drew (Below.refl _ _)))).trans s1); clear hD T1 s1)
      | (go_at_call 20; refine (num_any _ hE _).mono ?_; rintro e w3 ⟨rfl, rfl⟩)
      | (go_at_call 33; refine (HDOC.out _ _ _ _ HT1.out).mono ?_; rintro e w2 ⟨p2, q2, rfl, T2, s2⟩; obtain ⟨BX2, hp2, hq2⟩ := BX1.step2 s2 hp1 hq1; obtain ⟨b0, b1, b2, b3, b4, b5, b6, b7⟩ := BX2.cells8; have HT2 := Lib.hid T2; have HS2 := Lib.hid (HS1.out.trans s2); clear T2 s2))
  all_goals go_wp2_with fail
  all_goals go_ret
  all_goals exact ⟨p2, q2, rfl, HT2.out, HS2.out⟩

set_option maxRecDepth 100000 in
set_option maxHeartbeats 4000000 in
theorem do5_any (h0 : dk.tmod 14 = 5) : Calls Tryz.prog 8 #[.pointer (some ⟨g, 0, none⟩), .pointer (some ⟨k, 0, none⟩), .agg #[.int .i64 dk, .int .u32 (o : Nat), .int .u32 (v : Nat), .int .i64 f, .int .i64 i, .int .i64 m, .int .u32 (x : Nat), .slice A n c]] w (Done2 W p g q k (h.setWordH o i x) (h.setWordH o i x) (.bool true) w) := by
  have hf := T.live.fit
  have hh := T.live.heads
  have hb0 := (Below.refl w.heap.size w).alloc (Nat.le_refl _) (.cells #[.int .i64 dk, .int .u32 (o : Nat), .int .u32 (v : Nat), .int .i64 f, .int .i64 i, .int .i64 m, .int .u32 (x : Nat), .slice A n c] 33)
  have T0 := Lib.hid (T.after hb0)
  have BX := Lib.hid (Blk.new w 33 #[.int .i64 dk, .int .u32 (o : Nat), .int .u32 (v : Nat), .int .i64 f, .int .i64 i, .int .i64 m, .int .u32 (x : Nat), .slice A n c])
  have HBP := Lib.hid (show ¬ p.has w.heap.size from fun e => by have := T.live.at_.lt e; omega)
  have HBQ := Lib.hid (show ¬ q.has w.heap.size from fun e => by have := T.doc.lt e; omega)
  have HS0 := Lib.hid (Step2.of_below (p := p) (q := q) hb0)
  have hE := h.lookE_lt' o i [3]
  obtain ⟨d0, d1, d2, d3, d4, d5, d6, d7⟩ := BX.out.drew.cells8
  clear T hb0 hr fb
  have TD := Lib.hid (T0.out.after (below_drew (Below.refl _ _)))
  go_enter Tryz.func8, Tryz.ntmps8
  go_upto_region 22 with fail
  generalize hW : w.alloc (.cells #[.int .i64 dk, .int .u32 (o : Nat), .int .u32 (v : Nat), .int .i64 f, .int .i64 i, .int .i64 m, .int .u32 (x : Nat), .slice A n c] 33) = W1 at *
  clear hW
  have HPC := Lib.hid (TD.out.live.setWord o fo i x fx)
  have HDOC := Lib.hid (fun (w' : World) (p' q' : HP) (b' : HM) (T' : Two W w' p' g q' k b' h) => T'.rsetWord hf hh o fo i hi63 x fx)
  clear hf hh
  generalize h.lookE o i [3] = E1 at *
  go_region_held3 (fun w' => w'.cell? ⟨w.heap.size, 1, none⟩ = some (.int .u32 (o : Nat)) ∧ w'.cell? ⟨w.heap.size, 4, none⟩ = some (.int .i64 i) ∧ w'.cell? ⟨w.heap.size, 6, none⟩ = some (.int .u32 (x : Nat)))
    (first | exact ⟨d1, d4, d6⟩ | exact ⟨c1, c4, c6⟩ | exact ⟨b1, b4, b6⟩ | go_keep)
    (first
      | (go_at_call 36; refine HPC.out.mono ?_; intro e w1 hD; obtain ⟨p1, q1, rfl, T1, s1⟩ := TD.out.of_done hD; obtain ⟨BX1, hp1, hq1⟩ := BX.out.drew.step2 s1 HBP.out HBQ.out; obtain ⟨c0, c1, c2, c3, c4, c5, c6, c7⟩ := BX1.cells8; have HT1 := Lib.hid T1; have HS1 := Lib.hid ((HS0.out.trans (Step2.of_below (below_drew (Below.refl _ _)))).trans s1); clear hD T1 s1)
      | (go_at_call 20; refine (num_any _ hE _).mono ?_; rintro e w3 ⟨rfl, rfl⟩)
      | (go_at_call 37; refine (HDOC.out _ _ _ _ HT1.out).mono ?_; rintro e w2 ⟨p2, q2, rfl, T2, s2⟩; obtain ⟨BX2, hp2, hq2⟩ := BX1.step2 s2 hp1 hq1; obtain ⟨b0, b1, b2, b3, b4, b5, b6, b7⟩ := BX2.cells8; have HT2 := Lib.hid T2; have HS2 := Lib.hid (HS1.out.trans s2); clear T2 s2))
  all_goals go_wp2_with fail
  all_goals go_ret
  all_goals exact ⟨p2, q2, rfl, HT2.out, HS2.out⟩

set_option maxRecDepth 100000 in
set_option maxHeartbeats 4000000 in
theorem do7_any (h0 : dk.tmod 14 = 7) : Calls Tryz.prog 8 #[.pointer (some ⟨g, 0, none⟩), .pointer (some ⟨k, 0, none⟩), .agg #[.int .i64 dk, .int .u32 (o : Nat), .int .u32 (v : Nat), .int .i64 f, .int .i64 i, .int .i64 m, .int .u32 (x : Nat), .slice A n c]] w (Done2 W p g q k (h.setByteH o i (x % 256)) (h.setByteH o i (x % 256)) (.bool true) w) := by
  have hf := T.live.fit
  have hh := T.live.heads
  have hb0 := (Below.refl w.heap.size w).alloc (Nat.le_refl _) (.cells #[.int .i64 dk, .int .u32 (o : Nat), .int .u32 (v : Nat), .int .i64 f, .int .i64 i, .int .i64 m, .int .u32 (x : Nat), .slice A n c] 33)
  have T0 := Lib.hid (T.after hb0)
  have BX := Lib.hid (Blk.new w 33 #[.int .i64 dk, .int .u32 (o : Nat), .int .u32 (v : Nat), .int .i64 f, .int .i64 i, .int .i64 m, .int .u32 (x : Nat), .slice A n c])
  have HBP := Lib.hid (show ¬ p.has w.heap.size from fun e => by have := T.live.at_.lt e; omega)
  have HBQ := Lib.hid (show ¬ q.has w.heap.size from fun e => by have := T.doc.lt e; omega)
  have HS0 := Lib.hid (Step2.of_below (p := p) (q := q) hb0)
  have hE := h.lookE_lt' o i [2]
  obtain ⟨d0, d1, d2, d3, d4, d5, d6, d7⟩ := BX.out.drew.cells8
  clear T hb0 hr fb
  have TD := Lib.hid (T0.out.after (below_drew (Below.refl _ _)))
  go_enter Tryz.func8, Tryz.ntmps8
  go_upto_region 28 with fail
  generalize hW : w.alloc (.cells #[.int .i64 dk, .int .u32 (o : Nat), .int .u32 (v : Nat), .int .i64 f, .int .i64 i, .int .i64 m, .int .u32 (x : Nat), .slice A n c] 33) = W1 at *
  clear hW
  have HPC := Lib.hid (TD.out.live.setByte o fo i (x % 256) (Nat.mod_lt _ (by omega)))
  have HDOC := Lib.hid (fun (w' : World) (p' q' : HP) (b' : HM) (T' : Two W w' p' g q' k b' h) => T'.rsetByte hf hh o fo i hi63 (x % 256) (Nat.mod_lt _ (by omega)))
  clear hf hh
  generalize h.lookE o i [2] = E1 at *
  go_region_held3 (fun w' => w'.cell? ⟨w.heap.size, 1, none⟩ = some (.int .u32 (o : Nat)) ∧ w'.cell? ⟨w.heap.size, 4, none⟩ = some (.int .i64 i) ∧ w'.cell? ⟨w.heap.size, 6, none⟩ = some (.int .u32 (x : Nat)))
    (first | exact ⟨d1, d4, d6⟩ | exact ⟨c1, c4, c6⟩ | exact ⟨b1, b4, b6⟩ | go_keep)
    (first
      | (go_at_call 40; refine HPC.out.mono ?_; intro e w1 hD; obtain ⟨p1, q1, rfl, T1, s1⟩ := TD.out.of_done hD; obtain ⟨BX1, hp1, hq1⟩ := BX.out.drew.step2 s1 HBP.out HBQ.out; obtain ⟨c0, c1, c2, c3, c4, c5, c6, c7⟩ := BX1.cells8; have HT1 := Lib.hid T1; have HS1 := Lib.hid ((HS0.out.trans (Step2.of_below (below_drew (Below.refl _ _)))).trans s1); clear hD T1 s1)
      | (go_at_call 20; refine (num_any _ hE _).mono ?_; rintro e w3 ⟨rfl, rfl⟩)
      | (go_at_call 41; refine (HDOC.out _ _ _ _ HT1.out).mono ?_; rintro e w2 ⟨p2, q2, rfl, T2, s2⟩; obtain ⟨BX2, hp2, hq2⟩ := BX1.step2 s2 hp1 hq1; obtain ⟨b0, b1, b2, b3, b4, b5, b6, b7⟩ := BX2.cells8; have HT2 := Lib.hid T2; have HS2 := Lib.hid (HS1.out.trans s2); clear T2 s2))
  all_goals go_wp2_with fail
  all_goals go_ret
  all_goals exact ⟨p2, q2, rfl, HT2.out, HS2.out⟩

set_option maxRecDepth 100000 in
set_option maxHeartbeats 4000000 in
theorem do9_any (h0 : dk.tmod 14 = 9) : Calls Tryz.prog 8 #[.pointer (some ⟨g, 0, none⟩), .pointer (some ⟨k, 0, none⟩), .agg #[.int .i64 dk, .int .u32 (o : Nat), .int .u32 (v : Nat), .int .i64 f, .int .i64 i, .int .i64 m, .int .u32 (x : Nat), .slice A n c]] w (Done2 W p g q k (h.setClassH o v) (h.setClassH o v) (.bool true) w) := by
  have hf := T.live.fit
  have hh := T.live.heads
  have hb0 := (Below.refl w.heap.size w).alloc (Nat.le_refl _) (.cells #[.int .i64 dk, .int .u32 (o : Nat), .int .u32 (v : Nat), .int .i64 f, .int .i64 i, .int .i64 m, .int .u32 (x : Nat), .slice A n c] 33)
  have T0 := Lib.hid (T.after hb0)
  have BX := Lib.hid (Blk.new w 33 #[.int .i64 dk, .int .u32 (o : Nat), .int .u32 (v : Nat), .int .i64 f, .int .i64 i, .int .i64 m, .int .u32 (x : Nat), .slice A n c])
  have HBP := Lib.hid (show ¬ p.has w.heap.size from fun e => by have := T.live.at_.lt e; omega)
  have HBQ := Lib.hid (show ¬ q.has w.heap.size from fun e => by have := T.doc.lt e; omega)
  have HS0 := Lib.hid (Step2.of_below (p := p) (q := q) hb0)
  have hE := h.setClassE_lt o v
  obtain ⟨d0, d1, d2, d3, d4, d5, d6, d7⟩ := BX.out.drew.cells8
  clear T hb0 hr fb
  have TD := Lib.hid (T0.out.after (below_drew (Below.refl _ _)))
  go_enter Tryz.func8, Tryz.ntmps8
  go_upto_region 34 with fail
  generalize hW : w.alloc (.cells #[.int .i64 dk, .int .u32 (o : Nat), .int .u32 (v : Nat), .int .i64 f, .int .i64 i, .int .i64 m, .int .u32 (x : Nat), .slice A n c] 33) = W1 at *
  clear hW
  have HPC := Lib.hid (TD.out.live.setClass o fo v fv)
  have HDOC := Lib.hid (fun (w' : World) (p' q' : HP) (b' : HM) (T' : Two W w' p' g q' k b' h) => T'.rsetClass hf hh o fo v fv)
  clear hf hh
  generalize h.setClassE o v = E1 at *
  go_region_held3 (fun w' => w'.cell? ⟨w.heap.size, 1, none⟩ = some (.int .u32 (o : Nat)) ∧ w'.cell? ⟨w.heap.size, 2, none⟩ = some (.int .u32 (v : Nat)))
    (first | exact ⟨d1, d2⟩ | exact ⟨c1, c2⟩ | exact ⟨b1, b2⟩ | go_keep)
    (first
      | (go_at_call 44; refine HPC.out.mono ?_; intro e w1 hD; obtain ⟨p1, q1, rfl, T1, s1⟩ := TD.out.of_done hD; obtain ⟨BX1, hp1, hq1⟩ := BX.out.drew.step2 s1 HBP.out HBQ.out; obtain ⟨c0, c1, c2, c3, c4, c5, c6, c7⟩ := BX1.cells8; have HT1 := Lib.hid T1; have HS1 := Lib.hid ((HS0.out.trans (Step2.of_below (below_drew (Below.refl _ _)))).trans s1); clear hD T1 s1)
      | (go_at_call 20; refine (num_any _ hE _).mono ?_; rintro e w3 ⟨rfl, rfl⟩)
      | (go_at_call 45; refine (HDOC.out _ _ _ _ HT1.out).mono ?_; rintro e w2 ⟨p2, q2, rfl, T2, s2⟩; obtain ⟨BX2, hp2, hq2⟩ := BX1.step2 s2 hp1 hq1; obtain ⟨b0, b1, b2, b3, b4, b5, b6, b7⟩ := BX2.cells8; have HT2 := Lib.hid T2; have HS2 := Lib.hid (HS1.out.trans s2); clear T2 s2))
  all_goals go_wp2_with fail
  all_goals go_ret
  all_goals exact ⟨p2, q2, rfl, HT2.out, HS2.out⟩

set_option maxRecDepth 100000 in
set_option maxHeartbeats 4000000 in
theorem do10_any (h0 : dk.tmod 14 = 10) : Calls Tryz.prog 8 #[.pointer (some ⟨g, 0, none⟩), .pointer (some ⟨k, 0, none⟩), .agg #[.int .i64 dk, .int .u32 (o : Nat), .int .u32 (v : Nat), .int .i64 f, .int .i64 i, .int .i64 m, .int .u32 (x : Nat), .slice A n c]] w (Done2 W p g q k (h.setRootH i v) (h.setRootH i v) (.bool true) w) := by
  have hf := T.live.fit
  have hh := T.live.heads
  have hb0 := (Below.refl w.heap.size w).alloc (Nat.le_refl _) (.cells #[.int .i64 dk, .int .u32 (o : Nat), .int .u32 (v : Nat), .int .i64 f, .int .i64 i, .int .i64 m, .int .u32 (x : Nat), .slice A n c] 33)
  have T0 := Lib.hid (T.after hb0)
  have BX := Lib.hid (Blk.new w 33 #[.int .i64 dk, .int .u32 (o : Nat), .int .u32 (v : Nat), .int .i64 f, .int .i64 i, .int .i64 m, .int .u32 (x : Nat), .slice A n c])
  have HBP := Lib.hid (show ¬ p.has w.heap.size from fun e => by have := T.live.at_.lt e; omega)
  have HBQ := Lib.hid (show ¬ q.has w.heap.size from fun e => by have := T.doc.lt e; omega)
  have HS0 := Lib.hid (Step2.of_below (p := p) (q := q) hb0)
  have hE := h.setRootE_lt i v
  obtain ⟨d0, d1, d2, d3, d4, d5, d6, d7⟩ := BX.out.drew.cells8
  clear T hb0 hr fb
  have TD := Lib.hid (T0.out.after (below_drew (Below.refl _ _)))
  go_enter Tryz.func8, Tryz.ntmps8
  go_upto_region 36 with fail
  generalize hW : w.alloc (.cells #[.int .i64 dk, .int .u32 (o : Nat), .int .u32 (v : Nat), .int .i64 f, .int .i64 i, .int .i64 m, .int .u32 (x : Nat), .slice A n c] 33) = W1 at *
  clear hW
  have HPC := Lib.hid (TD.out.live.setRoot i v fv)
  have HDOC := Lib.hid (fun (w' : World) (p' q' : HP) (b' : HM) (T' : Two W w' p' g q' k b' h) => T'.rsetRoot hf i v fv)
  clear hf hh
  generalize h.setRootE i v = E1 at *
  go_region_held3 (fun w' => w'.cell? ⟨w.heap.size, 4, none⟩ = some (.int .i64 i) ∧ w'.cell? ⟨w.heap.size, 2, none⟩ = some (.int .u32 (v : Nat)))
    (first | exact ⟨d4, d2⟩ | exact ⟨c4, c2⟩ | exact ⟨b4, b2⟩ | go_keep)
    (first
      | (go_at_call 25; refine HPC.out.mono ?_; intro e w1 hD; obtain ⟨p1, q1, rfl, T1, s1⟩ := TD.out.of_done hD; obtain ⟨BX1, hp1, hq1⟩ := BX.out.drew.step2 s1 HBP.out HBQ.out; obtain ⟨c0, c1, c2, c3, c4, c5, c6, c7⟩ := BX1.cells8; have HT1 := Lib.hid T1; have HS1 := Lib.hid ((HS0.out.trans (Step2.of_below (below_drew (Below.refl _ _)))).trans s1); clear hD T1 s1)
      | (go_at_call 20; refine (num_any _ hE _).mono ?_; rintro e w3 ⟨rfl, rfl⟩)
      | (go_at_call 46; refine (HDOC.out _ _ _ _ HT1.out).mono ?_; rintro e w2 ⟨p2, q2, rfl, T2, s2⟩; obtain ⟨BX2, hp2, hq2⟩ := BX1.step2 s2 hp1 hq1; obtain ⟨b0, b1, b2, b3, b4, b5, b6, b7⟩ := BX2.cells8; have HT2 := Lib.hid T2; have HS2 := Lib.hid (HS1.out.trans s2); clear T2 s2))
  all_goals go_wp2_with fail
  all_goals go_ret
  all_goals exact ⟨p2, q2, rfl, HT2.out, HS2.out⟩
end
end Go.Proofs.YtkpjkbkglnabiaaGreatDoor
