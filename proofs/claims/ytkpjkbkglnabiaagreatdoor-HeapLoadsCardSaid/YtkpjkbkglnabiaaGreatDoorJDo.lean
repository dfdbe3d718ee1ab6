/- do: the last cases, and all together. -/
/- HeapDoes, walked: every call of every script answers as the document's. -/
import Derived.Test.YtkpjkbkglnabiaaGreatDoorAsk
import Derived.ArgAppend
set_option linter.unusedSectionVars false
set_option linter.unusedVariables false
set_option linter.unusedSectionVars false
namespace Go.Proofs.YtkpjkbkglnabiaaGreatDoor
open Go.RowKit
attribute [local go_sem] Oper.semAt_some

theorem bytes4_at (x r : Nat) (hr : r < 4) : (bytes4 x)[r]? = some (byteOf x r) := by
  rcases (by omega : r = 0 ∨ r = 1 ∨ r = 2 ∨ r = 3) with rfl | rfl | rfl | rfl <;> simp [bytes4, byteOf]
theorem bytesM_at (ys : List Nat) : ∀ i, i < 4 * ys.length → (bytesM ys)[i]? = some (byteOf (ys.getD (i / 4) 0) (i % 4)) := by
  induction ys with
  | nil => intro i hi; simp at hi
  | cons y ys ih =>
    intro i hi
    rw [bytesM_cons]
    have hl : (bytes4 y).length = 4 := rfl
    rcases Nat.lt_or_ge i 4 with h | h
    · rw [List.getElem?_append_left (by omega), bytes4_at y i h, Nat.div_eq_of_lt h, Nat.mod_eq_of_lt h]
      rfl
    · rw [List.getElem?_append_right (by omega), hl, ih (i - 4) (by simp at hi; omega)]
      have e1 : i / 4 = (i - 4) / 4 + 1 := by omega
      have e2 : i % 4 = (i - 4) % 4 := by omega
      rw [e1, e2, List.getD_cons_succ]
theorem bytesM_take_map (ys : List Nat) (n : Nat) (hn : n ≤ 4 * ys.length) (f : Nat → Nat) (hf : ∀ i, i < n → f i = byteOf (ys.getD (i / 4) 0) (i % 4)) : (bytesM ys).take n = (List.range n).map f := by
  apply List.ext_getElem?
  intro i
  rcases Nat.lt_or_ge i n with h | h
  · rw [List.getElem?_take, if_pos h, bytesM_at ys i (by omega), List.getElem?_map, List.getElem?_range h]
    simp [hf i h]
  · rw [List.getElem?_eq_none (by simp; omega), List.getElem?_eq_none (by simp; omega)]
/-- The two Bytes answer the same of a heap that is one. -/
theorem HM.Good.bytes {h : HM} {l : List Ob} (G : h.Good l) (o : Nat) : h.bytesE o = h.rbE o ∧ (h.rbE o = 0 → (bytesM (h.fields o)).take (h.hd (o / 2)).len = h.bytesN o (h.hd (o / 2)).len) := by
  unfold HM.bytesE HM.rbE
  cases hi : h.isB o
  · simp
  · obtain ⟨a, b, c, rfl, rfl⟩ := (G.laid.isB_iff o).1 hi
    have L := G.laid
    rw [half_pos, L.hd_at, L.fields_at]
    have K := L.ok_at
    by_cases h2 : b.x.fmt = 2
    · rw [if_pos h2, if_pos h2, G.sound.spare b (by simp) h2]
      refine ⟨rfl, fun _ => ?_⟩
      have hlen : b.x.len = 4 * b.x.size - b.x.spare := by unfold Hd.len; rw [if_pos h2]
      unfold HM.bytesN
      have hsz := K.size
      refine bytesM_take_map b.fs b.x.len (by omega) _ (fun i hi' => ?_)
      have he : h.lookE (2 * posOf a) (i : Int) [2] = 0 := by
        unfold HM.lookE
        rw [half_pos, L.hd_at, if_neg (by rw [hi]; decide), h2, if_neg (by decide), if_neg (by omega)]
      unfold HM.byteN
      rw [if_pos he]
      unfold fb
      rw [Int.toNat_natCast, L.f_at (i / 4) (by omega)]
    · simp [h2]

theorem own_reads {w : World} {base n : Nat} {e : TypeId} {v : Value} {xs : List Value} (h : w.ownsRow base e 1 v n xs) : ∃ A c, v = .slice A n c ∧ Reads w w.heap.size 1 A n xs := by
  by_cases hn : 0 < n
  · obtain ⟨g, c, rfl, r, hl, hg⟩ := Row.of_any h hn
    have := r.reads r.lt
    rw [hl] at this
    exact ⟨_, _, rfl, this⟩
  · have h1 := h.1
    rcases h.2 with h2 | ⟨g, cap, cur, rfl, h2⟩
    · obtain ⟨h3, h4⟩ := h2
      have hn0 : n = 0 := by omega
      subst hn0
      first
        | exact ⟨none, 0, h3, h1, fun h0 => absurd h0 (by omega)⟩
        | exact ⟨none, 0, h4, h1, fun h0 => absurd h0 (by omega)⟩
    · exact ⟨_, _, rfl, h1, fun h0 => absurd h0 hn⟩
theorem reads_take {w : World} {B LL : Nat} {A : Option Addr} {ys : List Nat} (h : Reads w B 1 A (u8c ys).length (u8c ys)) (hL : LL ≤ ys.length) : Reads w B 1 A LL (u8c (ys.take LL)) := by
  refine ⟨by rw [u8c_len, List.length_take]; omega, fun h0 => ?_⟩
  obtain ⟨ad, e1, e2, e3⟩ := h.2 (by rw [u8c_len]; omega)
  refine ⟨ad, e1, e2, fun j u hj => e3 j u ?_⟩
  have hjl : j < LL := by
    rcases Nat.lt_or_ge j LL with h1 | h1
    · exact h1
    · rw [List.getElem?_eq_none (by rw [u8c_len, List.length_take]; omega)] at hj; cases hj
  rw [← hj]
  unfold u8c
  rw [List.getElem?_map, List.getElem?_map, List.getElem?_take, if_pos hjl]
theorem Row.shorter {w : World} {g c : Nat} {e : TypeId} {xs ys : List Value} (h : Row w g e c (xs ++ ys)) : Row w g e c xs := by
  obtain ⟨cur, hb, hl, hm, hc, hx⟩ := h
  refine ⟨cur, hb, by rw [List.length_append] at hl; omega, hm, hc, ?_⟩
  have := congrArg (List.take xs.length) hx
  rw [List.take_take, List.length_append, Nat.min_eq_left (by omega), List.take_left] at this
  exact this

section
variable {W w : World} {p q : HP} {g k : Nat} {h : HM} (T : Two W w p g q k h h) (dk : Int) (o v : Nat) (f i m : Int) (x : Nat) (b : List Nat) (fo : o < 4294967296) (fv : v < 4294967296) (fx : x < 4294967296) (fb : ∀ y ∈ b, y < 256)
  (A : Option Addr) (n c : Nat) (hn : n ≤ 9223372036854775807) (hr : Reads w W.heap.size 1 A n (u8c b)) (hi63 : i ≤ 9223372036854775807) (hB : b.length + 1 ≤ 140737488355328)
include T fo fv fx fb hn hr hi63 hB

set_option maxRecDepth 100000 in
set_option maxHeartbeats 4000000 in
theorem do8_any (h0 : dk.tmod 14 = 8) : Calls Tryz.prog 8 #[.pointer (some ⟨g, 0, none⟩), .pointer (some ⟨k, 0, none⟩), .agg #[.int .i64 dk, .int .u32 (o : Nat), .int .u32 (v : Nat), .int .i64 f, .int .i64 i, .int .i64 m, .int .u32 (x : Nat), .slice A n c]] w (Done2 W p g q k (h) (h) (.bool true) w) := by
  have hf := T.live.fit
  have hh := T.live.heads
  have hb0 := (Below.refl w.heap.size w).alloc (Nat.le_refl _) (.cells #[.int .i64 dk, .int .u32 (o : Nat), .int .u32 (v : Nat), .int .i64 f, .int .i64 i, .int .i64 m, .int .u32 (x : Nat), .slice A n c] 33)
  have T0 := Lib.hid (T.after hb0)
  have BX := Lib.hid (Blk.new w 33 #[.int .i64 dk, .int .u32 (o : Nat), .int .u32 (v : Nat), .int .i64 f, .int .i64 i, .int .i64 m, .int .u32 (x : Nat), .slice A n c])
  have HBP := Lib.hid (show ¬ p.has w.heap.size from fun e => by have := T.live.at_.lt e; omega)
  have HBQ := Lib.hid (show ¬ q.has w.heap.size from fun e => by have := T.doc.lt e; omega)
  have HS0 := Lib.hid (Step2.of_below (p := p) (q := q) hb0)
  obtain ⟨l, G⟩ := T.live.good
  obtain ⟨gE, gB⟩ := G.bytes o
  clear T hb0 hr fb
  go_enter Tryz.func8, Tryz.ntmps8
  have HBY := Lib.hid (T0.out.live.bytes o fo)
  unfold BytesP at HBY
  rw [gE] at HBY
  by_cases hz : h.rbE o = 0
  · have hmy := gB hz
    have HTB := Lib.hid hmy
    rw [hz] at HBY
    simp only [if_true] at HBY
    clear gE gB hmy
    go_wp2_with fail
    refine HBY.out.mono ?_
    rintro e w1 ⟨hb1, g1, c1, rfl, rw1, hg1⟩
    have T1 := T0.out.after hb1
    have BX1 := BX.out.below hb1 BX.out.lt
    obtain ⟨c0, c1', c2, c3, c4, c5, c6, c7⟩ := BX1.cells8
    have HT1 := Lib.hid (rbytes_any T1.doc hf (hh := hh) (o := o) (ho := fo))
    rw [T1.hk] at HT1
    have HTT := Lib.hid T1
    have HS1 := Lib.hid (HS0.out.trans (Step2.of_below hb1))
    have HRW := Lib.hid rw1
    clear hb1 T1 BX1 hh rw1 HBY
    unfold ptr at HT1
    have hlen4 : (h.hd (o / 2)).len ≤ 9223372036854775807 := by
      have h1 := (HM.hd_fit hf (o / 2)).size
      unfold Hd.len
      split <;> omega
    generalize hLL : (h.hd (o / 2)).len = LL at *
    have HLL := Lib.hid hLL
    clear hLL hf
    go_wp2_with fail
    refine HT1.out.mono ?_
    rintro e w2 ⟨hb2, hP⟩
    rw [HLL.out] at hP
    have hP2 : ∃ v, e = .returned (.tuple #[v, .int .i64 0]) ∧ w2.ownsRow w1.heap.size 5 1 v LL (u8c (h.bytesN o LL)) := by
      rcases hP with ⟨h1, _⟩ | ⟨_, h1⟩
      · exact absurd hz h1
      · exact h1
    obtain ⟨v2, rfl, hown⟩ := hP2
    obtain ⟨A2, c22, rfl, HR2⟩ := own_reads hown
    have HR2 := Lib.hid HR2
    have HR1 := Lib.hid (show Reads w2 w2.heap.size 1 (some ⟨g1, 0, none⟩) LL (u8c (h.bytesN o LL)) from by
      rw [← HTB.out]
      have := (HRW.out.below hb2).reads ((HRW.out.below hb2).lt)
      exact reads_take this (by have h1 := congrArg List.length HTB.out; rw [List.length_take, HM.bytesN_len] at h1; omega))
    have HT2 := Lib.hid (HTT.out.after hb2)
    have HS2 := Lib.hid (HS1.out.trans (Step2.of_below hb2))
    have HSB := Lib.hid (sameBytes_any (some ⟨g1, 0, none⟩) A2 LL LL LL c22 _ _ w2 hlen4 hlen4 HR1.out HR2.out)
    rw [sameL_self] at HSB
    clear hb2 hP hown c0 c1' c2 c3 c4 c5 c6 c7 HT1
    go_wp2_with fail
    refine HSB.out.mono ?_
    rintro e w3 ⟨rfl, hb3⟩
    have HT3 := Lib.hid (HT2.out.after hb3)
    have HS3 := Lib.hid (HS2.out.trans (Step2.of_below hb3))
    clear hb3
    go_wp2_with fail
    refine (num_any 0 (by decide) _).mono ?_
    rintro e w4 ⟨rfl, rfl⟩
    go_wp2_with fail
    go_ret
    exact ⟨_, _, rfl, HT3.out, HS3.out⟩
  · have hE : h.rbE o < 1000 := by unfold HM.rbE; split <;> (try split) <;> omega
    simp only [hz, if_false] at HBY
    clear gE gB
    go_wp2_with fail
    refine HBY.out.mono ?_
    rintro e w1 ⟨hb1, rfl⟩
    have T1 := T0.out.after hb1
    have BX1 := BX.out.below hb1 BX.out.lt
    obtain ⟨c0, c1', c2, c3, c4, c5, c6, c7⟩ := BX1.cells8
    have HT1 := Lib.hid (rbytes_any T1.doc hf (hh := hh) (o := o) (ho := fo))
    rw [T1.hk] at HT1
    have HTT := Lib.hid T1
    have HS1 := Lib.hid (HS0.out.trans (Step2.of_below hb1))
    clear hb1 T1 BX1 hh HBY hf
    unfold ptr at HT1
    go_wp2_with fail
    refine HT1.out.mono ?_
    rintro e w2 ⟨hb2, hP⟩
    have hP2 : e = .returned (.tuple #[.slice none 0 0, .int .i64 (h.rbE o : Nat)]) := by
      rcases hP with ⟨_, h1⟩ | ⟨h1, _⟩
      · exact h1
      · exact absurd h1 hz
    subst hP2
    have HT2 := Lib.hid (HTT.out.after hb2)
    have HS2 := Lib.hid (HS1.out.trans (Step2.of_below hb2))
    have HSB := Lib.hid (sameBytes_any none none 0 0 0 0 [] [] w2 (by omega) (by omega) Reads.none_ Reads.none_)
    rw [sameL_self] at HSB
    clear hb2 hP c0 c1' c2 c3 c4 c5 c6 c7 HT1 hz
    generalize h.rbE o = E1 at *
    go_wp2_with fail
    refine HSB.out.mono ?_
    rintro e w3 ⟨rfl, hb3⟩
    have HT3 := Lib.hid (HT2.out.after hb3)
    have HS3 := Lib.hid (HS2.out.trans (Step2.of_below hb3))
    clear hb3
    go_wp2_with fail
    refine (num_any _ hE _).mono ?_
    rintro e w4 ⟨rfl, rfl⟩
    go_wp2_with fail
    go_ret
    exact ⟨_, _, rfl, HT3.out, HS3.out⟩

set_option maxRecDepth 100000 in
set_option maxHeartbeats 4000000 in
theorem do1_any (h0 : dk.tmod 14 = 1) : Calls Tryz.prog 8 #[.pointer (some ⟨g, 0, none⟩), .pointer (some ⟨k, 0, none⟩), .agg #[.int .i64 dk, .int .u32 (o : Nat), .int .u32 (v : Nat), .int .i64 f, .int .i64 i, .int .i64 m, .int .u32 (x : Nat), .slice A n c]] w (Done2 W p g q k (h.makeH v b) (h.makeH v b) (.bool true) w) := by
  have hf := T.live.fit
  have hh := T.live.heads
  have hb0 := (Below.refl w.heap.size w).alloc (Nat.le_refl _) (.cells #[.int .i64 dk, .int .u32 (o : Nat), .int .u32 (v : Nat), .int .i64 f, .int .i64 i, .int .i64 m, .int .u32 (x : Nat), .slice A n c] 33)
  have T0 := Lib.hid (T.after hb0)
  have BX := Lib.hid (Blk.new w 33 #[.int .i64 dk, .int .u32 (o : Nat), .int .u32 (v : Nat), .int .i64 f, .int .i64 i, .int .i64 m, .int .u32 (x : Nat), .slice A n c])
  have HBP := Lib.hid (show ¬ p.has w.heap.size from fun e => by have := T.live.at_.lt e; omega)
  have HBQ := Lib.hid (show ¬ q.has w.heap.size from fun e => by have := T.doc.lt e; omega)
  have HS0 := Lib.hid (Step2.of_below (p := p) (q := q) hb0)
  have hbl : b.length = n := by have := hr.1; rw [u8c_len] at this; omega
  have hE := h.makeE_lt' v b
  have hW := T.live.below.size
  have HLP := Lib.hid (show ∀ j, p.has j ∨ q.has j → j < w.heap.size from fun j hj => hj.elim (fun e => T.live.at_.lt e) (fun e => T.doc.lt e))
  obtain ⟨i0, hi0, hz0, hz1, hz2⟩ := info_parts info_u8
  have HR0 := Lib.hid hr
  have HRW := Lib.hid (hr.keep (w' := w.alloc (.cells #[.int .i64 dk, .int .u32 (o : Nat), .int .u32 (v : Nat), .int .i64 f, .int .i64 i, .int .i64 m, .int .u32 (x : Nat), .slice A n c] 33)) (fun a ha => hb0.cell (by omega)))
  clear T hr
  go_enter Tryz.func8, Tryz.ntmps8
  go_upto_region 7 with fail
  generalize hW1 : w.alloc (.cells #[.int .i64 dk, .int .u32 (o : Nat), .int .u32 (v : Nat), .int .i64 f, .int .i64 i, .int .i64 m, .int .u32 (x : Nat), .slice A n c] 33) = W1 at *
  have hW1s : w.heap.size < W1.heap.size := by rw [← hW1]; simp
  clear hW1
  have HRA := Lib.hid ((HRW.out.more (show W.heap.size ≤ W1.heap.size by omega)).alloc (Nat.le_refl _) (.cells #[] 5))
  obtain ⟨c0, c1, c2, c3, c4, c5, c6, c7⟩ := BX.out.cells8
  have HFB := Lib.hid fb
  clear fb
  go_upto_region 8 with (at_builtin; first
    | (refine wpList_append_any _ rfl (.tmp 70) (.tmp 72) _ rfl W1.heap.size 5 i0 _ 1 1 Tryz.underlying31 hi0 hz0 hz1 hz2 rfl (by omega) (.slice (some ⟨W1.heap.size, 0, none⟩) 0 0) 0 [] rfl (owns_empty W1 _) _ A n c (u8c b) rfl HRA.out (one_u8c _) (by simp only [maxLen]; omega) (by omega) (by simp) ?_; intro v1 w3 hown3 hg3 hat3; rw [Nat.zero_add, List.nil_append] at hown3)
    | (refine wpList_append_any _ rfl (.tmp 73) (.tmp 74) _ rfl W1.heap.size 5 i0 _ 1 1 Tryz.underlying31 hi0 hz0 hz1 hz2 rfl (by omega) v1 n _ rfl (hown3.alloc _) (w3.heap.size + 1) (some ⟨w3.heap.size, 0, none⟩) 1 1 (u8c [77]) rfl ⟨rfl, fun _ => ⟨_, rfl, by simp, cell_one_new _ _ _⟩⟩ (one_u8c _) (by simp only [maxLen]; omega) (by omega) (by have := hg3.size; simp at this ⊢; omega) ?_; intro v2 w5 hown5 hg5 hat5; obtain ⟨g2, k2, rfl, rw5, -, hge2⟩ := Row.of_any hown5 (by omega)))
  have hb3 : Below W1.heap.size W1 w3 := ((Below.refl _ _).alloc (Nat.le_refl _) _).grown hg3 (by simp) (fun q hq => by simp [Value.ownBlock] at hq; omega)
  have hb5 : Below W1.heap.size W1 w5 := (hb3.alloc hb3.size _).grown hg5 (by have := hb3.size; simp; omega) (fun q hq => (hown3.lt q hq).1)
  have T5 := T0.out.after (hb5.drew)
  have BX5 := (BX.out.below hb5 BX.out.lt).drew
  have R5 : Row w5.drew g2 5 k2 (u8c b ++ u8c [77]) := rw5
  have HS5 := Lib.hid (HS0.out.trans (Step2.of_below hb5.drew))
  have hng : ¬ p.has g2 ∧ ¬ q.has g2 := ⟨fun e => by have := HLP.out g2 (.inl e); omega, fun e => by have := HLP.out g2 (.inr e); omega⟩
  have hnk : n + 1 ≤ k2 := by
    obtain ⟨cur, _, h1, _⟩ := R5
    rw [List.length_append, u8c_len, u8c_len, hbl] at h1
    simpa using h1
  clear hown3 hg3 hat3 hown5 hg5 hat5 rw5 HRA hi0 hz0 hz1 hz2 hb3 c0 c1 c2 c3 c4 c5 c6 c7
  have HMK := Lib.hid (T5.live.make v fv (some ⟨g2, 0, none⟩) n k2 b hn (by have := R5.shorter.reads R5.lt; rw [u8c_len, hbl] at this; exact this) HFB.out)
  obtain ⟨d0, d1, d2, d3, d4, d5, d6, d7⟩ := BX5.cells8
  have hnc : (n : Int) ≤ (k2 : Int) := by omega
  have hkm : k2 ≤ 9223372036854775807 := by obtain ⟨_, _, _, h1, _⟩ := R5; unfold maxLen at h1; exact h1
  have HT5 := Lib.hid T5
  have HBX5 := Lib.hid BX5
  have HR5 := Lib.hid R5
  clear T5 BX5 R5
  generalize hO1 : h.makeO v b = O1 at *
  generalize hE1 : h.makeE v b = E1 at *
  have HO1 := Lib.hid hO1
  have HE1 := Lib.hid hE1
  clear hO1 hE1
  go_cut [12, 13] (fun z1 z2 wx => z1 = .int .u32 (O1 : Nat) ∧ z2 = .int .i64 (E1 : Nat) ∧ ∃ p6 q6, Two W wx p6 g q6 k (h.makeH v b) h ∧ Step2 p q p6 q6 w wx ∧ Blk wx w.heap.size 33 #[.int .i64 dk, .int .u32 (o : Nat), .int .u32 (v : Nat), .int .i64 f, .int .i64 i, .int .i64 m, .int .u32 (x : Nat), .slice A n c] ∧ Row wx g2 5 k2 (u8c b ++ u8c [77]) ∧ (¬ p6.has w.heap.size ∧ ¬ q6.has w.heap.size) ∧ (¬ p6.has g2 ∧ ¬ q6.has g2))
  case first =>
    go_region_held3 (fun w' => w'.cell? ⟨w.heap.size, 2, none⟩ = some (.int .u32 (v : Nat)) ∧ w'.cell? ⟨w.heap.size, 7, none⟩ = some (.slice A n c))
      (first | exact ⟨d2, d7⟩ | exact ⟨e2, e7⟩ | go_keep)
      (first
        | (go_at_call 24; refine HMK.out.mono ?_; intro e w6 hD; obtain ⟨p6, q6, rfl, T6, s6⟩ := HT5.out.of_done hD; obtain ⟨BX6, hp6, hq6⟩ := HBX5.out.step2 s6 HBP.out HBQ.out; obtain ⟨e0, e1, e2, e3, e4, e5, e6, e7⟩ := BX6.cells8))
    all_goals go_wp2_with fail
    all_goals go_meet
    all_goals exact ⟨rfl, rfl, p6, q6, T6, HS5.out.trans s6, BX6, HR5.out.same (s6.block g2 HR5.out.lt hng.1 hng.2), ⟨hp6, hq6⟩, ⟨fun e => (s6.prows g2 e).elim hng.1 (fun e => by have := HR5.out.lt; omega), fun e => (s6.qrows g2 e).elim hng.2 (fun e => by have := HR5.out.lt; omega)⟩⟩
  case rest =>
    obtain ⟨rfl, rfl, p6, q6, T6, s6, BX6, R6, hnb6, hng6⟩ := hcut
    obtain ⟨c0, c1, c2, c3, c4, c5, c6, c7⟩ := BX6.cells8
    have hlt6 : W.heap.size ≤ wc.heap.size := T6.live.below.size
    have HR6 := Lib.hid (show Reads wc W.heap.size 1 A n (u8c b) from HR0.out.keep fun a ha => World.cell?_of_block (s6.block a.block (by omega) (fun e => by
      have := T0.out.live.new _ e; omega) (fun e => by have := T0.out.qnew _ e; omega)))
    have HDOC := Lib.hid (T6.rmake hf v fv A n c b hn (HR6.out.more hlt6) HFB.out)
    rw [HO1.out, HE1.out] at HDOC
    have HBX6 := Lib.hid BX6
    have HRW6 := Lib.hid R6
    have HS6 := Lib.hid s6
    have HT6 := Lib.hid T6
    clear d0 d1 d2 d3 d4 d5 d6 d7 BX6 R6 s6 T6
    go_wp2_with fail
    refine HDOC.out.mono ?_
    rintro e w7 ⟨p7, q7, rfl, T7, s7⟩
    obtain ⟨BX7, -, -⟩ := HBX6.out.step2 s7 hnb6.1 hnb6.2
    have R7 : Row w7 g2 5 k2 (u8c b ++ u8c [77]) := HRW6.out.same (s7.block g2 HRW6.out.lt hng6.1 hng6.2)
    have RA7 : Reads w7 W.heap.size 1 A n (u8c b) := HT6.out.reads s7 HR6.out (Nat.le_refl _)
    have hlt7 : W.heap.size ≤ w7.heap.size := T7.live.below.size
    have HINV := Lib.hid (fun w' (hb : Below w7.heap.size w7 w') => show w'.cell? ⟨w.heap.size, 7, none⟩ = some (.slice A n c) ∧ w'.cell? ⟨g2, n, none⟩ = some (.int .u8 77) from
      ⟨(BX7.below hb BX7.lt).cell 7, (R7.below hb).cell (by rw [List.getElem?_append_right (by rw [u8c_len]; omega), u8c_len, hbl, Nat.sub_self]; rfl)⟩)
    have HSB := Lib.hid (fun w' (hb : Below w7.heap.size w7 w') => show Calls Tryz.prog 31 #[.slice (some ⟨g2, 0, none⟩) n k2, .slice A n c] w' (Told (.bool true) w') from by
      have := sameBytes_any (some ⟨g2, 0, none⟩) A n n k2 c b b w' hn hn (by have := (R7.below hb).shorter.reads (R7.below hb).lt; rw [u8c_len, hbl] at this; exact this) ((RA7.keep fun a ha => hb.cell (by omega)).more (by have := hb.size; omega))
      rw [sameL_self] at this
      exact this)
    have HT7 := Lib.hid T7
    have HS7 := Lib.hid (HS6.out.trans s7)
    have hB0 : Below w7.heap.size w7 w7.drew := below_drew (Below.refl _ _)
    have hlt3 : (n : Int) < ((n + 1 : Nat) : Int) := by omega
    have hlt4 : (n : Int) < (n : Int) + 1 := by omega
    clear T7 s7 BX7 R7 RA7 c0 c1 c2 c3 c4 c5 c6 c7 HDOC HBX6 HRW6 hnb6 hng6
    have hOO : ((O1 : Int) == (O1 : Int)) = true := by simp
    have hEE : ((E1 : Int) == (E1 : Int)) = true := by simp
    go_upto_region 10 with fail
    go_region_held3 (fun w' => w'.cell? ⟨w.heap.size, 7, none⟩ = some (.slice A n c) ∧ w'.cell? ⟨g2, n, none⟩ = some (.int .u8 77))
      (first | exact HINV.out _ (by assumption) | go_keep)
      (first
        | (go_at_call 20; refine (num_any _ hE _).mono ?_; rintro e w8 ⟨rfl, rfl⟩)
        | (go_at_call 31; refine (HSB.out _ (by assumption)).mono ?_; rintro e w9 ⟨rfl, hb9⟩; have hB9 := below_top (by assumption) hb9))
    all_goals go_wp2_with fail
    all_goals go_ret
    all_goals exact ⟨p7, q7, rfl, HT7.out.after (by assumption), HS7.out.trans (Step2.of_below (by assumption))⟩

set_option maxRecDepth 100000 in
set_option maxHeartbeats 4000000 in
theorem do_ask_any (h0 : dk.tmod 14 ≠ 0) (h1 : dk.tmod 14 ≠ 1) (h2 : dk.tmod 14 ≠ 2) (h3 : dk.tmod 14 ≠ 3) (h4 : dk.tmod 14 ≠ 4) (h5 : dk.tmod 14 ≠ 5) (h6 : dk.tmod 14 ≠ 6) (h7 : dk.tmod 14 ≠ 7) (h8 : dk.tmod 14 ≠ 8) (h9 : dk.tmod 14 ≠ 9) (h10 : dk.tmod 14 ≠ 10) :
    Calls Tryz.prog 8 #[.pointer (some ⟨g, 0, none⟩), .pointer (some ⟨k, 0, none⟩), .agg #[.int .i64 dk, .int .u32 (o : Nat), .int .u32 (v : Nat), .int .i64 f, .int .i64 i, .int .i64 m, .int .u32 (x : Nat), .slice A n c]] w (Done2 W p g q k h h (.bool true) w) := by
  have hf := T.live.fit
  have hh := T.live.heads
  have hb0 := (Below.refl w.heap.size w).alloc (Nat.le_refl _) (.cells #[.int .i64 dk, .int .u32 (o : Nat), .int .u32 (v : Nat), .int .i64 f, .int .i64 i, .int .i64 m, .int .u32 (x : Nat), .slice A n c] 33)
  have T0 := Lib.hid (T.after hb0)
  have BX := Lib.hid (Blk.new w 33 #[.int .i64 dk, .int .u32 (o : Nat), .int .u32 (v : Nat), .int .i64 f, .int .i64 i, .int .i64 m, .int .u32 (x : Nat), .slice A n c])
  have HBP := Lib.hid (show ¬ p.has w.heap.size from fun e => by have := T.live.at_.lt e; omega)
  have HBQ := Lib.hid (show ¬ q.has w.heap.size from fun e => by have := T.doc.lt e; omega)
  have HS0 := Lib.hid (Step2.of_below (p := p) (q := q) hb0)
  have HAK := Lib.hid (ask_any T0.out dk o v f i m x fo fx A n c)
  clear T hb0 hr fb hf hh
  go_enter Tryz.func8, Tryz.ntmps8
  go_wp2_with fail
  refine HAK.out.mono ?_
  rintro e w1 ⟨p1, q1, rfl, T1, s1⟩
  have HT1 := Lib.hid T1
  have HS1 := Lib.hid (HS0.out.trans s1)
  clear T1 s1
  go_wp2_with fail
  go_ret
  exact ⟨p1, q1, rfl, HT1.out, HS1.out⟩

/-- Each deed: the two answer the same, and both heaps are as the deed leaves them. -/
theorem do_any : Calls Tryz.prog 8 #[.pointer (some ⟨g, 0, none⟩), .pointer (some ⟨k, 0, none⟩), .agg #[.int .i64 dk, .int .u32 (o : Nat), .int .u32 (v : Nat), .int .i64 f, .int .i64 i, .int .i64 m, .int .u32 (x : Nat), .slice A n c]] w
    (Done2 W p g q k (h.actH ⟨dk, o, v, f, i, m, x, b⟩) (h.actH ⟨dk, o, v, f, i, m, x, b⟩) (.bool true) w) := by
  have hr1 := hr.more T.live.below.size
  by_cases h0 : dk.tmod 14 = 0
  · rw [show h.actH ⟨dk, o, v, f, i, m, x, b⟩ = h.AllocH v f m by simp [HM.actH, Dd.what, h0]]
    exact do0_any T dk o v f i m x b fo fv fx fb A n c hn hr1 hi63 h0
  by_cases h1 : dk.tmod 14 = 1
  · rw [show h.actH ⟨dk, o, v, f, i, m, x, b⟩ = h.makeH v b by simp [HM.actH, Dd.what, h1]]
    exact do1_any T dk o v f i m x b fo fv fx fb A n c hn hr hi63 hB h1
  by_cases h3 : dk.tmod 14 = 3
  · rw [show h.actH ⟨dk, o, v, f, i, m, x, b⟩ = h.putH o i v by simp [HM.actH, Dd.what, h3]]
    exact do3_any T dk o v f i m x b fo fv fx fb A n c hn hr1 hi63 h3
  by_cases h5 : dk.tmod 14 = 5
  · rw [show h.actH ⟨dk, o, v, f, i, m, x, b⟩ = h.setWordH o i x by simp [HM.actH, Dd.what, h5]]
    exact do5_any T dk o v f i m x b fo fv fx fb A n c hn hr1 hi63 h5
  by_cases h7 : dk.tmod 14 = 7
  · rw [show h.actH ⟨dk, o, v, f, i, m, x, b⟩ = h.setByteH o i (x % 256) by simp [HM.actH, Dd.what, h7]]
    exact do7_any T dk o v f i m x b fo fv fx fb A n c hn hr1 hi63 h7
  by_cases h9 : dk.tmod 14 = 9
  · rw [show h.actH ⟨dk, o, v, f, i, m, x, b⟩ = h.setClassH o v by simp [HM.actH, Dd.what, h9]]
    exact do9_any T dk o v f i m x b fo fv fx fb A n c hn hr1 hi63 h9
  by_cases h10 : dk.tmod 14 = 10
  · rw [show h.actH ⟨dk, o, v, f, i, m, x, b⟩ = h.setRootH i v by simp [HM.actH, Dd.what, h10]]
    exact do10_any T dk o v f i m x b fo fv fx fb A n c hn hr1 hi63 h10
  rw [show h.actH ⟨dk, o, v, f, i, m, x, b⟩ = h by simp [HM.actH, Dd.what, h0, h1, h3, h5, h7, h9, h10]]
  by_cases h2 : dk.tmod 14 = 2
  · exact do2_any T dk o v f i m x b fo fv fx fb A n c hn hr1 hi63 h2
  by_cases h4 : dk.tmod 14 = 4
  · exact do4_any T dk o v f i m x b fo fv fx fb A n c hn hr1 hi63 h4
  by_cases h6 : dk.tmod 14 = 6
  · exact do6_any T dk o v f i m x b fo fv fx fb A n c hn hr1 hi63 h6
  by_cases h8 : dk.tmod 14 = 8
  · exact do8_any T dk o v f i m x b fo fv fx fb A n c hn hr hi63 hB h8
  · exact do_ask_any T dk o v f i m x b fo fv fx fb A n c hn hr hi63 hB h0 h1 h2 h3 h4 h5 h6 h7 h8 h9 h10
end
end Go.Proofs.YtkpjkbkglnabiaaGreatDoor

namespace Go.Proofs.YtkpjkbkglnabiaaGreatDoor
open Go.RowKit
attribute [local go_sem] Oper.semAt_some

theorem both_bad (n : Int) (h : n < 64 ∨ 1048576 < n) (w : World) : Calls Tryz.prog 6 #[.int .i64 n] w (Told (.tuple #[.pointer none, .pointer none, .bool false]) w) := by
  have HN := Lib.hid (new_bad n h w)
  have HRN := Lib.hid (fun w' => rnew_bad n h w')
  go_enter Tryz.func6, Tryz.ntmps6
  go_wp2_with fail
  refine HN.out.mono ?_
  rintro e w1 ⟨rfl, rfl⟩
  go_wp2_with fail
  refine (HRN.out _).mono ?_
  rintro e w2 ⟨rfl, rfl⟩
  go_wp2_with fail
  go_ret3
  exact ⟨rfl, Below.refl _ _⟩
/-- What both gives. -/
theorem Two.of_both {W w' : World} {n : Nat} {d : Ending} (E : Env W) (h1 : 64 ≤ n) (h2 : n ≤ 1048576) (H : BothP n W d w') :
    ∃ p q g k, d = .returned (.tuple #[.pointer (some ⟨g, 0, none⟩), .pointer (some ⟨k, 0, none⟩), .bool true]) ∧ Two W w' p g q k (HM.new n) (HM.new n) ∧ Below W.heap.size W w' := by
  obtain ⟨p, q, rfl, H1, R1, hp, hq, hb⟩ := H
  exact ⟨p, q, p.g, q.g, rfl, ⟨⟨H1, rfl, ⟨[], HM.new_good h1 h2 (HM.new_fit h1 h2)⟩, E, hp, hb⟩, R1, rfl, fun j hj => (hq j hj).1, fun j hj => (hq j hj).2⟩, hb⟩
/-- What a deed's numbers and bytes may be. -/
def Dd.Ok2 (d : Dd) : Prop := d.i ≤ 9223372036854775807 ∧ d.b.length + 1 ≤ 140737488355328
/-- A deed with both, by its record. -/
theorem Two.do {W w : World} {p q : HP} {g k : Nat} {h : HM} (T : Two W w p g q k h h) (d : Dd) (fd : d.Fit) (ok : d.Ok2) (A : Option Addr) (n c : Nat) (hn : n ≤ 9223372036854775807) (hr : Reads w W.heap.size 1 A n (u8c d.b)) :
    Calls Tryz.prog 8 #[.pointer (some ⟨g, 0, none⟩), .pointer (some ⟨k, 0, none⟩), d.val A n c] w (Done2 W p g q k (h.actH d) (h.actH d) (.bool true) w) :=
  do_any T d.k d.o d.v d.f d.i d.n d.w d.b fd.o fd.v fd.w fd.b A n c hn hr ok.1 ok.2
theorem like2 {W w : World} {p q : HP} {g k : Nat} {h : HM} (T : Two W w p g q k h h) : Calls Tryz.prog 11 #[.pointer (some ⟨g, 0, none⟩), .pointer (some ⟨k, 0, none⟩)] w (Told (.bool true) w) := by
  have := like_any T.live T.doc
  rw [T.hk] at this
  exact this
theorem Two.rtop {W w : World} {p q : HP} {g k : Nat} {a b : HM} (T : Two W w p g q k a b) (f : b.Fit) : Calls Tryz.prog 10 #[.pointer (some ⟨k, 0, none⟩)] w (Said (.int .i64 (b.words.length : Nat)) w) := by
  have := rtop_any T.doc (by have := f.room; have := f.hi; omega)
  rw [T.hk] at this
  exact this

set_option maxRecDepth 100000 in
set_option maxHeartbeats 4000000 in
theorem does_any (W : World) (E : Env W) (n : Int) (A : Option Addr) (nd c : Nat) (ds : List Dd) (hnd : nd ≤ 9223372036854775807) (hl : ds.length = nd) (hds : DeedsAt W W.heap.size A ds) (hok : ∀ d ∈ ds, d.Ok2) :
    Calls Tryz.prog 3 #[.int .i64 n, .slice A nd c] W (Told (.bool true) W) := by
  have HE := Lib.hid E
  by_cases hb : n < 64 ∨ 1048576 < n
  · have HB := Lib.hid (both_bad n hb W)
    clear hb E hds hok
    go_enter Tryz.func3, Tryz.ntmps3
    go_wp2_with fail
    refine HB.out.mono ?_
    rintro e w1 ⟨rfl, hb1⟩
    have HA := Lib.hid (awake_any w1 (HE.out.below hb1))
    have HB1 := Lib.hid hb1
    clear hb1
    go_wp2_with fail
    refine HA.out.mono ?_
    rintro e w2 ⟨rfl, hb2⟩
    have HB2 := Lib.hid (below_top HB1.out hb2)
    clear hb2
    go_wp2_with fail
    go_ret
    exact ⟨rfl, HB2.out⟩
  · obtain ⟨s, rfl⟩ := Int.eq_ofNat_of_zero_le (show 0 ≤ n by omega)
    have h1 : 64 ≤ s := by omega
    have h2 : s ≤ 1048576 := by omega
    have HB := Lib.hid (both_any s h1 h2 W)
    have HD := Lib.hid hds
    have HOK := Lib.hid hok
    have HL := Lib.hid hl
    clear hb E hds hok hl
    go_enter Tryz.func3, Tryz.ntmps3
    go_wp2_with fail
    refine HB.out.mono ?_
    intro e w1 hB
    obtain ⟨p, q, g, k, rfl, T, hb1⟩ := Two.of_both HE.out h1 h2 hB
    have HT0 := Lib.hid T
    clear hB T hb1 HB
    go_wp2_with fail
    go_loopw [8] (fun i wr => ∃ j : Nat, j ≤ nd ∧ i = .int .i64 j ∧ ∃ pj qj, Two W wr pj g qj k ((HM.new s).runH (ds.take j)) ((HM.new s).runH (ds.take j))) (fun i _ => nd - (intOf i).toNat)
    case atStart => exact ⟨0, by omega, rfl, p, q, HT0.out⟩
    case round =>
      clear HT0
      obtain ⟨j, hj, rfl, pj, qj, Tj⟩ := hrel
      by_cases hlt : j < nd
      · have hD1 := HD.out.below Tj.live.below
        obtain ⟨d, hd⟩ : ∃ d, ds[j]? = some d := ⟨ds[j]'(by rw [HL.out]; exact hlt), List.getElem?_eq_getElem _⟩
        obtain ⟨ad, Ab, nb, cb, rfl, had, hnb, hRb, l0, l1, l2, l3, l4, l5, l6, l7⟩ := hD1.load hd
        have HDO := Lib.hid (Tj.do d (HD.out.fit d (List.mem_of_getElem? hd)) (HOK.out d (List.mem_of_getElem? hd)) Ab nb cb hnb hRb)
        have HHS := Lib.hid (HM.runH_snoc (HM.new s) (ds.take j) d)
        rw [← take_snoc hd] at HHS
        rw [← HHS.out] at HDO
        unfold Dd.val at HDO
        clear Tj hD1 hRb hd HD HHS
        go_wp2_with fail
        refine HDO.out.mono ?_
        rintro e w2 ⟨p2, q2, rfl, T2, s2⟩
        have HTP := Lib.hid T2.live.top
        have HTQ := Lib.hid (T2.rtop T2.live.fit)
        have HT2 := Lib.hid T2
        clear T2 s2 HDO l0 l1 l2 l3 l4 l5 l6 l7
        go_wp2_with fail
        refine HTP.out.mono ?_
        rintro e w3 ⟨rfl, rfl⟩
        go_wp2_with fail
        refine HTQ.out.mono ?_
        rintro e w3 ⟨rfl, rfl⟩
        go_wp2_with fail
        go_roundw
        case rel => exact ⟨j + 1, by omega, by go_num, p2, q2, HT2.out⟩
        case measure => simp [intOf]; omega
      · obtain rfl : j = nd := by omega
        have HLK := Lib.hid (like2 Tj)
        have HBW := Lib.hid Tj.live.below
        clear Tj HD
        go_wp2_with fail
        refine HLK.out.mono ?_
        rintro e w2 ⟨rfl, hb2⟩
        have HB2 := Lib.hid (below_top HBW.out hb2)
        clear hb2
        go_wp2_with fail
        go_ret
        exact ⟨rfl, HB2.out⟩
end Go.Proofs.YtkpjkbkglnabiaaGreatDoor
