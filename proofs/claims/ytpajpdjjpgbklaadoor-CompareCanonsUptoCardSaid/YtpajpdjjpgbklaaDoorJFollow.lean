/- Follow: from an oop along fields. -/
/- The document's rows of objects that were met; its graph in memory. -/
/- The document's put: an oop that is met. -/
/- The document's pair: two values that are met on two walks. -/
import Derived.Test.YtpajpdjjpgbklaaDoorJRefE
import Derived.Test.YtpajpdjjpgbklaaDoorJCmpC
import Derived.Test.YtpajpdjjpgbklaaDoorJMapIs
import Derived.Test.YtpajpdjjpgbklaaDoorJLive
import Derived.Test.YtpajpdjjpgbklaaDoorJOop
set_option linter.unusedVariables false
set_option linter.unusedSimpArgs false
set_option linter.unusedSectionVars false
namespace Go.Proofs.YtpajpdjjpgbklaaDoor
open Go.RowKit
attribute [local go_sem] Oper.semAt_some

def intZ (l : List Int) : List Value := l.map (.int .i64 ·)
theorem intZ_len (l : List Int) : (intZ l).length = l.length := by simp [intZ]
theorem intZ_get {l : List Int} {k : Nat} (h : k < l.length) : (intZ l)[k]? = some (.int .i64 (l.getD k 0)) := by
  unfold intZ; rw [List.getElem?_map, List.getElem?_eq_getElem h, List.getD_eq_getElem?_getD, List.getElem?_eq_getElem h]; rfl
/-- Where a way leads, the error's number. -/
def HM.followS (h : HM) : Nat → List Int → Nat × Nat
  | o, [] => (o, 0)
  | o, i :: is => if h.isB o = false then (0, 3) else if i = -1 then h.followS (h.hd (o / 2)).cls is else if h.lookE o i [1, 4] = 0 then h.followS (fw h o i.toNat) is else (0, h.lookE o i [1, 4])
def HM.followM (h : HM) (o : Nat) (path : List Int) : Nat × Nat := if h.fitsB [o] then h.followS o path else (0, 3)
theorem drop_at {l : List Int} {k : Nat} (h : k < l.length) : l.drop k = l.getD k 0 :: l.drop (k + 1) := by
  rw [List.drop_eq_getElem_cons h, List.getD_eq_getElem?_getD, List.getElem?_eq_getElem h]; rfl
theorem followS_no {h : HM} {o : Nat} (hi : h.isB o = false) (i : Int) (is : List Int) : h.followS o (i :: is) = (0, 3) := by unfold HM.followS; rw [if_pos hi]
theorem followS_cls {h : HM} {o : Nat} (hi : h.isB o = true) (is : List Int) : h.followS o (-1 :: is) = h.followS (h.hd (o / 2)).cls is := by
  conv => lhs; unfold HM.followS
  rw [if_neg (by simp [hi]), if_pos rfl]
theorem followS_get {h : HM} {o : Nat} (hi : h.isB o = true) {i : Int} (h1 : i ≠ -1) (he : h.lookE o i [1, 4] = 0) (is : List Int) : h.followS o (i :: is) = h.followS (fw h o i.toNat) is := by
  conv => lhs; unfold HM.followS
  rw [if_neg (by simp [hi]), if_neg h1, if_pos he]
theorem followS_err {h : HM} {o : Nat} (hi : h.isB o = true) {i : Int} (h1 : i ≠ -1) (he : h.lookE o i [1, 4] ≠ 0) (is : List Int) : h.followS o (i :: is) = (0, h.lookE o i [1, 4]) := by
  unfold HM.followS; rw [if_neg (by simp [hi]), if_neg h1, if_neg he]
set_option maxRecDepth 100000 in
set_option maxHeartbeats 4000000 in
theorem follow_any {w : World} {p : HP} {h : HM} (H : HAt w p h) (f : h.Fit) (hh : h.Heads) (hs : Spares w) (o : Nat) (ho : o < 4294967296) (A : Option Addr) (n c : Nat) (path : List Int) (hn : n ≤ 9223372036854775807) (hr : Reads w w.heap.size 1 A n (intZ path)) :
    Calls Tryd.prog 17 #[ptr p.g, .int .u32 o, .slice A n c] w (Told (.tuple #[.int .u32 ((h.followM o path).1 : Nat), .int .i64 ((h.followM o path).2 : Nat)]) w) := by
  have hl : path.length = n := by have := hr.1; rw [intZ_len] at this; omega
  have HL := Lib.hid hl; have HR := Lib.hid hr; have HH := Lib.hid H
  have hb0 : Below w.heap.size w (w.alloc (.cells #[.int .u32 o] 50)) := (Below.refl _ _).alloc (Nat.le_refl _) _
  have HFT := Lib.hid (cfits_any (HH.out.below hb0) f (some ⟨w.heap.size, 0, none⟩) 1 1 [o] (by omega) ⟨rfl, fun _ => ⟨_, rfl, by simp, cell_one_new _ _ _⟩⟩ (fun x hx => by simp at hx; omega))
  have HB0 := Lib.hid hb0
  clear hl hr H hb0
  unfold ptr at HFT
  unfold ptr
  cases hfit : h.fitsB [o]
  · have HF := Lib.hid (show h.followM o path = (0, 3) by unfold HM.followM; rw [hfit]; rfl)
    rw [hfit] at HFT
    clear hfit
    go_enter Tryd.func17, Tryd.ntmps17
    go_wp2_with fail
    refine HFT.out.mono ?_
    rintro e w1 ⟨rfl, hb1⟩
    have HB1 := Lib.hid (below_top HB0.out hb1)
    go_wp2_with fail
    go_ret2
    exact ⟨by rw [HF.out]; rfl, HB1.out⟩
  · have HF := Lib.hid (show h.followM o path = h.followS o path by unfold HM.followM; rw [hfit]; rfl)
    rw [hfit] at HFT
    clear hfit
    go_enter Tryd.func17, Tryd.ntmps17
    go_wp2_with fail
    refine HFT.out.mono ?_
    rintro e w1 ⟨rfl, hb1⟩
    have HB1 := Lib.hid (below_top HB0.out hb1)
    clear HFT HB0 hb1
    go_wp2_with fail
    go_loopw [1, 19] (fun v i wr => ∃ (k q : Nat), k ≤ n ∧ i = .int .i64 k ∧ v = .int .u32 (q : Nat) ∧ q < 4294967296 ∧ h.followS q (path.drop k) = h.followS o path ∧ Below w.heap.size w wr) (fun _ i _ => n - (intOf i).toNat)
    case atStart => exact ⟨0, o, by omega, rfl, rfl, ho, rfl, HB1.out⟩
    case round =>
      clear HB1
      obtain ⟨k, q, hk, rfl, rfl, hq, hfo, hb⟩ := hrel
      have HFO := Lib.hid hfo
      have HB := Lib.hid hb
      by_cases hlt : k < n
      · obtain ⟨ad, u0, rfl, _, hx, hcell⟩ := (HR.out.below hb).at_ hlt
        have hkl : k < path.length := by rw [HL.out]; exact hlt
        rw [intZ_get hkl] at hx
        injection hx with hx
        subst hx
        have HDR := Lib.hid (drop_at hkl)
        have HHD := Lib.hid (Header_any (HH.out.below hb) f hh (hs.below hb) q hq)
        have HGT := Lib.hid (fun w' (hb' : Below w.heap.size w w') => get_any (HH.out.below hb') f hh (hs.below hb') q hq (path.getD k 0))
        generalize path.getD k 0 = x at *
        unfold ptr at HHD HGT
        clear hfo hb hkl
        cases hi : h.isB q
        · rw [show h.headerV q = .tuple #[.agg #[.int .i64 0, .int .i64 0, .int .i64 0, .int .u32 0, .int .u32 0], .int .i64 3] by simp [HM.headerV, hi]] at HHD
          have HNO := Lib.hid (show h.followS o path = (0, 3) by rw [← HFO.out, HDR.out, followS_no hi])
          clear hi
          go_wp2_with fail
          refine HHD.out.mono ?_
          rintro e w2 ⟨rfl, hb2⟩
          have HB2 := Lib.hid ((below_top HB.out hb2).alloc (below_top HB.out hb2).size (.cells #[.int .i64 0, .int .i64 0, .int .i64 0, .int .u32 0, .int .u32 0] 55))
          go_wp2_with fail
          go_ret2
          exact ⟨by rw [HF.out, HNO.out]; rfl, HB2.out⟩
        · rw [show h.headerV q = .tuple #[.agg #[.int .i64 (h.hd (q / 2)).size, .int .i64 (h.hd (q / 2)).fmt, .int .i64 (h.hd (q / 2)).spare, .int .u32 (h.hd (q / 2)).cls, .int .u32 (h.hd (q / 2)).ser], .int .i64 0] by unfold HM.headerV; rw [hi]; rfl] at HHD
          have hcl := (HM.hd_fit f (q / 2)).cls
          by_cases h1 : x = -1
          · subst h1
            have HNX := Lib.hid (show h.followS (h.hd (q / 2)).cls (path.drop (k + 1)) = h.followS o path by rw [← HFO.out, HDR.out, followS_cls hi])
            clear hi
            generalize h.hd (q / 2) = X at *
            go_wp2_with fail
            refine HHD.out.mono ?_
            rintro e w2 ⟨rfl, hb2⟩
            have HB2 := Lib.hid ((below_top HB.out hb2).alloc (below_top HB.out hb2).size (.cells #[.int .i64 X.size, .int .i64 X.fmt, .int .i64 X.spare, .int .u32 X.cls, .int .u32 X.ser] 55))
            go_wp2_with fail
            go_roundw
            case rel => exact ⟨k + 1, X.cls, by omega, by go_num, rfl, hcl, HNX.out, HB2.out⟩
            case measure => simp [intOf]; omega
          · have e1 : (x == -1) = false := by simpa using h1
            by_cases he : h.lookE q x [1, 4] = 0
            · have HNX := Lib.hid (show h.followS (fw h q x.toNat) (path.drop (k + 1)) = h.followS o path by rw [← HFO.out, HDR.out, followS_get hi h1 he])
              have hfw := (show fw h q x.toNat < 4294967296 from f.w _)
              unfold HM.readV at HGT
              rw [he] at HGT
              clear hi h1 he
              generalize h.hd (q / 2) = X at *
              generalize fw h q x.toNat = y at *
              go_wp2_with fail
              refine HHD.out.mono ?_
              rintro e w2 ⟨rfl, hb2⟩
              have HB2 := Lib.hid ((below_top HB.out hb2).alloc (below_top HB.out hb2).size (.cells #[.int .i64 X.size, .int .i64 X.fmt, .int .i64 X.spare, .int .u32 X.cls, .int .u32 X.ser] 55))
              have HG := Lib.hid (HGT.out _ HB2.out)
              clear HGT
              go_wp2_with fail
              refine HG.out.mono ?_
              rintro e w3 ⟨rfl, hb3⟩
              have HB3 := Lib.hid (below_top HB2.out hb3)
              go_wp2_with fail
              go_roundw
              case rel => exact ⟨k + 1, y, by omega, by go_num, rfl, hfw, HNX.out, HB3.out⟩
              case measure => simp [intOf]; omega
            · have HNX := Lib.hid (show h.followS o path = (0, h.lookE q x [1, 4]) by rw [← HFO.out, HDR.out, followS_err hi h1 he])
              have hel := HM.lookE_lt h q x [1, 4]
              unfold HM.readV at HGT
              have e2 : ((h.lookE q x [1, 4] : Int) != 0) = true := by simp; omega
              rw [if_neg he] at HGT
              clear hi h1
              generalize h.hd (q / 2) = X at *
              generalize h.lookE q x [1, 4] = E at *
              go_wp2_with fail
              refine HHD.out.mono ?_
              rintro e w2 ⟨rfl, hb2⟩
              have HB2 := Lib.hid ((below_top HB.out hb2).alloc (below_top HB.out hb2).size (.cells #[.int .i64 X.size, .int .i64 X.fmt, .int .i64 X.spare, .int .u32 X.cls, .int .u32 X.ser] 55))
              have HG := Lib.hid (HGT.out _ HB2.out)
              clear HGT
              go_wp2_with fail
              refine HG.out.mono ?_
              rintro e w3 ⟨rfl, hb3⟩
              have HB3 := Lib.hid (below_top HB2.out hb3)
              go_wp2_with fail
              go_ret2
              exact ⟨by rw [HF.out, HNX.out]; rfl, HB3.out⟩
      · obtain rfl : k = n := by omega
        have HEN := Lib.hid (show h.followS o path = (q, 0) by
          rw [← hfo, List.drop_eq_nil_of_le (by rw [HL.out]; exact Nat.le_refl _)]; rfl)
        clear hfo hb
        go_wp2_with fail
        go_ret2
        exact ⟨by rw [HF.out, HEN.out]; rfl, HB.out⟩
end Go.Proofs.YtpajpdjjpgbklaaDoor

namespace Go.Proofs.YtpajpdjjpgbklaaDoor
open Go.RowKit Go.Maps
attribute [local go_sem] Oper.semAt_some

theorem info_met : (Tryd.prog.info? 108).map (fun i => (i.zero, i.size, i.bytes)) = some (some (.agg #[.int .u32 0, .int .i64 0, .int .i64 0, .int .i64 0]), 4, 32) := by kernel_rfl
theorem intTyI : MapTyI 103 3 := ⟨Tryd.underlying103, Tryd.underlying3⟩
def metV (n : Nd) : List Value := [.int .u32 (n.o : Nat), .int .i64 n.par, .int .i64 n.fld, .int .i64 (n.deep : Nat)]
def mets (l : List Nd) : List Value := l.flatMap metV
theorem mets_len (l : List Nd) : (mets l).length = l.length * 4 := by
  induction l with
  | nil => rfl
  | cons a l ih =>
    unfold mets at *
    rw [List.flatMap_cons, List.length_append, ih]
    simp [metV]; omega
theorem mets_snoc (l : List Nd) (n : Nd) : mets (l ++ [n]) = mets l ++ metV n := by simp [mets]
theorem mets_one (l : List Nd) : ∀ u ∈ mets l, u.oneCell' = true := by
  intro u hu
  unfold mets at hu
  obtain ⟨n, _, hn⟩ := List.mem_flatMap.1 hu
  simp [metV] at hn
  rcases hn with rfl | rfl | rfl | rfl <;> rfl
theorem mets_get : ∀ (l : List Nd) (i j : Nat), i < l.length → j < 4 → (mets l)[i * 4 + j]? = (metV (l.getD i default))[j]?
  | [], i, j, hi, hj => by simp at hi
  | a :: l, 0, j, hi, hj => by
    unfold mets
    rw [List.flatMap_cons, List.getElem?_append_left (by simp [metV]; omega)]
    simp
  | a :: l, i + 1, j, hi, hj => by
    have ih := mets_get l i j (by simpa using hi) hj
    unfold mets at *
    rw [List.flatMap_cons, List.getElem?_append_right (by simp [metV]; omega)]
    rw [show (i + 1) * 4 + j - (metV a).length = i * 4 + j by simp [metV]; omega, ih]
    simp
section
variable {w w' : World} {base s n : Nat} {e : TypeId} {v : Value} {xs : List Value}
theorem own_sameS (h : w.ownsRow base e s v n xs) (hs : ∀ k, v.ownBlock = some k → w'.heap[k]? = w.heap[k]?) : w'.ownsRow base e s v n xs := by
  refine ⟨h.1, ?_⟩
  rcases h.2 with h1 | ⟨g, cap, cur, h1, h2, h3, h4⟩
  · exact .inl h1
  · exact .inr ⟨g, cap, cur, h1, h2, (hs g (by rw [h1]; rfl)).trans h3, h4⟩
theorem own_ne_blkS {t : TypeId} {g : Nat} {cs : Array Value} (h : w.ownsRow base e s v n xs) (b : Blk w g t cs) (hne : e ≠ t) : v.ownBlock ≠ some g := by
  intro hk
  rcases h.2 with ⟨rfl, _⟩ | ⟨g', cap, cur, rfl, h2, h3, h4⟩
  · simp [Value.ownBlock] at hk
  · simp [Value.ownBlock] at hk
    subst hk
    unfold Blk at b
    rw [h3] at b
    injection b with b
    injection b with _ h5
    exact hne h5
theorem own_ne_mapI {b n' : Nat} {K : TypeId} {f : Nat → Nat} (h : w.ownsRow base e s v n xs) (m : MapInt K w b n' f) : v.ownBlock ≠ some b := by
  intro hk
  obtain ⟨D, _, ⟨es, clock, hb, r⟩, _⟩ := m
  rcases h.2 with ⟨rfl, _⟩ | ⟨g', cap, cur, rfl, h2, h3, h4⟩
  · simp [Value.ownBlock] at hk
  · simp [Value.ownBlock] at hk
    subst hk
    rw [h3] at hb
    injection hb with hb
    cases hb
end
/-- A row of those that were met lies in memory. -/
def MetsAt (w : World) (B : Nat) (A : Option Addr) (l : List Nd) : Prop := ∀ i, i < l.length → ∃ ad, A = some ad ∧ ad.block < B ∧ ∀ j v, (metV (l.getD i default))[j]? = some v → w.cell? (ad.add (i * 4 + j)) = some v
theorem MetsAt.keep {w w' : World} {B : Nat} {A : Option Addr} {l : List Nd} (h : MetsAt w B A l) (hk : ∀ q : Addr, q.block < B → w'.cell? q = w.cell? q) : MetsAt w' B A l := by
  intro i hi
  obtain ⟨ad, h1, h2, h3⟩ := h i hi
  exact ⟨ad, h1, h2, fun j v hv => (hk _ (by rw [block_of_add]; exact h2)).trans (h3 j v hv)⟩
theorem MetsAt.below {w w' : World} {B : Nat} {A : Option Addr} {l : List Nd} (h : MetsAt w B A l) (hb : Below B w w') : MetsAt w' B A l := h.keep fun _ hq => hb.cell hq
theorem MetsAt.more {w : World} {B B' : Nat} {A : Option Addr} {l : List Nd} (h : MetsAt w B A l) (hB : B ≤ B') : MetsAt w B' A l := fun i hi => by
  obtain ⟨ad, h1, h2, h3⟩ := h i hi
  exact ⟨ad, h1, Nat.lt_of_lt_of_le h2 hB, h3⟩
theorem MetsAt.load {w : World} {B : Nat} {A : Option Addr} {l : List Nd} (h : MetsAt w B A l) {i : Nat} (hi : i < l.length) :
    ∃ ad, A = some ad ∧ ad.block < B ∧ w.cell? (ad.add (i * 4)) = some (.int .u32 ((l.getD i default).o : Nat)) ∧ w.cell? ⟨(ad.add (i * 4)).block, (ad.add (i * 4)).off + 1, none⟩ = some (.int .i64 (l.getD i default).par) ∧
      w.cell? ⟨(ad.add (i * 4)).block, (ad.add (i * 4)).off + 2, none⟩ = some (.int .i64 (l.getD i default).fld) ∧ w.cell? ⟨(ad.add (i * 4)).block, (ad.add (i * 4)).off + 3, none⟩ = some (.int .i64 ((l.getD i default).deep : Nat)) := by
  obtain ⟨ad, h1, h2, h5⟩ := h i hi
  have h6 : ∀ j v, 0 < j → (metV (l.getD i default))[j]? = some v → w.cell? ⟨(ad.add (i * 4)).block, (ad.add (i * 4)).off + j, none⟩ = some v := fun j v hj hv =>
    cell_add (by rw [add_of_add]; exact h5 j v hv) hj
  exact ⟨ad, h1, h2, h5 0 _ rfl, h6 1 _ (by omega) rfl, h6 2 _ (by omega) rfl, h6 3 _ (by omega) rfl⟩
theorem own_mets {w : World} {base : Nat} {e : TypeId} {v : Value} {l : List Nd} (h : w.ownsRow base e 4 v l.length (mets l)) : ∃ A c, v = .slice A l.length c ∧ MetsAt w w.heap.size A l := by
  rcases h.2 with ⟨rfl, h0⟩ | ⟨g, cap, cur, rfl, hb, hg, hn, hc, hs, ht⟩
  · exact ⟨none, 0, by rw [h0], fun i hi => by omega⟩
  · refine ⟨some ⟨g, 0, none⟩, cap, rfl, fun i hi => ⟨_, rfl, (Array.getElem?_eq_some_iff.1 hg).1, fun j v hv => ?_⟩⟩
    have hj : j < 4 := by
      have := (List.getElem?_eq_some_iff.1 hv).1
      simpa [metV] using this
    exact h.cells rfl _ _ (by rw [mets_get l i j hi hj]; exact hv)
/-- A graph of the document's in memory; B: from where on its blocks lie. -/
structure RG (w : World) (B gX mB : Nat) (vl : Value) (l : List Nd) : Prop where
  box : Blk w gX 105 #[vl, .map (some mB)]
  row : w.ownsRow B 108 4 vl l.length (mets l)
  num : MapInt 3 w mB l.length (numF l)
  hg : B ≤ gX
  hm : B ≤ mB
  hB : B ≤ w.heap.size
theorem RG.ne {w : World} {B gX mB : Nat} {vl : Value} {l : List Nd} (G : RG w B gX mB vl l) : gX ≠ mB := by
  rintro rfl
  obtain ⟨D, _, ⟨es, clock, hb, r⟩, _⟩ := G.num
  have := G.box
  unfold Blk at this
  rw [this] at hb
  injection hb with hb
  cases hb
theorem RG.below {w w' : World} {B gX mB : Nat} {vl : Value} {l : List Nd} (G : RG w B gX mB vl l) (hb : Below w.heap.size w w') : RG w' B gX mB vl l :=
  ⟨G.box.below hb G.box.lt, own_sameS G.row (fun k hk => hb.block k (G.row.lt k hk).2), G.num.below hb, G.hg, G.hm, Nat.le_trans G.hB hb.size⟩
/-- What a deed with a graph does to memory. -/
structure RStep (w w' : World) (gX mB : Nat) (vl vl' : Value) : Prop where
  os : w'.os = w.os
  tape : w'.tape = w.tape
  output : w'.output = w.output
  size : w.heap.size ≤ w'.heap.size
  block : ∀ k, k < w.heap.size → k ≠ gX → k ≠ mB → vl.ownBlock ≠ some k → w'.heap[k]? = w.heap[k]?
  rl : ∀ k, vl'.ownBlock = some k → vl.ownBlock = some k ∨ w.heap.size ≤ k
theorem RStep.of_below {w w' : World} {gX mB : Nat} {vl : Value} (hb : Below w.heap.size w w') : RStep w w' gX mB vl vl :=
  ⟨hb.os, hb.tape, hb.output, hb.size, fun k hk _ _ _ => hb.block k hk, fun _ h => .inl h⟩
theorem RStep.trans {w w1 w2 : World} {gX mB : Nat} {vl v1 v2 : Value} (a : RStep w w1 gX mB vl v1) (b : RStep w1 w2 gX mB v1 v2) : RStep w w2 gX mB vl v2 :=
  ⟨b.os.trans a.os, b.tape.trans a.tape, b.output.trans a.output, Nat.le_trans a.size b.size,
    fun k hk h1 h2 h3 => (b.block k (Nat.lt_of_lt_of_le hk a.size) h1 h2 (fun e => by
      rcases a.rl k e with h | h
      · exact h3 h
      · omega)).trans (a.block k hk h1 h2 h3),
    fun k hk => by
      rcases b.rl k hk with h | h
      · exact a.rl k h
      · exact .inr (Nat.le_trans a.size h)⟩
theorem RStep.below {w w' : World} {B gX mB : Nat} {vl vl' : Value} {l : List Nd} (G : RG w B gX mB vl l) (s : RStep w w' gX mB vl vl') : Below B w w' :=
  ⟨s.os, s.tape, s.output, s.size, fun k hk => s.block k (Nat.lt_of_lt_of_le hk G.hB) (by have := G.hg; omega) (by have := G.hm; omega) (fun e => by have := (G.row.lt k e).1; omega)⟩
/-- Another graph, of blocks of its own, is kept. -/
theorem RStep.other {w w' : World} {B gX mB gY mY : Nat} {vl vl' vm : Value} {l m : List Nd} (G : RG w B gX mB vl l) (s : RStep w w' gX mB vl vl') (G' : RG w B gY mY vm m) (h1 : gY ≠ gX) (h2 : mY ≠ mB) (h3 : ∀ k, vl.ownBlock = some k → vm.ownBlock ≠ some k) : RG w' B gY mY vm m := by
  have hbm : ∀ {g b n : Nat} {t : TypeId} {cs : Array Value} {f : Nat → Nat}, Blk w g t cs → MapInt 3 w b n f → g ≠ b := fun {g b n t cs f} hb m e => by
    subst e
    obtain ⟨D, _, ⟨es, clock, hh, r⟩, _⟩ := m
    unfold Blk at hb; rw [hb] at hh; injection hh with hh; cases hh
  refine ⟨G'.box.same (s.block gY G'.box.lt h1 (hbm G'.box G.num) (own_ne_blkS G.row G'.box (by decide))), own_sameS G'.row (fun k hk => s.block k (G'.row.lt k hk).2 (fun e => ?_) (fun e => ?_) (fun e => h3 k e hk)),
    G'.num.same (s.block mY G'.num.lt (fun e => hbm G.box G'.num e.symm) h2 (own_ne_mapI G.row G'.num)), G'.hg, G'.hm, Nat.le_trans G'.hB s.size⟩
  · subst e; exact own_ne_blkS G'.row G.box (by decide) hk
  · subst e; exact own_ne_mapI G'.row G.num hk
end Go.Proofs.YtpajpdjjpgbklaaDoor

namespace Go.Proofs.YtpajpdjjpgbklaaDoor
open Go.RowKit Go.Maps
attribute [local go_sem] Oper.semAt_some

theorem reads_met (w : World) (n : Nd) : Reads (w.alloc (.cells #[.int .u32 (n.o : Nat), .int .i64 n.par, .int .i64 n.fld, .int .i64 (n.deep : Nat)] 108)) (w.heap.size + 1) 4 (some ⟨w.heap.size, 0, none⟩) 1 (metV n) :=
  ⟨rfl, fun _ => ⟨_, rfl, by simp, fun j u hu => by
    rw [WideShapes.add_plain, Nat.zero_add]
    refine ((Blk.new w _ _).cell j).trans ?_
    rw [← hu]
    simp [metV]⟩⟩
theorem metV_one (n : Nd) : ∀ u ∈ metV n, u.oneCell' = true := by
  intro u hu
  simp [metV] at hu
  rcases hu with rfl | rfl | rfl | rfl <;> rfl
/-- What put leaves. -/
def PutP (B gX mB : Nat) (vl : Value) (l' : List Nd) (w : World) (e : Ending) (w' : World) : Prop :=
  e = .returned (.tuple #[]) ∧ ∃ vl', RG w' B gX mB vl' l' ∧ RStep w w' gX mB vl vl'
set_option maxRecDepth 100000 in
set_option maxHeartbeats 4000000 in
theorem wput_any {w : World} {B gX mB : Nat} {vl : Value} {l : List Nd} (G : RG w B gX mB vl l) (o : Nat) (ho : o < 4294967296) (par fld : Int) (deep : Nat) (hl : l.length ≤ 4000000) :
    Calls Tryd.prog 76 #[.pointer (some ⟨gX, 0, none⟩), .int .u32 o, .int .i64 par, .int .i64 fld, .int .i64 deep] w (PutP B gX mB vl (meetN l o par fld deep) w) := by
  have HK := Lib.hid (rkind_any o ho w)
  have c0 := G.box.cell 0
  have c1 := G.box.cell 1
  have hlk := G.num.look intTyI ho
  by_cases hk : kindM o = 2
  case neg =>
    have e2 : ((kindM o : Int) == 2) = false := by simp; omega
    have HF := Lib.hid (show meetN l o par fld deep = l from meetN_old (fun e => hk e.1))
    have HG := Lib.hid G
    clear hk G hlk
    generalize kindM o = k at *
    go_enter Tryd.func76, Tryd.ntmps76
    go_wp2_with fail
    refine HK.out.mono ?_
    rintro e w' ⟨rfl, rfl⟩
    go_wp2_with fail
    refine bodyPost_ret (v := .tuple #[]) (by simp [results, Tryd.results76, go_sem]) rfl ?_
    exact ⟨rfl, vl, by rw [HF.out]; exact HG.out, .of_below (Below.refl _ _)⟩
  case pos =>
  rw [hk] at HK
  by_cases hm : o ∈ oopsOf l
  · have HF := Lib.hid (show meetN l o par fld deep = l from meetN_old (fun e => e.2 hm))
    have e2 : ((numF l o : Int) == 0) = false := by have := numF_pos.2 hm; simp; omega
    have HG := Lib.hid G
    clear hk G hm
    generalize numF l o = k at *
    go_enter Tryd.func76, Tryd.ntmps76
    go_wp2_with fail
    refine HK.out.mono ?_
    rintro e w' ⟨rfl, rfl⟩
    go_wp2_with fail
    refine bodyPost_ret (v := .tuple #[]) (by simp [results, Tryd.results76, go_sem]) rfl ?_
    exact ⟨rfl, vl, by rw [HF.out]; exact HG.out, .of_below (Below.refl _ _)⟩
  · have HF := Lib.hid (meetN_new (l := l) (p := par) (f := fld) (d := deep) hk hm)
    rw [numF_zero.2 hm, show ((0 : Nat) : Int) = 0 from rfl] at hlk
    have HNF := Lib.hid (numF_new hm par fld deep)
    have z0 := G.box.frozen 0
    obtain ⟨i0, hi0, hz0, hz1, hz2⟩ := info_parts info_met
    have hBs := G.hB
    have hgl := G.box.lt
    have HG := Lib.hid G
    clear hk G hm
    go_enter Tryd.func76, Tryd.ntmps76
    go_wp2_with fail
    refine HK.out.mono ?_
    rintro e w' ⟨rfl, rfl⟩
    have HVG := Lib.hid (own_ne_blkS HG.out.row HG.out.box (by decide))
    have HVM := Lib.hid (own_ne_mapI HG.out.row HG.out.num)
    have HGM := Lib.hid HG.out.ne
    have hgl1 : ∀ o : Obj, gX < (w.alloc o).heap.size := fun o => by simp; omega
    go_upto_region 2 with (at_builtin; refine wpList_append_any _ rfl (.tmp 27) (.tmp 33) _ rfl B 108 i0 _ 4 32 Tryd.underlying99 hi0 hz0 hz1 hz2 rfl (by omega) vl l.length _ rfl (HG.out.row.alloc _) (w.heap.size + 1) (some ⟨w.heap.size, 0, none⟩) 1 1 (metV ⟨o, par, fld, deep⟩) rfl (reads_met w ⟨o, par, fld, deep⟩) (metV_one _) (by simp only [maxLen]; omega) (by omega) (by simp; omega) ?_; intro v1 w5 hown5 hgrow hat5; obtain ⟨g5, c5, rfl, hge5, hlt5⟩ := hown5.form (by omega); have k5 := (hgrow.cell_far ⟨gX, 0, none⟩ (hgl1 _) (by first | exact HVG.out | exact fun e => HVG.out e.symm)).trans ((World.cell?_alloc_lt w _ ⟨gX, 0, none⟩ hgl).trans c0); have z5 := (hgrow.frozen_far ⟨gX, 0, none⟩ (hgl1 _) (by first | exact HVG.out | exact fun e => HVG.out e.symm)).trans ((World.frozen?_alloc_old _ _ _ (by simp; omega)).trans z0))
    have HS6 := Lib.hid (show ∀ k, k < w.heap.size → k ≠ gX → vl.ownBlock ≠ some k → (w5.setCell ⟨gX, 0, none⟩ (.slice (some ⟨g5, 0, none⟩) (l.length + 1) c5)).heap[k]? = w.heap[k]? from fun k h1 h2 h3 =>
      (Below.heap_setCell w5 ⟨gX, 0, none⟩ _ k h2).trans ((hgrow.block k (by simp; omega) (fun e => h3 e.symm)).trans (Below.heap_alloc w _ k h1)))
    have hs5 : w.heap.size < w5.heap.size := by have := hgrow.size; simp at this; omega
    have HE6 := Lib.hid (show (w5.setCell ⟨gX, 0, none⟩ (.slice (some ⟨g5, 0, none⟩) (l.length + 1) c5)).os = w.os ∧ (w5.setCell ⟨gX, 0, none⟩ (.slice (some ⟨g5, 0, none⟩) (l.length + 1) c5)).tape = w.tape ∧ (w5.setCell ⟨gX, 0, none⟩ (.slice (some ⟨g5, 0, none⟩) (l.length + 1) c5)).output = w.output from ⟨hgrow.os, hgrow.tape, hgrow.output⟩)
    have HA5 := Lib.hid (show vl.ownBlock = some g5 ∨ w.heap.size ≤ g5 by
      rcases hat5 with e | e
      · left; rw [← e]; rfl
      · right; simp [Value.ownBlock] at e; omega)
    have HB6 := Lib.hid (show Blk (w5.setCell ⟨gX, 0, none⟩ (.slice (some ⟨g5, 0, none⟩) (l.length + 1) c5)) gX 105 #[.slice (some ⟨g5, 0, none⟩) (l.length + 1) c5, .map (some mB)] from (HG.out.box.same ((hgrow.block gX (hgl1 _) (fun e => HVG.out e.symm)).trans (Below.heap_alloc w _ gX hgl))).set_ 0 _)
    have HN5 := Lib.hid (show g5 ≠ gX from by
      rcases HA5.out with e | e
      · intro e2; subst e2; exact HVG.out e
      · omega)
    have HO6 := Lib.hid (own_sameS hown5 (w' := w5.setCell ⟨gX, 0, none⟩ (.slice (some ⟨g5, 0, none⟩) (l.length + 1) c5)) (fun k hk => Below.heap_setCell w5 ⟨gX, 0, none⟩ _ k (by simp [Value.ownBlock] at hk; subst hk; exact HN5.out)))
    have hs6 : w.heap.size < (w5.setCell ⟨gX, 0, none⟩ (.slice (some ⟨g5, 0, none⟩) (l.length + 1) c5)).heap.size := by simp [World.setCell]; exact hs5
    clear hgrow hat5 k5 z5 c0 c1 z0 hlk hi0 hz0 hz1 hz2 hown5 hs5
    generalize w5.setCell ⟨gX, 0, none⟩ (.slice (some ⟨g5, 0, none⟩) (l.length + 1) c5) = W6 at *
    have HM6 := Lib.hid (HG.out.num.same (w' := W6) (HS6.out mB HG.out.num.lt (fun e => HGM.out e.symm) HVM.out))
    obtain ⟨W9, hpt, HM9, hg9⟩ := (show MapInt 3 W6.drew mB l.length (numF l) from HM6.out).put intTyI (x := o) (v := l.length + 1) ho (by omega) (by omega)
    have HB9 := Lib.hid (show Blk W9 gX 105 #[.slice (some ⟨g5, 0, none⟩) (l.length + 1) c5, .map (some mB)] from HB6.out.drew.same (hg9.block gX HB6.out.lt (fun e => HGM.out (by injection e))))
    have c0 := HB6.out.cell 0
    have c1 := HB6.out.cell 1
    have hpt2 : (Instr.mapUpdate 103 (.map (some mB)) (.int .i64 (o : Int)) (.int .i64 ((l.length : Int) + 1))).run Tryd.prog W6.drew = .ok () W9 := by
      have := hpt
      rw [show (((l.length + 1 : Nat)) : Int) = (l.length : Int) + 1 by omega] at this
      exact this
    have HO9 := Lib.hid (own_sameS HO6.out (w' := W9) (fun k hk => hg9.block k (HO6.out.lt k hk).2 (fun e => own_ne_mapI HO6.out HM6.out (by injection e with e; rw [← e]; exact hk))))
    have hs9 : w.heap.size ≤ W9.heap.size := by have h1 := hg9.size; have h2 : W6.drew.heap.size = W6.heap.size := rfl; omega
    have HFIN := Lib.hid (show PutP B gX mB vl (meetN l o par fld deep) w (.returned (.tuple #[])) W9 from by
      rw [HF.out]
      refine ⟨rfl, _, ⟨HB9.out, ?_, ?_, HG.out.hg, HG.out.hm, by omega⟩,
        ⟨hg9.os.trans HE6.out.1, hg9.tape.trans HE6.out.2.1, hg9.output.trans HE6.out.2.2, hs9, fun k h1 h2 h3 h4 => (hg9.block k (show k < W6.heap.size by omega) (fun e => h3 (by injection e))).trans (HS6.out k h1 h2 h4), ?_⟩⟩
      · have := HO9.out
        rw [mets_snoc, List.length_append]
        exact this
      · rw [List.length_append, HNF.out]
        exact HM9
      · intro k hk
        simp [Value.ownBlock] at hk
        subst hk
        exact HA5.out)
    clear hpt HM9 hg9
    go_region
    all_goals go_wp2_with fail
    all_goals refine bodyPost_ret (v := .tuple #[]) (by simp [results, Tryd.results76, go_sem]) rfl ?_
    all_goals exact HFIN.out
end Go.Proofs.YtpajpdjjpgbklaaDoor

namespace Go.Proofs.YtpajpdjjpgbklaaDoor
open Go.RowKit Go.Maps
attribute [local go_sem] Oper.semAt_some

/-- Two graphs of the document's, each of its own blocks. -/
structure RP (w : World) (B gX mX gY mY : Nat) (vl vm : Value) (l m : List Nd) : Prop where
  a : RG w B gX mX vl l
  b : RG w B gY mY vm m
  hg : gX ≠ gY
  hm : mX ≠ mY
  hv : ∀ k, vl.ownBlock = some k → vm.ownBlock ≠ some k
/-- What a deed with both does to memory. -/
structure RPS (w w' : World) (gX mX gY mY : Nat) (vl vm vl' vm' : Value) : Prop where
  os : w'.os = w.os
  tape : w'.tape = w.tape
  output : w'.output = w.output
  size : w.heap.size ≤ w'.heap.size
  block : ∀ k, k < w.heap.size → k ≠ gX → k ≠ mX → k ≠ gY → k ≠ mY → vl.ownBlock ≠ some k → vm.ownBlock ≠ some k → w'.heap[k]? = w.heap[k]?
  rl : ∀ k, vl'.ownBlock = some k → vl.ownBlock = some k ∨ w.heap.size ≤ k
  rm : ∀ k, vm'.ownBlock = some k → vm.ownBlock = some k ∨ w.heap.size ≤ k
section
variable {w w' : World} {B gX mX gY mY : Nat} {vl vm vl' vm' : Value} {l m : List Nd}
theorem RPS.refl : RPS w w gX mX gY mY vl vm vl vm := ⟨rfl, rfl, rfl, Nat.le_refl _, fun _ _ _ _ _ _ _ _ => rfl, fun _ h => .inl h, fun _ h => .inl h⟩
theorem RP.below (P : RP w B gX mX gY mY vl vm l m) (hb : Below w.heap.size w w') : RP w' B gX mX gY mY vl vm l m := ⟨P.a.below hb, P.b.below hb, P.hg, P.hm, P.hv⟩
theorem RPS.below (P : RP w B gX mX gY mY vl vm l m) (s : RPS w w' gX mX gY mY vl vm vl' vm') : Below B w w' :=
  ⟨s.os, s.tape, s.output, s.size, fun k hk => s.block k (Nat.lt_of_lt_of_le hk P.a.hB) (by have := P.a.hg; omega) (by have := P.a.hm; omega) (by have := P.b.hg; omega) (by have := P.b.hm; omega) (fun e => by have := (P.a.row.lt k e).1; omega) (fun e => by have := (P.b.row.lt k e).1; omega)⟩
theorem blk_ne_mapI {g b n : Nat} {t : TypeId} {cs : Array Value} {f : Nat → Nat} (hb : Blk w g t cs) (m : MapInt 3 w b n f) : g ≠ b := by
  rintro rfl
  obtain ⟨D, _, ⟨es, clock, hh, r⟩, _⟩ := m
  unfold Blk at hb; rw [hb] at hh; injection hh with hh; cases hh
theorem blk_ne_blk {g g' : Nat} {t t' : TypeId} {cs cs' : Array Value} (hb : Blk w g t cs) (hb' : Blk w g' t' cs') (hne : t ≠ t') : g ≠ g' := by
  rintro rfl
  unfold Blk at hb hb'
  rw [hb] at hb'
  injection hb' with e
  injection e with _ e
  exact hne e
/-- A block of another type is kept. -/
theorem RPS.blk (P : RP w B gX mX gY mY vl vm l m) (s : RPS w w' gX mX gY mY vl vm vl' vm') {g : Nat} {t : TypeId} {cs : Array Value} (b : Blk w g t cs) (h1 : t ≠ 105) (h2 : 108 ≠ t) : Blk w' g t cs :=
  b.same (s.block g b.lt (blk_ne_blk b P.a.box h1) (blk_ne_mapI b P.a.num) (blk_ne_blk b P.b.box h1) (blk_ne_mapI b P.b.num) (own_ne_blkS P.a.row b h2) (own_ne_blkS P.b.row b h2))
theorem own_blk {base s n : Nat} {e : TypeId} {v : Value} {xs : List Value} {k : Nat} (h : w.ownsRow base e s v n xs) (hk : v.ownBlock = some k) : ∃ cs, Blk w k e cs := by
  rcases h.2 with ⟨rfl, _⟩ | ⟨g', cap, cur, rfl, h2, h3, h4⟩
  · simp [Value.ownBlock] at hk
  · simp [Value.ownBlock] at hk
    subst hk
    exact ⟨_, h3⟩
theorem RPS.own (P : RP w B gX mX gY mY vl vm l m) (s : RPS w w' gX mX gY mY vl vm vl' vm') {base sz n : Nat} {t : TypeId} {v : Value} {xs : List Value} (h : w.ownsRow base t sz v n xs) (h1 : t ≠ 105) (h2 : 108 ≠ t) : w'.ownsRow base t sz v n xs :=
  own_sameS h (fun k hk => by
    obtain ⟨cs, b⟩ := own_blk h hk
    exact Eq.trans (s.blk P b h1 h2) (Eq.symm b))
theorem RP.first (P : RP w B gX mX gY mY vl vm l m) (s1 : RStep w w' gX mX vl vl') : RG w' B gY mY vm m := s1.other P.a P.b (fun e => P.hg e.symm) (fun e => P.hm e.symm) P.hv
theorem RP.both {w2 : World} {l' m' : List Nd} (P : RP w B gX mX gY mY vl vm l m) (s1 : RStep w w' gX mX vl vl') (G1 : RG w' B gX mX vl' l') (s2 : RStep w' w2 gY mY vm vm') (G2 : RG w2 B gY mY vm' m') :
    RP w2 B gX mX gY mY vl' vm' l' m' ∧ RPS w w2 gX mX gY mY vl vm vl' vm' := by
  have hv1 : ∀ k, vm.ownBlock = some k → vl'.ownBlock ≠ some k := fun k h1 h2 => by
    rcases s1.rl k h2 with h | h
    · exact P.hv k h h1
    · have := (P.b.row.lt k h1).2; omega
  have Gb := P.first s1
  refine ⟨⟨s2.other Gb G1 P.hg P.hm hv1, G2, P.hg, P.hm, fun k h1 h2 => ?_⟩, ⟨s2.os.trans s1.os, s2.tape.trans s1.tape, s2.output.trans s1.output, Nat.le_trans s1.size s2.size, fun k hk h1 h2 h3 h4 h5 h6 => ?_, s1.rl, fun k hk => ?_⟩⟩
  · rcases s2.rl k h2 with h | h
    · exact hv1 k h h1
    · have := (G1.row.lt k h1).2; omega
  · exact (s2.block k (Nat.lt_of_lt_of_le hk s1.size) h3 h4 h6).trans (s1.block k hk h1 h2 h5)
  · rcases s2.rl k hk with h | h
    · exact .inl h
    · exact .inr (Nat.le_trans s1.size h)
theorem RPS.undraw (s : RPS w.drew w' gX mX gY mY vl vm vl' vm') : RPS w w' gX mX gY mY vl vm vl' vm' := ⟨s.os, s.tape, s.output, s.size, s.block, s.rl, s.rm⟩
theorem RP.draw (P : RP w B gX mX gY mY vl vm l m) : RP w.drew B gX mX gY mY vl vm l m := P.below (below_drew (Below.refl _ _))
end
/-- What pair answers and leaves. -/
def RPairP (B gX mX gY mY : Nat) (vl vm : Value) (l m : List Nd) (v u : Nat) (par fld : Int) (w : World) (e : Ending) (w' : World) : Prop :=
  e = .returned (.int .i64 (pairK l m v u : Nat)) ∧ ((pairK l m v u ≠ 0 ∧ Below w.heap.size w w') ∨ (pairK l m v u = 0 ∧ ∃ vl' vm', RP w' B gX mX gY mY vl' vm' (meetN l v par fld 0) (meetN m u par fld 0) ∧ RPS w w' gX mX gY mY vl vm vl' vm'))
theorem rkindM_cases (v : Nat) : kindM v = 0 ∨ kindM v = 1 ∨ kindM v = 2 := by unfold kindM; split <;> (try split) <;> simp
set_option maxRecDepth 100000 in
set_option maxHeartbeats 4000000 in
theorem rpair_any {w : World} {B gX mX gY mY : Nat} {vl vm : Value} {l m : List Nd} (P : RP w B gX mX gY mY vl vm l m) (v u : Nat) (hv : v < 4294967296) (hu : u < 4294967296) (par fld : Int) (hl : l.length ≤ 4000000) (hm : m.length ≤ 4000000) :
    Calls Tryd.prog 38 #[.pointer (some ⟨gX, 0, none⟩), .pointer (some ⟨gY, 0, none⟩), .int .u32 v, .int .u32 u, .int .i64 par, .int .i64 fld] w (RPairP B gX mX gY mY vl vm l m v u par fld w) := by
  have HKV := Lib.hid (rkind_any v hv w)
  have HKU := Lib.hid (rkind_any u hu w)
  have HP := Lib.hid P
  unfold RPairP
  by_cases hk : kindM v = kindM u
  case neg =>
    have e2 : ((kindM v : Int) != (kindM u : Int)) = true := by simp; omega
    have HF := Lib.hid (show pairK l m v u = 1 by unfold pairK; rw [if_pos hk])
    rw [HF.out]
    clear hk P
    generalize kindM v = kv at *
    generalize kindM u = ku at *
    go_enter Tryd.func38, Tryd.ntmps38
    go_wp2_with fail
    refine HKV.out.mono ?_
    rintro e w' ⟨rfl, rfl⟩
    go_wp2_with fail
    refine HKU.out.mono ?_
    rintro e w' ⟨rfl, rfl⟩
    go_wp2_with fail
    go_ret
    exact ⟨rfl, .inl ⟨by decide, Below.refl _ _⟩⟩
  case pos =>
  rw [← hk] at HKU
  rcases rkindM_cases v with h0 | h0 | h0
  · have HF := Lib.hid (show pairK l m v u = 0 by unfold pairK; rw [if_neg (by simpa using hk), if_pos h0])
    have HML := Lib.hid (And.intro (show meetN l v par fld 0 = l from meetN_old (fun e => by omega)) (show meetN m u par fld 0 = m from meetN_old (fun e => by omega)))
    rw [h0] at HKV HKU
    rw [HF.out]
    clear hk h0 P
    go_enter Tryd.func38, Tryd.ntmps38
    go_wp2_with fail
    refine HKV.out.mono ?_
    rintro e w' ⟨rfl, rfl⟩
    go_wp2_with fail
    refine HKU.out.mono ?_
    rintro e w' ⟨rfl, rfl⟩
    go_wp2_with fail
    go_ret
    exact ⟨rfl, .inr ⟨trivial, vl, vm, by rw [HML.out.1, HML.out.2]; exact HP.out, RPS.refl⟩⟩
  · rw [h0] at HKV HKU
    by_cases hvu : v = u
    · have HF := Lib.hid (show pairK l m v u = 0 by unfold pairK; rw [if_neg (by simpa using hk), if_neg (by omega), if_pos h0, if_pos hvu])
      have HML := Lib.hid (And.intro (show meetN l v par fld 0 = l from meetN_old (fun e => by omega)) (show meetN m u par fld 0 = m from meetN_old (fun e => by omega)))
      have e2 : ((v : Int) != (u : Int)) = false := by simp; omega
      rw [HF.out]
      clear hk h0 P hvu
      go_enter Tryd.func38, Tryd.ntmps38
      go_wp2_with fail
      refine HKV.out.mono ?_
      rintro e w' ⟨rfl, rfl⟩
      go_wp2_with fail
      refine HKU.out.mono ?_
      rintro e w' ⟨rfl, rfl⟩
      go_wp2_with fail
      go_ret
      exact ⟨rfl, .inr ⟨trivial, vl, vm, by rw [HML.out.1, HML.out.2]; exact HP.out, RPS.refl⟩⟩
    · have HF := Lib.hid (show pairK l m v u = 2 by unfold pairK; rw [if_neg (by simpa using hk), if_neg (by omega), if_pos h0, if_neg hvu])
      have e2 : ((v : Int) != (u : Int)) = true := by simp; omega
      rw [HF.out]
      clear hk h0 P hvu
      go_enter Tryd.func38, Tryd.ntmps38
      go_wp2_with fail
      refine HKV.out.mono ?_
      rintro e w' ⟨rfl, rfl⟩
      go_wp2_with fail
      refine HKU.out.mono ?_
      rintro e w' ⟨rfl, rfl⟩
      go_wp2_with fail
      go_ret
      exact ⟨rfl, .inl ⟨by decide, Below.refl _ _⟩⟩
  · rw [h0] at HKV HKU
    have hlk1 := (show MapInt 3 w.drew mX l.length (numF l) from P.a.num).look intTyI hv
    have hlk2 := (show MapInt 3 w.drew mY m.length (numF m) from P.b.num).look intTyI hu
    have hx1 := P.a.box.cell 1
    have hy1 := P.b.box.cell 1
    have hd1 : w.drew.cell? ⟨gX, 1, none⟩ = some (.map (some mX)) := hx1
    have hd2 : w.drew.cell? ⟨gY, 1, none⟩ = some (.map (some mY)) := hy1
    by_cases hnn : numF l v = numF m u
    · have HF := Lib.hid (show pairK l m v u = 0 by unfold pairK; rw [if_neg (by simpa using hk), if_neg (by omega), if_neg (by omega), if_pos hnn])
      have e2 : ((numF l v : Int) != (numF m u : Int)) = false := by simp; omega
      have HPA := Lib.hid (fun W (G : RG W B gX mX vl l) => wput_any G v hv par fld 0 hl)
      have HPB := Lib.hid (fun W (G : RG W B gY mY vm m) => wput_any G u hu par fld 0 hm)
      have HLM := Lib.hid (And.intro hl hm)
      rw [HF.out]
      clear hk h0 P hnn hl hm
      generalize numF l v = nl at *
      generalize numF m u = nm at *
      go_enter Tryd.func38, Tryd.ntmps38
      go_wp2_with fail
      refine HKV.out.mono ?_
      rintro e w' ⟨rfl, rfl⟩
      go_wp2_with fail
      refine HKU.out.mono ?_
      rintro e w' ⟨rfl, rfl⟩
      go_upto_region 8 with fail
      go_region
      all_goals go_wp2_with fail
      all_goals refine (HPA.out _ HP.out.draw.a).mono ?_
      all_goals rintro e w1 ⟨rfl, vl1, G1, s1⟩
      all_goals have HG1 := Lib.hid G1
      all_goals have HS1 := Lib.hid s1
      all_goals have HB1 := Lib.hid (HP.out.draw.first s1)
      all_goals clear G1 s1
      all_goals go_wp2_with fail
      all_goals refine (HPB.out _ HB1.out).mono ?_
      all_goals rintro e w2 ⟨rfl, vm2, G2, s2⟩
      all_goals have HFN := Lib.hid (HP.out.draw.both HS1.out HG1.out s2 G2)
      all_goals clear G2 s2
      all_goals go_wp2_with fail
      all_goals go_ret
      all_goals exact ⟨rfl, .inr ⟨trivial, vl1, vm2, HFN.out.1, HFN.out.2.undraw⟩⟩
    · have HF := Lib.hid (show pairK l m v u = 6 by unfold pairK; rw [if_neg (by simpa using hk), if_neg (by omega), if_neg (by omega), if_neg hnn])
      have e2 : ((numF l v : Int) != (numF m u : Int)) = true := by simp; omega
      rw [HF.out]
      clear hk h0 P hnn hl hm
      generalize numF l v = nl at *
      generalize numF m u = nm at *
      go_enter Tryd.func38, Tryd.ntmps38
      go_wp2_with fail
      refine HKV.out.mono ?_
      rintro e w' ⟨rfl, rfl⟩
      go_wp2_with fail
      refine HKU.out.mono ?_
      rintro e w' ⟨rfl, rfl⟩
      go_upto_region 8 with fail
      go_region
      all_goals go_wp2_with fail
      all_goals go_ret
      all_goals exact ⟨rfl, .inl ⟨by decide, below_drew (Below.refl _ _)⟩⟩
end Go.Proofs.YtpajpdjjpgbklaaDoor
