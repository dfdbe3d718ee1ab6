/- compare.contents: the fields of a Bytes or Words object. -/
/- Two graphs walked together: the pair in memory; slices.Clone of a way; differ. -/
import Derived.Test.YtpajpdjjpgbklaaDoorJCanK
import Derived.Test.YtpajpdjjpgbklaaDoorJAlloc
import Derived.Test.YtpajpdjjpgbklaaDoorJFollow
import Derived.Test.YtpajpdjjpgbklaaDoorJMarks
import Derived.Test.YtpajpdjjpgbklaaDoorJOop
import Derived.Test.YtpajpdjjpgbklaaDoorJClone
set_option linter.unusedVariables false
set_option linter.unusedSectionVars false
namespace Go.Proofs.YtpajpdjjpgbklaaDoor
open Go.RowKit
attribute [local go_sem] Oper.semAt_some

def ContP (h : HM) (o : Nat) (w : World) (e : Ending) (w' : World) : Prop :=
  ∃ v, e = .returned v ∧ w'.ownsRow w.heap.size 24 1 v (h.fields o).length (u32s (h.fields o)) ∧ Below w.heap.size w w'
def hdC (X : Hd) : Array Value := #[.int .i64 X.size, .int .i64 X.fmt, .int .i64 X.spare, .int .u32 X.cls, .int .u32 X.ser]
theorem fields_fw {h : HM} {ls : List Ob} (G : h.Good ls) {o : Nat} (hi : h.isB o = true) {k : Nat} (hk : k < (h.hd (o / 2)).size) : (h.fields o).take (k + 1) = (h.fields o).take k ++ [fw h o k] := by
  obtain ⟨b, hb, e1, e2, ok, e3⟩ := good_at G hi
  have hk2 : k < b.fs.length := by have := ok.size; rw [e1] at hk; omega
  rw [e2, List.take_add_one, List.getElem?_eq_getElem hk2, e3 k hk2, List.getD_eq_getElem?_getD, List.getElem?_eq_getElem hk2]
  rfl
theorem fields_all {h : HM} {ls : List Ob} (G : h.Good ls) {o : Nat} (hi : h.isB o = true) : (h.fields o).take (h.hd (o / 2)).size = h.fields o := by
  obtain ⟨b, hb, e1, e2, ok, e3⟩ := good_at G hi
  rw [e2, e1, ok.size, List.take_length]
theorem pack_good {h : HM} {ls : List Ob} (G : h.Good ls) {o : Nat} (hi : h.isB o = true) (h2 : (h.hd (o / 2)).fmt = 2) : packM ((bytesM (h.fields o)).take (h.hd (o / 2)).len) = h.fields o ∧ (h.hd (o / 2)).len ≤ 262140 ∧ ∀ x ∈ (bytesM (h.fields o)).take (h.hd (o / 2)).len, x < 256 := by
  obtain ⟨b, hb, e1, e2, K, e3⟩ := good_at G hi
  have hlen : (h.hd (o / 2)).len = 4 * b.fs.length - b.x.spare := by unfold Hd.len; rw [if_pos h2, e1, K.size]
  refine ⟨by rw [hlen, e2]; exact packM_bytes (G.sound.spare b hb (by rw [← e1]; exact h2)) (by have := K.fit.spare; omega) K.f32, ?_, fun x hx => ?_⟩
  · have hm := K.may
    unfold Hd.may at hm
    simp at hm
    have := K.size
    omega
  · obtain ⟨y, _, hy⟩ := List.mem_flatMap.1 (List.mem_of_mem_take hx)
    simp [bytes4] at hy
    omega
set_option maxRecDepth 100000 in
set_option maxHeartbeats 4000000 in
theorem contents_bytes {w : World} {p : HP} {h : HM} {ls : List Ob} (H : HAt w p h) (G : h.Good ls) (hh : h.Heads) (hs : Spares w) (o : Nat) (ho : o < 4294967296) (hi : h.isB o = true) (h2 : (h.hd (o / 2)).fmt = 2) (X : Hd) (hf : X.fmt = (h.hd (o / 2)).fmt) :
    Calls Tryd.prog 103 #[ptr p.g, .int .u32 o, X.val] w (ContP h o w) := by
  have f := G.fit
  have hb0 : Below w.heap.size w (w.alloc (.cells (hdC X) 55)) := (Below.refl _ _).alloc (Nat.le_refl _) _
  have HBY := Lib.hid (bytes_any (H.below hb0) f hh (hs.below hb0) o ho)
  have HB0 := Lib.hid hb0
  have HBE := Lib.hid (good_bytesE G hi h2)
  have HBR := Lib.hid (bytes_room G hi h2)
  have HFD := Lib.hid (pack_good G hi h2)
  unfold hdC at HBY HB0
  unfold ptr at HBY
  unfold ptr Hd.val
  have e2 : ((X.fmt : Int) == 2) = true := by rw [hf, h2]; rfl
  clear H hs hb0 h2 hi hf
  generalize hX : h.hd (o / 2) = Y at *
  have HX := Lib.hid hX
  clear hX
  go_enter Tryd.func103, Tryd.ntmps103
  go_wp2_with fail
  refine HBY.out.mono ?_
  rintro e w1 ⟨hb1, hby⟩
  rw [if_pos HBE.out, HX.out] at hby
  obtain ⟨gy, cy, rfl, hrow, hgy⟩ := hby
  have HPK := Lib.hid (packBytes_any (c := Y.len) (some ⟨gy, 0, none⟩) Y.len w1.heap.size _ HFD.out.2.1 (bytesP_reads hrow HBR.out) (Nat.le_refl _) HFD.out.2.2)
  have HB1 := Lib.hid (below_top HB0.out hb1)
  clear hrow hb1
  go_wp2_with fail
  refine HPK.out.mono ?_
  rintro e w2 ⟨g2, rfl, hrow2, hge2, hb2⟩
  rw [HFD.out.1] at hrow2 ⊢
  have HB2 := Lib.hid (below_top HB1.out hb2)
  have HOW := Lib.hid (show w2.ownsRow w.heap.size 24 1 (.slice (some ⟨g2, 0, none⟩) (h.fields o).length (h.fields o).length) (h.fields o).length (u32s (h.fields o)) from by
    obtain ⟨cur, hb, hl, hm, hc, hx⟩ := hrow2
    rw [u32s_len] at hl
    exact ⟨by simp [u32s_len], .inr ⟨g2, _, cur, rfl, Nat.le_trans HB1.out.size hge2, hb, by simp, hm, by simpa using hc, by rw [u32s_len] at hx; simp [hx]⟩⟩)
  clear hrow2 hb2 hge2 HPK
  go_wp2_with fail
  go_ret
  exact ⟨_, rfl, HOW.out, HB2.out⟩
set_option maxRecDepth 100000 in
set_option maxHeartbeats 4000000 in
theorem contents_words {w : World} {p : HP} {h : HM} {ls : List Ob} (H : HAt w p h) (G : h.Good ls) (hh : h.Heads) (hs : Spares w) (o : Nat) (ho : o < 4294967296) (hi : h.isB o = true) (h3 : (h.hd (o / 2)).fmt = 3) (X : Hd) (hf : X.fmt = (h.hd (o / 2)).fmt) (hz : X.size = (h.hd (o / 2)).size) :
    Calls Tryd.prog 103 #[ptr p.g, .int .u32 o, X.val] w (ContP h o w) := by
  have f := G.fit
  have hb0 : Below w.heap.size w (w.alloc (.cells (hdC X) 55)) := (Below.refl _ _).alloc (Nat.le_refl _) _
  have HWD := Lib.hid (fun (wr : World) (hb : Below w.heap.size w wr) (k : Nat) (hk : k < X.size) => word_good (H.below hb) f hh (hs.below hb) ho hi h3 (show k < (h.hd (o / 2)).size by omega))
  have HFW := Lib.hid (fun k (hk : k < X.size) => fields_fw G hi (show k < (h.hd (o / 2)).size by omega))
  have HFA := Lib.hid (show (h.fields o).take X.size = h.fields o by rw [hz]; exact fields_all G hi)
  have hsz : X.size ≤ 1048576 := by rw [hz]; exact hd_size_le f (HM.isB_hd hh hi)
  have HFL := Lib.hid (show (h.fields o).length = X.size by rw [hz]; exact HM.fields_len (HM.isB_hd hh hi))
  have HB0 := Lib.hid hb0
  have HFWL := Lib.hid (fun k => HM.fw_lt f o k)
  unfold hdC at HB0
  unfold ptr at HWD
  unfold ptr Hd.val
  have e2 : ((X.fmt : Int) == 2) = false := by rw [hf, h3]; rfl
  clear H hs hb0 h3 hi hf hz
  obtain ⟨i0, hi0, hz0, hz1, hz2⟩ := info_parts info_u32
  go_enter Tryd.func103, Tryd.ntmps103
  go_wp2_with fail
  go_loopw [7, 31] (fun v i wr => ∃ k : Nat, k ≤ X.size ∧ i = .int .i64 k ∧ wr.ownsRow w.heap.size 24 1 v k (u32s ((h.fields o).take k)) ∧ Below w.heap.size w wr) (fun _ i _ => X.size - (intOf i).toNat)
  case atStart => exact ⟨0, by omega, rfl, ⟨rfl, .inl ⟨rfl, rfl⟩⟩, HB0.out⟩
  case round =>
    clear HB0
    obtain ⟨k, hk, rfl, hown, hb⟩ := hrel
    by_cases hlt : k < X.size
    · have HB := Lib.hid hb
      have HOW := Lib.hid hown
      have HWK := Lib.hid (HWD.out wr hb k hlt)
      have HF1 := Lib.hid (HFW.out k hlt)
      have hvl := HFWL.out k
      clear hb hown
      generalize fw h o k = v at *
      go_wp2_with fail
      refine HWK.out.mono ?_
      rintro e w1 ⟨rfl, hb1⟩
      have HB1 := Lib.hid (below_top HB.out hb1)
      have HOW1 := Lib.hid (own_same HOW.out (fun q hq => hb1.block q (HOW.out.lt q hq).2))
      have hBw : w.heap.size ≤ w1.heap.size := HB1.out.size
      clear HWK hb1 HB HOW
      go_wp2_with (at_builtin; refine wpList_append_any _ rfl (.tmp 41) (.tmp 43) _ rfl w.heap.size 24 i0 _ 1 4 Tryd.underlying22 hi0 hz0 hz1 hz2 rfl (by omega) u7 k _ rfl (HOW1.out.alloc _) (w1.heap.size + 1) (some ⟨w1.heap.size, 0, none⟩) 1 1 (u32s [v]) rfl ⟨rfl, fun _ => ⟨_, rfl, by simp, cell_one_new _ _ _⟩⟩ (one_u32s _) (by simp only [maxLen]; omega) (by omega) (by simp; omega) ?_; intro v1 w5 hown5 hgrow hat5)
      go_roundw
      case rel =>
        refine ⟨k + 1, by omega, by go_num, ?_, ?_⟩
        · rw [HF1.out]
          unfold u32s at hown5 ⊢
          rw [List.map_append]
          exact hown5
        · have hba := (Below.refl w1.heap.size w1).alloc (Nat.le_refl _) (.cells #[.int .u32 v] 24)
          have hb2 := below_top HB1.out hba
          refine ⟨hgrow.os.trans hb2.os, hgrow.tape.trans hb2.tape, hgrow.output.trans hb2.output, Nat.le_trans hb2.size hgrow.size, fun q hq => (hgrow.block q (Nat.lt_of_lt_of_le hq hb2.size) (fun e => ?_)).trans (hb2.block q hq)⟩
          have := (HOW1.out.lt q e.symm).1
          omega
      case measure => simp [intOf]; omega
    · obtain rfl : k = X.size := by omega
      have HOW := Lib.hid hown
      have HB := Lib.hid hb
      rw [HFA.out] at HOW
      clear hown hb hlt hk
      go_wp2_with fail
      go_ret
      exact ⟨_, rfl, by rw [HFL.out]; exact HOW.out, HB.out⟩
theorem contents_any {w : World} {p : HP} {h : HM} {ls : List Ob} (H : HAt w p h) (G : h.Good ls) (hh : h.Heads) (hs : Spares w) (o : Nat) (ho : o < 4294967296) (hi : h.isB o = true) (hp : (h.hd (o / 2)).ptrB = false) (X : Hd) (hf : X.fmt = (h.hd (o / 2)).fmt) (hz : X.size = (h.hd (o / 2)).size) :
    Calls Tryd.prog 103 #[ptr p.g, .int .u32 o, X.val] w (ContP h o w) := by
  have hfm := good_fmt G hi
  have hf2 : (h.hd (o / 2)).fmt = 2 ∨ (h.hd (o / 2)).fmt = 3 := by unfold Hd.ptrB at hp; simp at hp; omega
  rcases hf2 with h2 | h3
  · exact contents_bytes H G hh hs o ho hi h2 X hf
  · exact contents_words H G hh hs o ho hi h3 X hf hz
end Go.Proofs.YtpajpdjjpgbklaaDoor

namespace Go.Proofs.YtpajpdjjpgbklaaDoor
open Go.RowKit Go.Maps
attribute [local go_sem] Oper.semAt_some

theorem one_intZ (l : List Int) : ∀ u ∈ intZ l, u.oneCell' = true := by
  intro u hu; obtain ⟨x, _, rfl⟩ := List.mem_map.1 hu; rfl
set_option maxHeartbeats 1000000 in
theorem clone_int {w : World} {ad : Addr} {n c : Nat} {path : List Int} (hr : Reads w w.heap.size 1 (some ad) n (intZ path)) (hn : 0 < n) (hm : n ≤ 10000000) :
    Calls Tryd.prog 75 #[.slice (some ad) n c] w (NewRow 3 (intZ path) w) := by
  obtain ⟨i0, hi0, hz0, hz1, hz2⟩ := info_parts info_int
  have hnil := fun w => Lib.run_eql_slice_nil (P := Tryd.prog) w 33 3 (some ad) n c 0 0 Tryd.underlying33
  have hl : (intZ path).length = n := by have := hr.1; omega
  have HL := Lib.hid hl
  have HR2 := Lib.hid (hr.alloc (Nat.le_refl _) (.cells #[] 3))
  clear hr hl
  go_enter Tryd.func75, Tryd.ntmps75
  go_wp2_with (at_builtin; refine wpList_append_any _ rfl (.tmp 5) (.tmp 6) _ rfl w.heap.size 3 i0 _ 1 8 Tryd.underlying33 hi0 hz0 hz1 hz2 rfl (by omega) (.slice (some ⟨w.heap.size, 0, none⟩) 0 0) 0 [] rfl (owns_empty w _) _ (some ad) n c (intZ path) rfl HR2.out (one_intZ _) (by simp only [maxLen]; omega) (by omega) (by simp) ?_; intro v1 w1 hown1 hg1 hat1)
  have hb1 : Below w.heap.size w w1 := ((Below.refl _ _).alloc (Nat.le_refl _) _).grown hg1 (by simp) (fun k hk => by simp [Value.ownBlock] at hk; omega)
  rw [Nat.zero_add, List.nil_append] at hown1
  obtain ⟨g1, c1, rfl, hrow, hlen, hge⟩ := Row.of_any hown1 hn
  clear hown1 hg1 hat1
  go_wp2_with fail
  go_ret
  exact ⟨g1, c1, by rw [HL.out]; rfl, hrow, hge, hb1⟩

/-- Where a pair's blocks lie. -/
structure PA where
  gP : Nat
  gA : Nat
  mA : Nat
  gB : Nat
  mB : Nat
/-- A pair's rows. -/
structure PRows where
  vmA : Value
  vdA : Value
  vmB : Value
  vdB : Value
  vp : Value
def PA.has (x : PA) (k : Nat) : Prop := k = x.gP ∨ k = x.gA ∨ k = x.mA ∨ k = x.gB ∨ k = x.mB
def PRows.has (r : PRows) (k : Nat) : Prop := r.vmA.ownBlock = some k ∨ r.vdA.ownBlock = some k ∨ r.vmB.ownBlock = some k ∨ r.vdB.ownBlock = some k ∨ r.vp.ownBlock = some k
/-- A way in a block of its own. -/
def WayAt (w : World) (B : Nat) (v : Value) (path : List Int) (vdA vdB : Value) : Prop :=
  ∃ g c, v = .slice (some ⟨g, 0, none⟩) path.length c ∧ Row w g 3 c (intZ path) ∧ B ≤ g ∧ vdA.ownBlock ≠ some g ∧ vdB.ownBlock ≠ some g
/-- A pair in memory. -/
structure PAt (w : World) (B : Nat) (x : PA) (hvA hvB : Value) (r : PRows) (t0 t1 t2 : Value) (l m lw : List Nd) (ps : List Value) : Prop where
  box : Blk w x.gP 97 #[.pointer (some ⟨x.gA, 0, none⟩), .pointer (some ⟨x.gB, 0, none⟩), r.vp, t0, t1, t2]
  ga : GAt w B x.gA x.mA hvA r.vmA r.vdA l
  gb : GAt w B x.gB x.mB hvB r.vmB r.vdB m
  paths : w.ownsRow B 33 1 r.vp ps.length ps
  plen : ps.length = lw.length
  ways : ∀ i, i < lw.length → WayAt w B (ps.getD i undef) (pathM lw i) r.vdA r.vdB
  hP : B ≤ x.gP
  neG : x.gA ≠ x.gB
  neM : x.mA ≠ x.mB
  neV : ∀ k, r.vmA.ownBlock = some k → r.vmB.ownBlock ≠ some k
  neD : ∀ k, r.vdA.ownBlock = some k → r.vdB.ownBlock ≠ some k
section
variable {w w' : World} {B : Nat} {x : PA} {hvA hvB : Value} {r r' : PRows} {t0 t1 t2 : Value} {l m lw l' m' : List Nd} {ps : List Value}
theorem WayAt.below {v : Value} {path : List Int} (h : WayAt w B v path r.vdA r.vdB) (hb : Below w.heap.size w w') : WayAt w' B v path r.vdA r.vdB := by
  obtain ⟨g, c, h1, h2, h3⟩ := h
  exact ⟨g, c, h1, h2.below hb, h3⟩
theorem PAt.below (P : PAt w B x hvA hvB r t0 t1 t2 l m lw ps) (hb : Below w.heap.size w w') : PAt w' B x hvA hvB r t0 t1 t2 l m lw ps :=
  ⟨P.box.below hb P.box.lt, P.ga.below hb, P.gb.below hb, own_same P.paths (fun k hk => hb.block k (P.paths.lt k hk).2), P.plen, fun i hi => (P.ways i hi).below hb, P.hP, P.neG, P.neM, P.neV, P.neD⟩
theorem GAt.far {gG mB : Nat} {hv vm vd : Value} (G : GAt w B gG mB hv vm vd l) {g : Nat} {t : TypeId} {cs : Array Value} (b : Blk w g t cs) (ht : 94 ≠ t) (h1 : 50 ≠ t) (h2 : 3 ≠ t) (u : Value) (i : Nat) : GAt (w.setCell ⟨g, i, none⟩ u) B gG mB hv vm vd l := by
  have hk : ∀ k, k ≠ g → (w.setCell ⟨g, i, none⟩ u).heap[k]? = w.heap[k]? := fun k hk => Below.heap_setCell w ⟨g, i, none⟩ u k hk
  refine ⟨G.box.same (hk _ (G.box.ne_ b ht)), own_same G.met (fun k h => hk k (fun e => by subst e; exact own_ne_blk G.met b h1 h)), own_same G.deep (fun k h => hk k (fun e => by subst e; exact own_ne_blk G.deep b h2 h)), G.num.same (hk _ ?_), G.hg, G.hm, by simpa [World.setCell] using G.hB⟩
  rintro rfl
  obtain ⟨D, _, ⟨es, clock, hb, r⟩, _⟩ := G.num
  unfold Blk at b
  rw [b] at hb
  injection hb with hb
  cases hb
/-- A cell of the pair's own block is written. -/
theorem PAt.told (P : PAt w B x hvA hvB r t0 t1 t2 l m lw ps) (u0 u1 u2 : Value) :
    PAt (((w.setCell ⟨x.gP, 3, none⟩ u0).setCell ⟨x.gP, 4, none⟩ u1).setCell ⟨x.gP, 5, none⟩ u2) B x hvA hvB r u0 u1 u2 l m lw ps := by
  have b1 := P.box.set_ 3 u0
  have b2 := b1.set_ 4 u1
  have hk : ∀ k, k ≠ x.gP → (((w.setCell ⟨x.gP, 3, none⟩ u0).setCell ⟨x.gP, 4, none⟩ u1).setCell ⟨x.gP, 5, none⟩ u2).heap[k]? = w.heap[k]? := fun k hk =>
    (Below.heap_setCell _ ⟨x.gP, 5, none⟩ u2 k hk).trans ((Below.heap_setCell _ ⟨x.gP, 4, none⟩ u1 k hk).trans (Below.heap_setCell w ⟨x.gP, 3, none⟩ u0 k hk))
  refine ⟨b2.set_ 5 u2, ((P.ga.far P.box (by decide) (by decide) (by decide) u0 3).far b1 (by decide) (by decide) (by decide) u1 4).far b2 (by decide) (by decide) (by decide) u2 5,
    ((P.gb.far P.box (by decide) (by decide) (by decide) u0 3).far b1 (by decide) (by decide) (by decide) u1 4).far b2 (by decide) (by decide) (by decide) u2 5,
    own_same P.paths (fun k h => hk k (fun e => by subst e; exact own_ne_blk P.paths P.box (by decide) h)), P.plen, fun i hi => ?_, P.hP, P.neG, P.neM, P.neV, P.neD⟩
  obtain ⟨g, c, h1, h2, h3⟩ := P.ways i hi
  exact ⟨g, c, h1, h2.same (hk g (h2.ne_blk P.box (by decide))), h3⟩
/-- What a deed with a pair keeps. -/
structure PStep (x : PA) (r r' : PRows) (w w' : World) : Prop where
  os : w'.os = w.os
  tape : w'.tape = w.tape
  output : w'.output = w.output
  size : w.heap.size ≤ w'.heap.size
  block : ∀ k, k < w.heap.size → ¬ x.has k → ¬ r.has k → w'.heap[k]? = w.heap[k]?
  rows : ∀ k, r'.has k → r.has k ∨ w.heap.size ≤ k
theorem PStep.trans {a b c : World} {r2 : PRows} (h : PStep x r r' a b) (k : PStep x r' r2 b c) : PStep x r r2 a c := by
  refine ⟨k.os.trans h.os, k.tape.trans h.tape, k.output.trans h.output, Nat.le_trans h.size k.size, fun i hi h1 h2 => ?_, fun i hi => ?_⟩
  · refine (k.block i (Nat.lt_of_lt_of_le hi h.size) h1 (fun e => ?_)).trans (h.block i hi h1 h2)
    rcases h.rows i e with e' | e'
    · exact h2 e'
    · omega
  · rcases k.rows i hi with e | e
    · exact h.rows i e
    · right; have := h.size; omega
theorem PStep.of_below (hb : Below w.heap.size w w') : PStep x r r w w' := ⟨hb.os, hb.tape, hb.output, hb.size, fun k hk _ _ => hb.block k hk, fun _ h => .inl h⟩
/-- What differ tells. -/
def DifferP (B : Nat) (x : PA) (hvA hvB : Value) (r : PRows) (l m lw : List Nd) (ps : List Value) (kd : Nat) (path : List Int) (at_ : Nat) (w : World) (e : Ending) (w' : World) : Prop :=
  e = .returned (.bool true) ∧ PStep x r r w w' ∧ ∃ g c, PAt w' B x hvA hvB r (.int .i64 kd) (.slice (some ⟨g, 0, none⟩) path.length c) (.int .i64 at_) l m lw ps ∧ Row w' g 3 c (intZ path) ∧ w.heap.size ≤ g
set_option maxHeartbeats 2000000 in
theorem differ_any (P : PAt w B x hvA hvB r t0 t1 t2 l m lw ps) {ad : Addr} {n c : Nat} {path : List Int} (hr : Reads w w.heap.size 1 (some ad) n (intZ path)) (hn : 0 < n) (hm : n ≤ 10000000) (kd at_ : Nat) (hk : kd ≤ 255) :
    Calls Tryd.prog 102 #[.pointer (some ⟨x.gP, 0, none⟩), .int .i64 kd, .slice (some ad) n c, .int .i64 at_] w (DifferP B x hvA hvB r l m lw ps kd path at_ w) := by
  have HC := Lib.hid (clone_int (c := c) hr hn hm)
  have hB := P.ga.hB
  have HP := Lib.hid P
  clear hr P
  go_enter Tryd.func102, Tryd.ntmps102
  go_wp2_with fail
  refine HC.out.mono ?_
  rintro e w1 ⟨g, c1, rfl, hrow, hge, hb⟩
  have HP1 := Lib.hid (HP.out.below hb)
  have k3 := HP1.out.box.cell 3
  have k4 := HP1.out.box.cell 4
  have k5 := HP1.out.box.cell 5
  have z3 := HP1.out.box.frozen 3
  have z4 := HP1.out.box.frozen 4
  have z5 := HP1.out.box.frozen 5
  rw [intZ_len] at *
  have HT := Lib.hid (HP1.out.told (.int .i64 kd) (.slice (some ⟨g, 0, none⟩) path.length c1) (.int .i64 at_))
  have HR := Lib.hid (show g ≠ x.gP from hrow.ne_blk HP1.out.box (by decide))
  have HS := Lib.hid (PStep.of_below (x := x) (r := r) hb)
  have HPB := HP1.out.hP
  clear HC hb
  go_wp2_with fail
  go_ret
  refine ⟨rfl, HS.out.trans ⟨rfl, rfl, rfl, by simp [World.setCell], fun k hk h1 _ => ?_, fun _ h => .inl h⟩, g, c1, HT.out, ((hrow.far (p := ⟨x.gP, 3, none⟩) HR.out _).far (p := ⟨x.gP, 4, none⟩) HR.out _).far (p := ⟨x.gP, 5, none⟩) HR.out _, hge⟩
  have hne : k ≠ x.gP := fun e => h1 (.inl e)
  exact (Below.heap_setCell _ ⟨x.gP, 5, none⟩ _ k hne).trans ((Below.heap_setCell _ ⟨x.gP, 4, none⟩ _ k hne).trans (Below.heap_setCell w1 ⟨x.gP, 3, none⟩ _ k hne))
theorem blk_ne_map {g mB : Nat} {t K : TypeId} {cs : Array Value} {n : Nat} {ff : Nat → Nat} {hs : Nat → Bool} (b : Blk w g t cs) (M : MapOk K w mB n ff hs) : g ≠ mB := by
  rintro rfl
  obtain ⟨D, _, ⟨es, clock, hb, r⟩, _⟩ := M
  unfold Blk at b
  rw [b] at hb
  injection hb with hb
  cases hb
theorem GAt.keep {gG mB : Nat} {hv vm vd : Value} (G : GAt w B gG mB hv vm vd l) (hz : w.heap.size ≤ w'.heap.size)
    (hk : ∀ k, k < w.heap.size → (k = gG ∨ k = mB ∨ vm.ownBlock = some k ∨ vd.ownBlock = some k) → w'.heap[k]? = w.heap[k]?) : GAt w' B gG mB hv vm vd l :=
  ⟨G.box.same (hk _ G.box.lt (.inl rfl)), own_same G.met (fun k h => hk k (G.met.lt k h).2 (.inr (.inr (.inl h)))), own_same G.deep (fun k h => hk k (G.deep.lt k h).2 (.inr (.inr (.inr h)))),
    G.num.same (hk _ G.num.lt (.inr (.inl rfl))), G.hg, G.hm, Nat.le_trans G.hB hz⟩
/-- Graph a grew. -/
theorem PAt.meetA {vm' vd' : Value} (P : PAt w B x hvA hvB r t0 t1 t2 l m lw ps) (G' : GAt w' B x.gA x.mA hvA vm' vd' l') (s : GStep w w' x.gA x.mA r.vmA r.vdA vm' vd') :
    PAt w' B x hvA hvB { r with vmA := vm', vdA := vd' } t0 t1 t2 l' m lw ps ∧ PStep x r { r with vmA := vm', vdA := vd' } w w' := by
  have hgb : ∀ k, k < w.heap.size → (k = x.gB ∨ k = x.mB ∨ r.vmB.ownBlock = some k ∨ r.vdB.ownBlock = some k) → w'.heap[k]? = w.heap[k]? := fun k hk hc => by
    rcases hc with rfl | rfl | h | h
    · exact s.block _ hk (fun e => P.neG e.symm) (blk_ne_map P.gb.box P.ga.num) (own_ne_blk P.ga.met P.gb.box (by decide)) (own_ne_blk P.ga.deep P.gb.box (by decide))
    · exact s.block _ hk (fun e => blk_ne_map P.ga.box P.gb.num e.symm) (fun e => P.neM e.symm) (own_ne_map P.ga.met P.gb.num) (own_ne_map P.ga.deep P.gb.num)
    · exact s.block _ hk (fun e => own_ne_blk P.gb.met P.ga.box (by decide) (e ▸ h)) (fun e => own_ne_map P.gb.met P.ga.num (e ▸ h)) (fun e => P.neV _ e h) (own_type P.gb.met P.ga.deep (by decide) _ h)
    · exact s.block _ hk (fun e => own_ne_blk P.gb.deep P.ga.box (by decide) (e ▸ h)) (fun e => own_ne_map P.gb.deep P.ga.num (e ▸ h)) (own_type P.gb.deep P.ga.met (by decide) _ h) (fun e => P.neD _ e h)
  have hvp : ∀ k, r.vp.ownBlock = some k → w'.heap[k]? = w.heap[k]? := fun k h =>
    s.block _ (P.paths.lt k h).2 (fun e => own_ne_blk P.paths P.ga.box (by decide) (e ▸ h)) (fun e => own_ne_map P.paths P.ga.num (e ▸ h)) (own_type P.paths P.ga.met (by decide) _ h) (own_type P.paths P.ga.deep (by decide) _ h)
  refine ⟨⟨P.box.same (s.blk P.ga P.box (by decide) (by decide) (by decide)), G', P.gb.keep s.size hgb, own_same P.paths hvp, P.plen, fun i hi => ?_, P.hP, P.neG, P.neM, fun k h => ?_, fun k h => ?_⟩,
    ⟨s.os, s.tape, s.output, s.size, fun k hk h1 h2 => s.block k hk (fun e => h1 (.inr (.inl e))) (fun e => h1 (.inr (.inr (.inl e)))) (fun e => h2 (.inl e)) (fun e => h2 (.inr (.inl e))), fun k h => ?_⟩⟩
  · obtain ⟨g, c, h1, h2, h3, h4, h5⟩ := P.ways i hi
    obtain ⟨cur, hcur, _⟩ := id h2
    refine ⟨g, c, h1, h2.same (s.block g h2.lt (h2.ne_blk P.ga.box (by decide)) (blk_ne_map hcur P.ga.num) (own_ne_blk P.ga.met hcur (by decide)) h4), h3, fun e => ?_, h5⟩
    rcases s.rd g e with e' | e'
    · exact h4 e'
    · have := h2.lt; omega
  · rcases s.rm k h with e | e
    · exact P.neV k e
    · exact fun e2 => by have := (P.gb.met.lt k e2).2; omega
  · rcases s.rd k h with e | e
    · exact P.neD k e
    · exact fun e2 => by have := (P.gb.deep.lt k e2).2; omega
  · rcases h with h | h | h | h | h
    · rcases s.rm k h with e | e
      · exact .inl (.inl e)
      · exact .inr e
    · rcases s.rd k h with e | e
      · exact .inl (.inr (.inl e))
      · exact .inr e
    · exact .inl (.inr (.inr (.inl h)))
    · exact .inl (.inr (.inr (.inr (.inl h))))
    · exact .inl (.inr (.inr (.inr (.inr h))))
/-- Graph b grew. -/
theorem PAt.meetB {vm' vd' : Value} (P : PAt w B x hvA hvB r t0 t1 t2 l m lw ps) (G' : GAt w' B x.gB x.mB hvB vm' vd' m') (s : GStep w w' x.gB x.mB r.vmB r.vdB vm' vd') :
    PAt w' B x hvA hvB { r with vmB := vm', vdB := vd' } t0 t1 t2 l m' lw ps ∧ PStep x r { r with vmB := vm', vdB := vd' } w w' := by
  have hga : ∀ k, k < w.heap.size → (k = x.gA ∨ k = x.mA ∨ r.vmA.ownBlock = some k ∨ r.vdA.ownBlock = some k) → w'.heap[k]? = w.heap[k]? := fun k hk hc => by
    rcases hc with rfl | rfl | h | h
    · exact s.block _ hk (fun e => P.neG e) (blk_ne_map P.ga.box P.gb.num) (own_ne_blk P.gb.met P.ga.box (by decide)) (own_ne_blk P.gb.deep P.ga.box (by decide))
    · exact s.block _ hk (fun e => blk_ne_map P.gb.box P.ga.num e.symm) (fun e => P.neM e) (own_ne_map P.gb.met P.ga.num) (own_ne_map P.gb.deep P.ga.num)
    · exact s.block _ hk (fun e => own_ne_blk P.ga.met P.gb.box (by decide) (e ▸ h)) (fun e => own_ne_map P.ga.met P.gb.num (e ▸ h)) (fun e => P.neV _ h e) (own_type P.ga.met P.gb.deep (by decide) _ h)
    · exact s.block _ hk (fun e => own_ne_blk P.ga.deep P.gb.box (by decide) (e ▸ h)) (fun e => own_ne_map P.ga.deep P.gb.num (e ▸ h)) (own_type P.ga.deep P.gb.met (by decide) _ h) (fun e => P.neD _ h e)
  have hvp : ∀ k, r.vp.ownBlock = some k → w'.heap[k]? = w.heap[k]? := fun k h =>
    s.block _ (P.paths.lt k h).2 (fun e => own_ne_blk P.paths P.gb.box (by decide) (e ▸ h)) (fun e => own_ne_map P.paths P.gb.num (e ▸ h)) (own_type P.paths P.gb.met (by decide) _ h) (own_type P.paths P.gb.deep (by decide) _ h)
  refine ⟨⟨P.box.same (s.blk P.gb P.box (by decide) (by decide) (by decide)), P.ga.keep s.size hga, G', own_same P.paths hvp, P.plen, fun i hi => ?_, P.hP, P.neG, P.neM, fun k h => ?_, fun k h => ?_⟩,
    ⟨s.os, s.tape, s.output, s.size, fun k hk h1 h2 => s.block k hk (fun e => h1 (.inr (.inr (.inr (.inl e))))) (fun e => h1 (.inr (.inr (.inr (.inr e))))) (fun e => h2 (.inr (.inr (.inl e)))) (fun e => h2 (.inr (.inr (.inr (.inl e))))), fun k h => ?_⟩⟩
  · obtain ⟨g, c, h1, h2, h3, h4, h5⟩ := P.ways i hi
    obtain ⟨cur, hcur, _⟩ := id h2
    refine ⟨g, c, h1, h2.same (s.block g h2.lt (h2.ne_blk P.gb.box (by decide)) (blk_ne_map hcur P.gb.num) (own_ne_blk P.gb.met hcur (by decide)) h5), h3, h4, fun e => ?_⟩
    rcases s.rd g e with e' | e'
    · exact h5 e'
    · have := h2.lt; omega
  · intro e
    rcases s.rm k e with e' | e'
    · exact P.neV k h e'
    · have := (P.ga.met.lt k h).2; omega
  · intro e
    rcases s.rd k e with e' | e'
    · exact P.neD k h e'
    · have := (P.ga.deep.lt k h).2; omega
  · rcases h with h | h | h | h | h
    · exact .inl (.inl h)
    · exact .inl (.inr (.inl h))
    · rcases s.rm k h with e | e
      · exact .inl (.inr (.inr (.inl e)))
      · exact .inr e
    · rcases s.rd k h with e | e
      · exact .inl (.inr (.inr (.inr (.inl e))))
      · exact .inr e
    · exact .inl (.inr (.inr (.inr (.inr h))))
/-- A way more. -/
theorem PAt.way {vp' v : Value} {path : List Int} {lw' : List Nd} (P : PAt w B x hvA hvB r t0 t1 t2 l m lw ps) (hg : Grows w w' r.vp vp') (hown : w'.ownsRow B 33 1 vp' (ps ++ [v]).length (ps ++ [v])) {g c : Nat} (hv : v = .slice (some ⟨g, 0, none⟩) path.length c)
    (hrow : Row w g 3 c (intZ path)) (hB : B ≤ g) (hA : r.vdA.ownBlock ≠ some g) (hB2 : r.vdB.ownBlock ≠ some g) (hlw : lw'.length = lw.length + 1) (hold : ∀ i, i < lw.length → pathM lw' i = pathM lw i) (hnew : pathM lw' lw.length = path) :
    PAt (w'.setCell ⟨x.gP, 2, none⟩ vp') B x hvA hvB { r with vp := vp' } t0 t1 t2 l m lw' (ps ++ [v]) ∧ PStep x r { r with vp := vp' } w (w'.setCell ⟨x.gP, 2, none⟩ vp') := by
  have hbx : Blk w' x.gP 97 #[.pointer (some ⟨x.gA, 0, none⟩), .pointer (some ⟨x.gB, 0, none⟩), r.vp, t0, t1, t2] := P.box.same (hg.g.block _ P.box.lt (fun e => own_ne_blk P.paths P.box (by decide) e.symm))
  have hk : ∀ k, k < w.heap.size → k ≠ x.gP → r.vp.ownBlock ≠ some k → (w'.setCell ⟨x.gP, 2, none⟩ vp').heap[k]? = w.heap[k]? := fun k h1 h2 h3 =>
    (Below.heap_setCell w' ⟨x.gP, 2, none⟩ _ k h2).trans (hg.g.block k h1 (fun e => h3 e.symm))
  have hz : (w'.setCell ⟨x.gP, 2, none⟩ vp').heap.size = w'.heap.size := by simp [World.setCell]
  have hgr : ∀ {gG mB : Nat} {hv vm vd : Value} {la : List Nd}, GAt w B gG mB hv vm vd la → GAt (w'.setCell ⟨x.gP, 2, none⟩ vp') B gG mB hv vm vd la := fun {gG mB hv vm vd la} G => G.keep (by rw [hz]; exact hg.size) (fun k h1 hc => by
    refine hk k h1 ?_ ?_
    · rcases hc with rfl | rfl | h | h
      · exact G.box.ne_ P.box (by decide)
      · exact fun e => blk_ne_map P.box G.num e.symm
      · rintro rfl; exact own_ne_blk G.met P.box (by decide) h
      · rintro rfl; exact own_ne_blk G.deep P.box (by decide) h
    · rcases hc with rfl | rfl | h | h
      · exact own_ne_blk P.paths G.box (by decide)
      · exact own_ne_map P.paths G.num
      · exact own_type G.met P.paths (by decide) k h
      · exact own_type G.deep P.paths (by decide) k h)
  have hvp : vp'.ownBlock ≠ some x.gP := fun e => by
    rcases hg.at_ _ e with e' | e'
    · exact own_ne_blk P.paths P.box (by decide) e'
    · have := P.box.lt; omega
  have hw2 : ∀ {g2 c2 : Nat} {q : List Int}, Row w g2 3 c2 (intZ q) → Row (w'.setCell ⟨x.gP, 2, none⟩ vp') g2 3 c2 (intZ q) := fun {g2 c2 q} h => by
    obtain ⟨cur, hcur, _⟩ := id h
    exact h.same (hk g2 h.lt (h.ne_blk P.box (by decide)) (own_ne_blk P.paths hcur (by decide)))
  refine ⟨⟨hbx.set_ 2 vp', hgr P.ga, hgr P.gb, own_same hown (fun k h => Below.heap_setCell w' ⟨x.gP, 2, none⟩ _ k (fun (e : k = x.gP) => hvp (by rw [← e]; exact h))), by rw [List.length_append, P.plen, hlw]; rfl, fun i hi => ?_, P.hP, P.neG, P.neM, P.neV, P.neD⟩,
    ⟨hg.g.os, hg.g.tape, hg.g.output, by rw [hz]; exact hg.size, fun k h1 h2 h3 => hk k h1 (fun e => h2 (.inl e)) (fun e => h3 (.inr (.inr (.inr (.inr e))))), fun k h => ?_⟩⟩
  · rcases Nat.lt_or_ge i lw.length with hi2 | hi2
    · obtain ⟨g2, c2, h1, h2, h3⟩ := P.ways i hi2
      refine ⟨g2, c2, ?_, ?_, h3⟩
      · rw [List.getD_eq_getElem?_getD, List.getElem?_append_left (by rw [P.plen]; exact hi2), ← List.getD_eq_getElem?_getD, h1, hold i hi2]
      · rw [hold i hi2]; exact hw2 h2
    · obtain rfl : i = lw.length := by omega
      refine ⟨g, c, ?_, ?_, hB, hA, hB2⟩
      · rw [List.getD_eq_getElem?_getD, List.getElem?_append_right (by rw [P.plen]; exact Nat.le_refl _), P.plen, Nat.sub_self, hnew]; exact hv
      · rw [hnew]; exact hw2 hrow
  · rcases h with h | h | h | h | h
    · exact .inl (.inl h)
    · exact .inl (.inr (.inl h))
    · exact .inl (.inr (.inr (.inl h)))
    · exact .inl (.inr (.inr (.inr (.inl h))))
    · rcases hg.at_ k h with e | e
      · exact .inl (.inr (.inr (.inr (.inr e))))
      · exact .inr e
end
end Go.Proofs.YtpajpdjjpgbklaaDoor
