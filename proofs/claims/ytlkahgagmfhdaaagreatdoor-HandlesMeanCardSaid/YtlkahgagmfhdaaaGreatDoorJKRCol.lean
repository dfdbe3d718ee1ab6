/- The document's Collect. -/
/- CollectLives, walked: it answers true. -/
/- CollectCollects, walked: it answers true. -/
/- alike's memory: two tables and two growing rows of the call's own; its plain meaning. -/
/- alike's closure: a pair of oops. -/
/- CollectWeak's closure: where an oop goes, or what root 0 is. -/
/- Right behind a collection another one finds nothing to do. Plain data. -/
/- CollectAgain, walked: it answers true. -/
/- CollectWeak, walked: it answers true. -/
/- Behind a collection the graph is the same: plain data. -/
/- A collection moves objects, and the canonical bytes are the same, where no object is weak. Plain data. -/
import Derived.Test.YtlkahgagmfhdaaaGreatDoorJKCol
import Derived.Test.YtlkahgagmfhdaaaGreatDoorJAll
import Derived.Test.YtlkahgagmfhdaaaGreatDoorJUntil
import Derived.Test.YtlkahgagmfhdaaaGreatDoorJMem
import Derived.Test.YtlkahgagmfhdaaaGreatDoorJLive
import Derived.Test.YtlkahgagmfhdaaaGreatDoorJOop
import Derived.Test.YtlkahgagmfhdaaaGreatDoorJMarks
import Derived.Deep.RegionHeld3
import Derived.BigQuiet
set_option linter.unusedVariables false
set_option linter.unusedSimpArgs false
set_option linter.unusedSectionVars false
namespace Go.Proofs.YtlkahgagmfhdaaaGreatDoor
open Go.RowKit Go.Sort
attribute [local go_sem] Oper.semAt_some
/-- What Collect works on: the table, the counts, what is next. -/
structure CoS (w : World) (M gt gc gn N : Nat) (pl : List (Nat × Nat)) (vw vr : Value) (ws rs : List Nat) (a0 a1 a3 clr : Nat) : Prop where
  t : Row w gt 54 N (u32s (toL pl N))
  c : Blk w gc 62 #[.int .i64 (a0 : Int), .int .i64 (a1 : Int), .int .i64 0, .int .i64 (a3 : Int), .int .i64 (clr : Int)]
  n : Blk w gn 280 #[vw, vr]
  ow : w.ownsRow M 32 1 vw ws.length (u32s ws)
  or : w.ownsRow M 54 1 vr rs.length (u32s rs)
  ht : M ≤ gt
  hc : M ≤ gc
  hn : M ≤ gn
  nt : vr.ownBlock ≠ some gt
section
variable {w w' : World} {M gt gc gn N : Nat} {pl : List (Nat × Nat)} {vw vr : Value} {ws rs : List Nat} {a0 a1 a3 clr : Nat}
theorem CoS.below (C : CoS w M gt gc gn N pl vw vr ws rs a0 a1 a3 clr) (h : Below w.heap.size w w') : CoS w' M gt gc gn N pl vw vr ws rs a0 a1 a3 clr :=
  ⟨C.t.below h, C.c.below h C.c.lt, C.n.below h C.n.lt, own_below C.ow h, own_below C.or h, C.ht, C.hc, C.hn, C.nt⟩
theorem CoS.far (C : CoS w M gt gc gn N pl vw vr ws rs a0 a1 a3 clr) {x : Nat} (hx : x ≠ gt ∧ x ≠ gc ∧ x ≠ gn ∧ vw.ownBlock ≠ some x ∧ vr.ownBlock ≠ some x) (hs : ∀ q, q ≠ x → w'.heap[q]? = w.heap[q]?) : CoS w' M gt gc gn N pl vw vr ws rs a0 a1 a3 clr :=
  ⟨C.t.same (hs _ hx.1.symm), C.c.same (hs _ hx.2.1.symm), C.n.same (hs _ hx.2.2.1.symm), own_keep C.ow (fun q hq => hs q (fun e => hx.2.2.2.1 (e ▸ hq))), own_keep C.or (fun q hq => hs q (fun e => hx.2.2.2.2 (e ▸ hq))), C.ht, C.hc, C.hn, C.nt⟩
/-- One more field cleared. -/
theorem CoS.clear (C : CoS w M gt gc gn N pl vw vr ws rs a0 a1 a3 clr) : CoS (w.setCell ⟨gc, 4, none⟩ (.int .i64 ((clr : Int) + 1))) M gt gc gn N pl vw vr ws rs a0 a1 a3 (clr + 1) := by
  have hs : ∀ q, q ≠ gc → (w.setCell ⟨gc, 4, none⟩ (.int .i64 ((clr : Int) + 1))).heap[q]? = w.heap[q]? := fun q hq => Below.heap_setCell w ⟨gc, 4, none⟩ _ q hq
  exact ⟨C.t.same (hs _ (C.t.ne_blk C.c (by decide))), C.c.set_ 4 (.int .i64 ((clr : Int) + 1)), C.n.same (hs _ (C.n.ne_ C.c (by decide))), own_keep C.ow (fun q hq => hs q (fun e => own_ne_blk C.ow C.c (by decide) (e ▸ hq))), own_keep C.or (fun q hq => hs q (fun e => own_ne_blk C.or C.c (by decide) (e ▸ hq))), C.ht, C.hc, C.hn, C.nt⟩
end
section
variable {w w' w0 : World} {M gt gc gn N : Nat} {pl : List (Nat × Nat)} {vw vr v5 : Value} {ws rs ns : List Nat} {a0 a1 a3 clr : Nat}
end
section
variable {w w0 : World} {M gt gc gn N : Nat} {pl : List (Nat × Nat)} {vw vr : Value} {ws rs : List Nat} {a0 a1 a3 clr : Nat}
theorem CoS.own (C : CoS w M gt gc gn N pl vw vr ws rs a0 a1 a3 clr) {go co g6 c6 ps : Nat} {os ns : List Nat} (R : Row w go 32 co (u32s os)) (R6 : Row w g6 3 c6 (ints ns)) (hv : vw.ownBlock ≠ some go) (hb : Below M w0 w) (hM : M ≤ go) (x : Nat) :
    CoS (w.setCell ⟨go, ps, none⟩ (.int .u32 (x : Int))) M gt gc gn N pl vw vr ws rs a0 a1 a3 clr ∧ Row (w.setCell ⟨go, ps, none⟩ (.int .u32 (x : Int))) go 32 co (u32s (os.set ps x)) ∧ Row (w.setCell ⟨go, ps, none⟩ (.int .u32 (x : Int))) g6 3 c6 (ints ns) ∧ Below M w0 (w.setCell ⟨go, ps, none⟩ (.int .u32 (x : Int))) := by
  have hs : ∀ q, q ≠ go → (w.setCell ⟨go, ps, none⟩ (.int .u32 (x : Int))).heap[q]? = w.heap[q]? := fun q hq => Below.heap_setCell w ⟨go, ps, none⟩ _ q hq
  refine ⟨C.far ⟨R.ne_ C.t (by decide), R.ne_blk C.c (by decide), R.ne_blk C.n (by decide), hv, by obtain ⟨cur, hcb, _⟩ := R; exact own_ne_blk C.or hcb (by decide)⟩ hs, ?_, R6.same (hs _ (R6.ne_ R (by decide))), hb.setCell (p := ⟨go, ps, none⟩) hM _⟩
  have := R.set ps (.int .u32 (x : Int))
  unfold u32s at this ⊢
  rw [List.map_set]
  exact this
end
section
variable {w : World} {h : HM} {l : List Ob} {A A' : Option Addr} {n c n' c' : Nat}
end
end Go.Proofs.YtlkahgagmfhdaaaGreatDoor

namespace Go.Proofs.YtlkahgagmfhdaaaGreatDoor
open Go.RowKit Go.Sort
attribute [local go_sem] Oper.semAt_some
def CsK.cells (k : CsK) : Array Value := #[.int .i64 k.size, .slice k.A k.n k.c, .slice k.A' k.n' k.c', .int .u32 (k.last : Nat)]
section
variable {W : World}
end
end Go.Proofs.YtlkahgagmfhdaaaGreatDoor

namespace Go.Proofs.YtlkahgagmfhdaaaGreatDoor
open Go.RowKit Go.Sort
attribute [local go_sem] Oper.semAt_some
end Go.Proofs.YtlkahgagmfhdaaaGreatDoor

namespace Go.Proofs.YtlkahgagmfhdaaaGreatDoor
open Go.RowKit
/-- The objects met, in their order; one more. -/
def addX (X : List Nat) (p : Nat) : List Nat := if kindM p = 2 ∧ p ∉ X then X ++ [p] else X
/-- Where alike's blocks lie: the boxes of to, back, x, y; the rows of to and back. -/
structure AkB where
  bT : Nat
  bB : Nat
  bX : Nat
  bY : Nat
  gT : Nat
  gB : Nat
structure AkAt (w : World) (B : Nat) (x : AkB) (vx vy : Value) (tl : List Nat) (bl : List Bool) (xs ys : List Nat) : Prop where
  boxT : Blk w x.bT 101 #[.slice (some ⟨x.gT, 0, none⟩) tl.length tl.length]
  boxB : Blk w x.bB 108 #[.slice (some ⟨x.gB, 0, none⟩) bl.length bl.length]
  boxX : Blk w x.bX 101 #[vx]
  boxY : Blk w x.bY 101 #[vy]
  rt : Row w x.gT 54 tl.length (u32s tl)
  bk : Row w x.gB 4 bl.length (bools bl)
  rx : w.ownsRow B 54 1 vx xs.length (u32s xs)
  ry : w.ownsRow B 54 1 vy ys.length (u32s ys)
  hB : B ≤ x.bT ∧ B ≤ x.bB ∧ B ≤ x.bX ∧ B ≤ x.bY ∧ B ≤ x.gT ∧ B ≤ x.gB
  ne1 : x.bT ≠ x.bX ∧ x.bT ≠ x.bY ∧ x.bX ≠ x.bY
  neX : vx.ownBlock ≠ some x.gT
  neY : vy.ownBlock ≠ some x.gT
  neR : ∀ k, vx.ownBlock = some k → vy.ownBlock ≠ some k
/-- What a deed with it keeps: what was there ahead, and copies of headers. -/
structure AkFr (B : Nat) (w w' : World) : Prop where
  low : Below B w w'
  hdr : ∀ k cs, Blk w k 75 cs → Blk w' k 75 cs
theorem AkFr.trans {B : Nat} {a b c : World} (h : AkFr B a b) (k : AkFr B b c) : AkFr B a c := ⟨h.low.trans k.low, fun i cs hb => k.hdr i cs (h.hdr i cs hb)⟩
theorem AkFr.of_below {B : Nat} {a b : World} (hB : B ≤ a.heap.size) (h : Below a.heap.size a b) : AkFr B a b := ⟨h.mono hB, fun k cs hb => hb.below h hb.lt⟩
section
variable {w w' w3 : World} {B : Nat} {x : AkB} {vx vy : Value} {tl : List Nat} {bl : List Bool} {xs ys : List Nat}
theorem AkAt.below (K : AkAt w B x vx vy tl bl xs ys) (hb : Below w.heap.size w w') : AkAt w' B x vx vy tl bl xs ys :=
  ⟨K.boxT.below hb K.boxT.lt, K.boxB.below hb K.boxB.lt, K.boxX.below hb K.boxX.lt, K.boxY.below hb K.boxY.lt, K.rt.same (hb.block _ K.rt.lt), K.bk.same (hb.block _ K.bk.lt), own_below K.rx hb, own_below K.ry hb, K.hB, K.ne1, K.neX, K.neY, K.neR⟩
/-- A cell of a block that is none of the rows' and boxes' but one. -/
theorem Blk.off {g : Nat} {t : TypeId} {cs : Array Value} (h : Blk w g t cs) {k : Nat} (hk : g ≠ k) (i : Nat) (u : Value) : Blk (w.setCell ⟨k, i, none⟩ u) g t cs := h.same (Below.heap_setCell w ⟨k, i, none⟩ u g hk)
theorem Row.off {g c : Nat} {e : TypeId} {zs : List Value} (h : Row w g e c zs) {k : Nat} (hk : g ≠ k) (i : Nat) (u : Value) : Row (w.setCell ⟨k, i, none⟩ u) g e c zs := h.same (Below.heap_setCell w ⟨k, i, none⟩ u g hk)
end
end Go.Proofs.YtlkahgagmfhdaaaGreatDoor

namespace Go.Proofs.YtlkahgagmfhdaaaGreatDoor
open Go.RowKit Go.Sort
attribute [local go_sem] Oper.semAt_some
section
variable {w : World} {B : Nat} {x : AkB} {vx vy : Value} {go : Nat → Nat} {X : List Nat} {N M : Nat}
end
end Go.Proofs.YtlkahgagmfhdaaaGreatDoor

namespace Go.Proofs.YtlkahgagmfhdaaaGreatDoor
open Go.RowKit Go.Sort
attribute [local go_sem] Oper.semAt_some
end Go.Proofs.YtlkahgagmfhdaaaGreatDoor

namespace Go.Proofs.YtlkahgagmfhdaaaGreatDoor
open Go.RowKit
section
variable {h : HM} {l : List Ob}
theorem colL_get {k : Nat} (hk : k < (keepZ h l).length) : (colL h l)[k]'(by rw [colL_len]; exact hk) = relob (planM h l) (voidM h l) ((keepZ h l)[k]).2 := by
  unfold colL
  rw [List.getElem_map]
theorem live_kz {o : Nat} (ho : o ∈ liveO h l) : ∃ k, ∃ hk : k < (keepZ h l).length, ((keepZ h l)[k]).1 = o ∧ goesM (planM h l) o = 2 * posOf ((colL h l).take k) := by
  rw [← keepZ_fst] at ho
  obtain ⟨p, hp, rfl⟩ := List.mem_map.1 ho
  obtain ⟨k, hk, rfl⟩ := List.getElem_of_mem hp
  exact ⟨k, hk, rfl, goesM_at (by rw [planM_fst, ← keepZ_fst]; exact keepZ_nodup h l) (plan_get h l hk)⟩
end
end Go.Proofs.YtlkahgagmfhdaaaGreatDoor

namespace Go.Proofs.YtlkahgagmfhdaaaGreatDoor
open Go.RowKit Go.Sort
attribute [local go_sem] Oper.semAt_some
/-- A heap beside another one that is worked on. -/
theorem Live.beside {W w w' : World} {p q q' : HP} {g : Nat} {h : HM} (L : Live W w p g h) (s : Step q q' w w') (hd : ∀ j, p.has j → ¬ q.has j) (hq : ∀ j, q.has j → W.heap.size ≤ j) : Live W w' p g h :=
  ⟨L.at_.same (fun j hj => s.block j (L.at_.lt hj) (hd j hj)), L.hg, L.good, L.env, L.new, L.below.trans ⟨s.os, s.tape, s.output, s.size, fun j hj => s.block j (by have := L.below.size; omega) (fun e => by have := hq j e; omega)⟩⟩
end Go.Proofs.YtlkahgagmfhdaaaGreatDoor

namespace Go.Proofs.YtlkahgagmfhdaaaGreatDoor
open Go.RowKit Go.Sort
attribute [local go_sem] Oper.semAt_some
theorem isB_obj {h : HM} {l : List Ob} (G : h.Good l) {j : Nat} (hj : j < l.length) : h.isB (2 * posOf (l.take j)) = true := (G.laid.isB_iff _).2 ⟨l.take j, l[j], l.drop (j + 1), split_at l j hj, rfl⟩
end Go.Proofs.YtlkahgagmfhdaaaGreatDoor

namespace Go.Proofs.YtlkahgagmfhdaaaGreatDoor
open Go.RowKit
section
variable {h : HM} {l : List Ob}
/-- The lists of those that are met: none twice, all live. -/
structure OkX (h : HM) (l : List Ob) (X : List Nat) : Prop where
  nd : X.Nodup
  live : ∀ x ∈ X, x ∈ liveO h l
theorem OkX.nil : OkX h l [] := ⟨List.nodup_nil, fun x hx => by cases hx⟩
theorem OkX.add {X : List Nat} (o : OkX h l X) {p : Nat} (hp : kindM p = 2 → p ∈ liveO h l) : OkX h l (addX X p) := by
  unfold addX
  split
  · rename_i hc
    refine ⟨List.nodup_append.2 ⟨o.nd, by simp, fun a ha b hb e => ?_⟩, fun x hx => ?_⟩
    · rcases List.mem_singleton.1 hb with rfl
      exact hc.2 (e ▸ ha)
    · rcases List.mem_append.1 hx with hx | hx
      · exact o.live x hx
      · rcases List.mem_singleton.1 hx with rfl
        exact hp hc.1
  · exact o
theorem OkX.len {X : List Nat} (o : OkX h l X) (G : h.Good l) : X.length ≤ 1048576 := by
  have h1 := len_of_sub X (oopsL l) o.nd (fun x hx => (List.mem_filter.1 (o.live x hx)).1)
  have h2 := oopsL_le G
  omega
/-- A live object ahead and behind. -/
theorem live_obj (G : h.Good l) {x : Nat} (hx : x ∈ liveO h l) : ∃ j, ∃ hj : j < l.length, ∃ k, ∃ hk : k < (colL h l).length, x = 2 * posOf (l.take j) ∧ goesM (planM h l) x = 2 * posOf ((colL h l).take k) ∧ (colL h l)[k] = relob (planM h l) (voidM h l) l[j] ∧
    (∀ y ∈ (l[j]).x.cls :: (if (l[j]).x.fmt = 1 then (l[j]).fs else []), kindM y = 2 → y ∈ liveO h l) := by
  obtain ⟨k, hkz, e1, g1⟩ := live_kz hx
  obtain ⟨j, hj, e2, e3, _⟩ := keepZ_mem (List.getElem_mem hkz)
  rw [e1] at e2
  have hk' : k < (colL h l).length := by rw [colL_len]; exact hkz
  refine ⟨j, hj, k, hk', e2, g1, by rw [colL_get hkz, e3], fun y hy hk2 => ?_⟩
  refine live_of_held G (List.getElem_mem hkz) ?_ hk2
  rw [keepZ_held G (List.getElem_mem hkz), e3]
  exact hy
theorem fw_ob {g : HM} {L : List Ob} (G : g.Good L) {j : Nat} (hj : j < L.length) {i : Nat} (hi : i < (L[j]).fs.length) : fw g (2 * posOf (L.take j)) i = (L[j]).fs.getD i 0 := by
  have L' := G.laid
  rw [split_at L j hj] at L'
  exact L'.f_at i hi
theorem relob_fsP {pl : List (Nat × Nat)} {void : Nat} {b : Ob} (hp : b.x.ptrB = true) : (relob pl void b).fs = b.fs.map (fldM pl void) := by
  unfold relob
  rw [hp]
  rfl
end
end Go.Proofs.YtlkahgagmfhdaaaGreatDoor

namespace Go.Proofs.YtlkahgagmfhdaaaGreatDoor
open Go.RowKit
section
variable {h : HM} {l : List Ob}
theorem hd_ob {g : HM} {L : List Ob} (G : g.Good L) {j : Nat} (hj : j < L.length) : g.hd (2 * posOf (L.take j) / 2) = (L[j]).x := by
  have L' := G.laid
  rw [split_at L j hj] at L'
  rw [half_pos, L'.hd_at]
theorem fld_goes (G : h.Good l) (void : Nat) {x : Nat} (hx : kindM x = 2 → x ∈ liveO h l) : fldM (planM h l) void x = whereM (planM h l) x := by
  refine fld_live ?_
  unfold deadB
  exact decide_eq_false fun hd => hd.2 (by rw [planM_fst]; exact hx hd.1)
theorem where_goes {pl : List (Nat × Nat)} {x : Nat} (hk : kindM x = 2) : whereM pl x = goesM pl x := by unfold whereM; rw [if_pos hk]
end
end Go.Proofs.YtlkahgagmfhdaaaGreatDoor
