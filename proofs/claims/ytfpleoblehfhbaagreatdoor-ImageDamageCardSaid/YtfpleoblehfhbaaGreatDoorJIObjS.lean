/- A growing row of bytes in a box, beside a saver: what loops over objects keep. -/
/- What lay keeps on its way. -/
/- The document's book of a heap. -/
import Derived.Test.YtfpleoblehfhbaaGreatDoorJIHead
import Derived.Test.YtfpleoblehfhbaaGreatDoorJIEq
import Derived.Test.YtfpleoblehfhbaaGreatDoorJRefQ
import Derived.Test.YtfpleoblehfhbaaGreatDoorJAll
import Derived.Test.YtfpleoblehfhbaaGreatDoorJIBurst
set_option linter.unusedVariables false
set_option linter.unusedSimpArgs false
set_option linter.unusedSectionVars false
namespace Go.Proofs.YtfpleoblehfhbaaGreatDoor
open Go.RowKit
attribute [local go_sem] Oper.semAt_some

/-- What the body keeps: all that lies below M, and of cells all but bytes and boxes of rows of bytes. -/
structure KpO (M : Nat) (A B : World) : Prop where
  os : B.os = A.os
  tape : B.tape = A.tape
  output : B.output = A.output
  size : A.heap.size ≤ B.heap.size
  low : ∀ k, k < M → B.heap[k]? = A.heap[k]?
  cells : ∀ k cs t, t ≠ 5 → t ≠ 22 → Blk A k t cs → Blk B k t cs
theorem KpO.refl (M : Nat) (A : World) : KpO M A A := ⟨rfl, rfl, rfl, Nat.le_refl _, fun _ _ => rfl, fun _ _ _ _ _ b => b⟩
theorem KpO.trans {M : Nat} {A B C : World} (h : KpO M A B) (k : KpO M B C) : KpO M A C :=
  ⟨k.os.trans h.os, k.tape.trans h.tape, k.output.trans h.output, Nat.le_trans h.size k.size, fun i hi => (k.low i hi).trans (h.low i hi), fun i cs t h1 h2 b => k.cells i cs t h1 h2 (h.cells i cs t h1 h2 b)⟩
theorem KpO.of_below {M : Nat} {A B : World} (hb : Below A.heap.size A B) (hM : M ≤ A.heap.size) : KpO M A B :=
  ⟨hb.os, hb.tape, hb.output, hb.size, fun k hk => hb.block k (by omega), fun k cs t _ _ b => b.below hb b.lt⟩
theorem KpO.book {M : Nat} (W : World) (l : Nat) (o o' : Obj) (h1 : M ≤ l) (hl : W.heap[l]? = some o) (hc : o.isCells = false) : KpO M W (W.putObj l o') := by
  have hg := grownBy_putObj' W l o'
  have hk : ∀ k, k ≠ l → (W.putObj l o').heap[k]? = W.heap[k]? := fun k hk => by
    rcases Nat.lt_or_ge k W.heap.size with h | h
    · exact hg.block k h (fun e => by first | exact hk (Option.some.inj e).symm | exact hk (Option.some.inj e))
    · have e1 : (W.putObj l o').heap.size = W.heap.size := by simp [World.putObj]
      rw [Array.getElem?_eq_none (by omega), Array.getElem?_eq_none (by omega)]
  exact ⟨hg.os, hg.tape, hg.output, hg.size, fun k h => hk k (by omega), fun g cs t _ _ b => b.same (hk g (fun e => by
    subst e; have e2 := Option.some.inj (hl.symm.trans b); rw [e2] at hc; cases hc))⟩
theorem Row.keptO {M g c : Nat} {A B : World} {e : TypeId} {xs : List Value} (h : Row A g e c xs) (k : KpO M A B) (h1 : e ≠ 5) (h2 : e ≠ 22) : Row B g e c xs := by
  obtain ⟨cur, hb, r⟩ := h
  exact ⟨cur, k.cells g cur e h1 h2 hb, r⟩
theorem KpO.need {w : World} {h : HM} {n0 : Nat} (hs : Spares w) : NeedA (fun A B => KpO w.heap.size A B) n0 h :=
  ⟨fun k _ H => ⟨k.cells _ _ _ (by decide) (by decide) H.1, H.2.1.keptO k (by decide) (by decide), H.2.2.1.keptO k (by decide) (by decide), H.2.2.2.keptO k (by decide) (by decide)⟩,
    fun k hA i hi => (World.cell?_of_block (k.low _ (World.block_lt_of_cell? _ _ (hs i hi)))).trans (hA i hi)⟩
theorem KeepsFrom.belowI {w w' : World} {B : Nat} (hb : Below w.heap.size w w') : KeepsFrom B w w' := ⟨hb.size, fun k o _ ho _ => (hb.block k (lt_of_get ho)).trans ho⟩

/-- The state: a row of bytes of the call's own in a box, the saver's box. -/
structure OSt (w : World) (sg bS bB : Nat) (v : Value) (bs : List Nat) (W : World) : Prop where
  rb : RB w W w.heap.size v bs
  bb : Blk W bB 22 #[v]
  bx : Blk W bS 93 #[.pointer (some ⟨sg, 0, none⟩)]
section
variable {w W W' : World} {sg bS bB : Nat} {v v' : Value} {bs bs' : List Nat}
theorem OSt.below (S : OSt w sg bS bB v bs W) (hb : Below W.heap.size W W') : OSt w sg bS bB v bs W' := ⟨S.rb.below hb, S.bb.below hb S.bb.lt, S.bx.below hb S.bx.lt⟩
theorem own_typeI {w : World} {base : Nat} {e : TypeId} {v : Value} {n g : Nat} {xs : List Value} {o : Obj} (h : w.ownsRow base e 1 v n xs) (ho : w.heap[g]? = some o) (hne : ∀ cs, o ≠ .cells cs e (0, 0)) : v.ownBlock ≠ some g := by
  intro hk
  rcases h.2 with ⟨h1, _⟩ | ⟨g', cap, cur, h1, h2, h3, h4⟩
  · rw [h1] at hk; cases hk
  · rw [h1] at hk
    have e1 : g' = g := by injection hk
    rw [e1, ho] at h3
    injection h3 with h3
    exact hne _ h3
theorem own_blkI {w : World} {base : Nat} {e t : TypeId} {v : Value} {n g : Nat} {xs : List Value} {cs : Array Value} (h : w.ownsRow base e 1 v n xs) (b : Blk w g t cs) (hne : e ≠ t) : v.ownBlock ≠ some g :=
  own_typeI h b (fun cs' e => hne (by injection e with _ e; exact e.symm))
theorem OSt.own' {B : Nat} {row : Option Nat} (S : OSt w sg bS bB v bs W) (hB : w.heap.size ≤ B) (hg : W.grownBy W' row) (hr : ∀ r, row = some r → B ≤ r ∧ ∃ o : Obj, W.heap[r]? = some o ∧ o.isCells = false) : OSt w sg bS bB v bs W' := by
  have hc : ∀ g cs t, Blk W g t cs → W'.heap[g]? = W.heap[g]? := fun g cs t b => hg.block g b.lt (fun e => by
    obtain ⟨_, o, ho, hc⟩ := hr g e.symm
    unfold Blk at b; rw [b] at ho; injection ho with ho; subst ho; cases hc)
  refine ⟨⟨own_sameI S.rb.own (fun k hk => ?_), S.rb.base.grown hg S.rb.base.size (fun k e => by have := (hr k e).1; omega), S.rb.hB, Nat.le_trans S.rb.top hg.size⟩, S.bb.same (hc _ _ _ S.bb), S.bx.same (hc _ _ _ S.bx)⟩
  rcases S.rb.own.2 with ⟨h1, _⟩ | ⟨g', cap, cur, h1, h2, h3, h4⟩
  · rw [h1] at hk; cases hk
  · rw [h1] at hk
    have e1 : g' = k := by injection hk
    rw [e1] at h3
    exact hc _ _ _ h3
/-- Bytes are appended, the box is written. -/
theorem OSt.app {B : Nat} (S : OSt w sg bS bB v bs W) (hB : w.heap.size ≤ bB) (C : RB w W' w.heap.size v' bs') (hg : W.grownBy W' v.ownBlock) :
    OSt w sg bS bB v' bs' (W'.setCell ⟨bB, 0, none⟩ v') ∧ KpO w.heap.size W (W'.setCell ⟨bB, 0, none⟩ v') ∧ KeepsFrom B W (W'.setCell ⟨bB, 0, none⟩ v') ∧ W'.frozen? ⟨bB, 0, none⟩ = false ∧ (∃ u, W'.cell? ⟨bB, 0, none⟩ = some u) := by
  have hk : ∀ g t cs, Blk W g t cs → t ≠ 5 → W'.heap[g]? = W.heap[g]? := fun g t cs b hne => hg.block g b.lt (fun e => own_blkI S.rb.own b (Ne.symm hne) (by first | exact e | exact e.symm))
  have bb1 := S.bb.same (hk _ _ _ S.bb (by decide))
  have hfar : ∀ g, g ≠ bB → (W'.setCell ⟨bB, 0, none⟩ v').heap[g]? = W'.heap[g]? := fun g hne => Below.heap_setCell W' ⟨bB, 0, none⟩ v' g hne
  have hbase : Below w.heap.size w (W'.setCell ⟨bB, 0, none⟩ v') := C.base.setCell (p := ⟨bB, 0, none⟩) hB _
  have hsz : (W'.setCell ⟨bB, 0, none⟩ v').heap.size = W'.heap.size := by simp [World.setCell]
  have hne : ∀ g t cs, Blk W g t cs → t ≠ 22 → g ≠ bB := fun g t cs b h e => by
    subst e
    have h1 := S.bb
    unfold Blk at b h1
    rw [b] at h1
    injection h1 with h1
    injection h1 with _ h1
    exact h h1
  refine ⟨⟨⟨own_sameI C.own (fun k hk' => hfar k (fun e => ?_)), hbase, C.hB, by rw [hsz]; exact C.top⟩, bb1.set_ 0 v', ?_⟩, ⟨hg.os, hg.tape, hg.output, by rw [hsz]; exact hg.size, fun k hk' => (hbase.block k hk').trans (S.rb.base.block k hk').symm, fun k cs t h1 h2 b => b.same ((hfar k (hne _ _ _ b h2)).trans (hk _ _ _ b h1))⟩, ⟨by rw [hsz]; exact hg.size, fun k o hk' ho hc => ?_⟩, bb1.frozen 0, ⟨_, bb1.cell 0⟩⟩
  · subst e
    exact own_blkI C.own bb1 (by decide) hk'
  · exact S.bx.same ((hfar _ (hne _ _ _ S.bx (by decide))).trans (hk _ _ _ S.bx (by decide)))
  · have h1 : k ≠ bB := fun e => by
      subst e
      have h1 := S.bb
      unfold Blk at h1
      rw [ho] at h1
      injection h1 with h1
      subst h1
      cases hc
    refine (hfar k h1).trans ((hg.block k (lt_of_get ho) (fun e => own_typeI S.rb.own ho (fun cs e2 => by subst e2; cases hc) (by first | exact e | exact e.symm))).trans ho)
/-- The same within a round, with the header's box. -/
structure OB (w : World) (sg bS bB B0 : Nat) (Ws : World) (b5 : Nat) (X : Hd) (v : Value) (bs : List Nat) (W : World) : Prop where
  st : OSt w sg bS bB v bs W
  kp : KpO w.heap.size Ws W
  kf : KeepsFrom B0 Ws W
  hd : Blk W b5 117 X.cells
variable {B0 b5 : Nat} {Ws : World} {X : Hd}
theorem OB.below (S : OB w sg bS bB B0 Ws b5 X v bs W) (hb : Below W.heap.size W W') : OB w sg bS bB B0 Ws b5 X v bs W' :=
  ⟨S.st.below hb, S.kp.trans (.of_below hb (Nat.le_trans S.st.rb.hB S.st.rb.top)), S.kf.trans (KeepsFrom.belowI hb), S.hd.below hb S.hd.lt⟩
theorem OB.app (S : OB w sg bS bB B0 Ws b5 X v bs W) (hB : w.heap.size ≤ bB) (C : RB w W' w.heap.size v' bs') (hg : W.grownBy W' v.ownBlock) : OB w sg bS bB B0 Ws b5 X v' bs' (W'.setCell ⟨bB, 0, none⟩ v') := by
  obtain ⟨h1, h2, h3, _⟩ := S.st.app (B := B0) hB C hg
  exact ⟨h1, S.kp.trans h2, S.kf.trans h3, h2.cells _ _ _ (by decide) (by decide) S.hd⟩
/-- The cells that are read. -/
theorem OB.cells (S : OB w sg bS bB B0 Ws b5 X v bs W) : W.cell? ⟨bB, 0, none⟩ = some v ∧ W.cell? ⟨bS, 0, none⟩ = some (.pointer (some ⟨sg, 0, none⟩)) ∧ W.cell? ⟨b5, 0, none⟩ = some (.int .i64 X.size) ∧ W.cell? ⟨b5, 1, none⟩ = some (.int .i64 X.fmt) ∧ W.cell? ⟨b5, 2, none⟩ = some (.int .i64 X.spare) ∧ W.cell? ⟨b5, 3, none⟩ = some (.int .u32 X.cls) ∧ W.cell? ⟨b5, 4, none⟩ = some (.int .u32 X.ser) :=
  ⟨S.st.bb.cell 0, S.st.bx.cell 0, S.hd.cell 0, S.hd.cell 1, S.hd.cell 2, S.hd.cell 3, S.hd.cell 4⟩
end
/-- The cells that a region reads. -/
structure OCells (sg mb pg bS bB b5 : Nat) (L : List Nat) (X : Hd) (v : Value) (W : World) : Prop where
  cB : W.cell? ⟨bB, 0, none⟩ = some v
  cS : W.cell? ⟨bS, 0, none⟩ = some (.pointer (some ⟨sg, 0, none⟩))
  g0 : W.cell? ⟨sg, 0, none⟩ = some (.pointer (some ⟨pg, 0, none⟩))
  g1 : W.cell? ⟨sg, 1, none⟩ = some (.map (some mb))
  x0 : W.cell? ⟨b5, 0, none⟩ = some (.int .i64 X.size)
  x1 : W.cell? ⟨b5, 1, none⟩ = some (.int .i64 X.fmt)
  x2 : W.cell? ⟨b5, 2, none⟩ = some (.int .i64 X.spare)
  x3 : W.cell? ⟨b5, 3, none⟩ = some (.int .u32 X.cls)
  x4 : W.cell? ⟨b5, 4, none⟩ = some (.int .u32 X.ser)
  lk : (Instr.lookup 74 (.map (some mb)) (.int .u32 (X.cls : Int)) false).run Tryz.prog W = .ok (.int .u32 (numL L X.cls : Nat)) W
section
variable {w W W' : World} {sg mb pg bS bB B0 b5 : Nat} {Ws : World} {v v' : Value} {bs bs' : List Nat} {X : Hd} {L : List Nat}
theorem OB.oc (O : OB w sg bS bB B0 Ws b5 X v bs W) (S : SvAt w sg mb pg L) (hnd : L.Nodup) (hc : X.cls < 4294967296) : OCells sg mb pg bS bB b5 L X v W := by
  obtain ⟨h0, h1, h2, h3, h4, h5, h6⟩ := O.cells
  have S' := S.below O.st.rb.base
  exact ⟨h0, h1, S'.box.cell 0, S'.box.cell 1, h2, h3, h4, h5, h6, S'.map.look hnd oopTyU hc⟩
/-- Ahead of the box's writing. -/
theorem OB.ocm (O : OB w sg bS bB B0 Ws b5 X v bs W) (S : SvAt w sg mb pg L) (hnd : L.Nodup) (hc : X.cls < 4294967296) (C : RB w W' w.heap.size v' bs') (hg : W.grownBy W' v.ownBlock) : OCells sg mb pg bS bB b5 L X v W' := by
  have hk : ∀ g t cs, Blk W g t cs → t ≠ 5 → Blk W' g t cs := fun g t cs b hne => b.same (hg.block g b.lt (fun e => own_blkI O.st.rb.own b (Ne.symm hne) (by first | exact e | exact e.symm)))
  have S' := S.below C.base
  have hd := hk _ _ _ O.hd (by decide)
  exact ⟨(hk _ _ _ O.st.bb (by decide)).cell 0, (hk _ _ _ O.st.bx (by decide)).cell 0, S'.box.cell 0, S'.box.cell 1, hd.cell 0, hd.cell 1, hd.cell 2, hd.cell 3, hd.cell 4, S'.map.look hnd oopTyU hc⟩
theorem OB.room (O : OB w sg bS bB B0 Ws b5 X v bs W) (C : RB w W' w.heap.size v' bs') (hg : W.grownBy W' v.ownBlock) : W'.frozen? ⟨bB, 0, none⟩ = false ∧ W'.cell? ⟨bB, 0, none⟩ = some v := by
  have hk : ∀ g t cs, Blk W g t cs → t ≠ 5 → Blk W' g t cs := fun g t cs b hne => b.same (hg.block g b.lt (fun e => own_blkI O.st.rb.own b (Ne.symm hne) (by first | exact e | exact e.symm)))
  have h := hk _ _ _ O.st.bb (by decide)
  exact ⟨h.frozen 0, h.cell 0⟩
end
end Go.Proofs.YtfpleoblehfhbaaGreatDoor

namespace Go.Proofs.YtfpleoblehfhbaaGreatDoor
open Go.RowKit
attribute [local go_sem] Oper.semAt_some

/-- The fields' rows, below B, apart from block g. -/
def WrB (w : World) (B g : Nat) (us : List Wr) : Prop := ∀ u ∈ us, Reads w B 1 u.A u.fs.length (u32s u.fs) ∧ (0 < u.fs.length → ∀ a, u.A = some a → a.block ≠ g)
theorem WrB.keep {w w' : World} {B g : Nat} {us : List Wr} (h : WrB w B g us) (hk : ∀ k, k < B → k ≠ g → w'.heap[k]? = w.heap[k]?) : WrB w' B g us := fun u hu => by
  obtain ⟨h1, h2⟩ := h u hu
  refine ⟨⟨h1.1, fun hn => ?_⟩, h2⟩
  obtain ⟨a, ha, hb, hc⟩ := h1.2 hn
  exact ⟨a, ha, hb, fun j v hv => (World.cell?_of_block (a := a.add j) (by rw [block_of_add]; exact hk a.block hb (h2 hn a ha))).trans (hc j v hv)⟩
/-- Places set for the first k. -/
def usK (us : List Wr) (k : Nat) : List Wr := (List.range us.length).map fun j => if j < k then { (us.getD j default) with pl := placeT ((us.map Wr.th).take j) } else us.getD j default
theorem usK_len (us : List Wr) (k : Nat) : (usK us k).length = us.length := by simp [usK]
theorem usK_get (us : List Wr) (k j : Nat) (hj : j < us.length) : (usK us k).getD j default = if j < k then { (us.getD j default) with pl := placeT ((us.map Wr.th).take j) } else us.getD j default := by
  unfold usK
  rw [List.getD_eq_getElem?_getD, List.getElem?_map, List.getElem?_range hj]
  rfl
theorem usK_zero (us : List Wr) : usK us 0 = us := by
  apply List.ext_getElem
  · simp [usK]
  · intro i h1 h2
    simp [usK, List.getD_eq_getElem?_getD, List.getElem?_eq_getElem h2]
theorem usK_set (us : List Wr) (k : Nat) (hk : k < us.length) : (usK us k).set k { ((usK us k).getD k default) with pl := placeT ((us.map Wr.th).take k) } = usK us (k + 1) := by
  rw [usK_get us k k hk, if_neg (by omega)]
  apply List.ext_getElem
  · simp [usK]
  · intro i h1 h2
    rw [usK_len] at h2
    rw [List.getElem_set]
    have e1 : (usK us (k + 1))[i]'(by rw [usK_len]; exact h2) = (usK us (k + 1)).getD i default := by rw [List.getD_eq_getElem?_getD, List.getElem?_eq_getElem (by rw [usK_len]; exact h2)]; rfl
    have e2 : (usK us k)[i]'(by rw [usK_len]; exact h2) = (usK us k).getD i default := by rw [List.getD_eq_getElem?_getD, List.getElem?_eq_getElem (by rw [usK_len]; exact h2)]; rfl
    rw [e1, e2, usK_get us (k + 1) i h2, usK_get us k i h2]
    by_cases hik : k = i
    · subst hik
      rw [if_pos rfl, if_pos (by omega)]
    · rw [if_neg hik]
      by_cases hlt : i < k
      · rw [if_pos hlt, if_pos (by omega)]
      · rw [if_neg hlt, if_neg (by omega)]
theorem usK_th (us : List Wr) (k : Nat) : (usK us k).map Wr.th = us.map Wr.th := by
  apply List.ext_getElem
  · simp [usK]
  · intro i h1 h2
    have hi : i < us.length := by simpa using h2
    rw [List.getElem_map, List.getElem_map]
    have e1 : (usK us k)[i]'(by rw [usK_len]; exact hi) = (usK us k).getD i default := by rw [List.getD_eq_getElem?_getD, List.getElem?_eq_getElem (by rw [usK_len]; exact hi)]; rfl
    rw [e1, usK_get us k i hi, List.getD_eq_getElem?_getD, List.getElem?_eq_getElem hi]
    split <;> rfl
theorem usK_mem {us : List Wr} {k : Nat} {u : Wr} (h : u ∈ usK us k) : ∃ u', u' ∈ us ∧ u.x = u'.x ∧ u.A = u'.A ∧ u.c = u'.c ∧ u.fs = u'.fs := by
  unfold usK at h
  obtain ⟨j, hj, rfl⟩ := List.mem_map.1 h
  have hj' := List.mem_range.1 hj
  refine ⟨us.getD j default, by rw [List.getD_eq_getElem?_getD, List.getElem?_eq_getElem hj']; exact List.getElem_mem hj', ?_⟩
  split <;> exact ⟨rfl, rfl, rfl, rfl⟩
theorem WrB.usK {w : World} {B g : Nat} {us : List Wr} (h : WrB w B g us) (k : Nat) : WrB w B g (usK us k) := fun u hu => by
  obtain ⟨u', h1, h2, h3, h4, h5⟩ := usK_mem hu
  rw [h3, h5]
  exact h u' h1
/-- The read struct on its way, with its two rows. -/
structure LaySt (Bg : Nat) (w0 wr : World) (b4 b5 bf b13 b8 g : Nat) (A : Option Addr) (c : Nat) (us : List Wr) (last : Nat) (fine : Bool) (Bw : Nat) (vw : Value) (ws : List Nat) (vr : Value) (rs : List Nat) : Prop where
  v : LayV wr b5 bf b13 A c us fine
  box : Blk wr b4 59 #[.int .i64 2, .int .i64 0, .int .u32 last, vw, vr]
  res : Blk wr b8 59 #[.int .i64 0, .int .i64 0, .int .u32 0, .slice none 0 0, .slice none 0 0]
  wo : wr.ownsRow Bw 32 1 vw ws.length (u32s ws)
  ro : wr.ownsRow Bw 81 1 vr rs.length (u32s rs)
  fr : Below Bg w0 wr
  flds : WrB wr w0.heap.size g us
  l4 : w0.heap.size ≤ b4 ∧ b4 < Bw
  l5 : w0.heap.size ≤ b5 ∧ b5 < Bw
  lf : w0.heap.size ≤ bf ∧ bf < Bw
  l13 : w0.heap.size ≤ b13 ∧ b13 < Bw
  l8 : w0.heap.size ≤ b8 ∧ b8 < Bw
  lg : g < w0.heap.size
  lB : Bg ≤ g
  eg : 0 < us.length → A = some ⟨g, 0, none⟩
  n48 : b4 ≠ b8
  top : Bw ≤ wr.heap.size
  kept : ∀ k, k < w0.heap.size → k ≠ g → wr.heap[k]? = w0.heap[k]?
section
variable {Bg b4 b5 bf b13 b8 g c last Bw : Nat} {w0 wr w' : World} {A : Option Addr} {us : List Wr} {fine fine' : Bool} {vw vr v' : Value} {ws rs : List Nat}
theorem LaySt.keep (S : LaySt Bg w0 wr b4 b5 bf b13 b8 g A c us last fine Bw vw ws vr rs) (hos : w'.os = wr.os) (ht : w'.tape = wr.tape) (ho : w'.output = wr.output) (hsz : wr.heap.size ≤ w'.heap.size)
    (hk : ∀ k, k < wr.heap.size → k ≠ bf → k ≠ b4 → vw.ownBlock ≠ some k → vr.ownBlock ≠ some k → w'.heap[k]? = wr.heap[k]?) :
    (∀ k, k < Bw → k ≠ bf → k ≠ b4 → w'.heap[k]? = wr.heap[k]?) := fun k hB h1 h2 => hk k (Nat.lt_of_lt_of_le hB S.top) h1 h2 (fun e => by have := (S.wo.lt k e).1; omega) (fun e => by have := (S.ro.lt k e).1; omega)
/-- Fit together again from what is kept. -/
theorem LaySt.re (S : LaySt Bg w0 wr b4 b5 bf b13 b8 g A c us last fine Bw vw ws vr rs) {vw' vr' : Value} {ws' rs' : List Nat} (hos : w'.os = wr.os) (ht : w'.tape = wr.tape) (ho : w'.output = wr.output) (hsz : wr.heap.size ≤ w'.heap.size)
    (hk : ∀ k, k < Bw → k ≠ bf → k ≠ b4 → w'.heap[k]? = wr.heap[k]?) (hf : Blk w' bf 4 #[.bool fine']) (hb : Blk w' b4 59 #[.int .i64 2, .int .i64 0, .int .u32 last, vw', vr'])
    (hw : w'.ownsRow Bw 32 1 vw' ws'.length (u32s ws')) (hr : w'.ownsRow Bw 81 1 vr' rs'.length (u32s rs')) : LaySt Bg w0 w' b4 b5 bf b13 b8 g A c us last fine' Bw vw' ws' vr' rs' := by
  have n5f : b5 ≠ bf := fun e => by have h1 := S.v.b.objs; have h2 := S.v.b.fn; unfold Blk at h1 h2; rw [e, h2] at h1; injection h1 with h1; injection h1 with _ h1; exact absurd h1 (by decide)
  have n54 : b5 ≠ b4 := fun e => by have h1 := S.v.b.objs; have h2 := S.box; unfold Blk at h1 h2; rw [e, h2] at h1; injection h1 with h1; injection h1 with _ h1; exact absurd h1 (by decide)
  have n13f : b13 ≠ bf := fun e => by have h1 := S.v.cl; have h2 := S.v.b.fn; unfold Blk at h1 h2; rw [e, h2] at h1; injection h1 with h1; injection h1 with _ h1; exact absurd h1 (by decide)
  have n134 : b13 ≠ b4 := fun e => by have h1 := S.v.cl; have h2 := S.box; unfold Blk at h1 h2; rw [e, h2] at h1; injection h1 with h1; injection h1 with _ h1; exact absurd h1 (by decide)
  have n8f : b8 ≠ bf := fun e => by have h1 := S.res; have h2 := S.v.b.fn; unfold Blk at h1 h2; rw [e, h2] at h1; injection h1 with h1; injection h1 with _ h1; exact absurd h1 (by decide)
  have l4 := S.l4
  have lf := S.lf
  have lg := S.lg
  refine ⟨⟨⟨S.v.b.objs.same (hk _ S.l5.2 n5f n54), hf, fun h0 => ?_, S.v.b.pl, S.v.b.top, S.v.b.len⟩, S.v.cl.same (hk _ S.l13.2 n13f n134)⟩, hb, S.res.same (hk _ S.l8.2 n8f (Ne.symm S.n48)), hw, hr, ⟨hos.trans S.fr.os, ht.trans S.fr.tape, ho.trans S.fr.output, Nat.le_trans S.fr.size hsz, fun k hkB => (hk k (by have := S.lB; omega) (by have := S.lB; omega) (by have := S.lB; omega)).trans (S.fr.block k hkB)⟩,
    S.flds.keep (fun k h1 h2 => hk k (by omega) (by omega) (by omega)), S.l4, S.l5, S.lf, S.l13, S.l8, S.lg, S.lB, S.eg, S.n48, Nat.le_trans S.top hsz, fun k h1 h2 => (hk k (by omega) (by omega) (by omega)).trans (S.kept k h1 h2)⟩
  obtain ⟨g', h1, h2⟩ := S.v.b.row h0
  have e := S.eg h0
  rw [h1] at e
  injection e with e
  injection e with e
  subst e
  exact ⟨g', h1, h2.same (hk g' (by omega) (by omega) (by omega))⟩
theorem LaySt.below (S : LaySt Bg w0 wr b4 b5 bf b13 b8 g A c us last fine Bw vw ws vr rs) (h : Below wr.heap.size wr w') : LaySt Bg w0 w' b4 b5 bf b13 b8 g A c us last fine Bw vw ws vr rs :=
  S.re h.os h.tape h.output h.size (fun k hk _ _ => h.block k (Nat.lt_of_lt_of_le hk S.top)) (S.v.b.fn.below h S.v.b.fn.lt) (S.box.below h S.box.lt) (own_sameI S.wo (fun k hk => h.block k (S.wo.lt k hk).2)) (own_sameI S.ro (fun k hk => h.block k (S.ro.lt k hk).2))
theorem LaySt.fineS (S : LaySt Bg w0 wr b4 b5 bf b13 b8 g A c us last fine Bw vw ws vr rs) (hf : Blk w' bf 4 #[.bool fine']) (F : Fr1 bf wr w') : LaySt Bg w0 w' b4 b5 bf b13 b8 g A c us last fine' Bw vw ws vr rs := by
  have nf4 : b4 ≠ bf := fun e => by have h1 := S.box; have h2 := S.v.b.fn; unfold Blk at h1 h2; rw [e, h2] at h1; injection h1 with h1; injection h1 with _ h1; exact absurd h1 (by decide)
  exact S.re F.os F.tape F.output F.size (fun k hk h1 _ => F.same k (Nat.lt_of_lt_of_le hk S.top) h1) hf (S.box.fr1 F nf4) (own_sameI S.wo (fun k hk => F.same k (S.wo.lt k hk).2 (by have := (S.wo.lt k hk).1; have := S.lf; omega))) (own_sameI S.ro (fun k hk => F.same k (S.ro.lt k hk).2 (by have := (S.ro.lt k hk).1; have := S.lf; omega)))
theorem own_typ2 {w : World} {base : Nat} {e e' : TypeId} {v v2 : Value} {n n2 k : Nat} {xs ys : List Value} (h : w.ownsRow base e 1 v n xs) (h2 : w.ownsRow base e' 1 v2 n2 ys) (hne : e ≠ e') (hk : v.ownBlock = some k) : v2.ownBlock ≠ some k := by
  intro hk2
  rcases h.2 with ⟨h1, _⟩ | ⟨g1, cap, cur, rfl, _, h3, _⟩
  · rw [h1] at hk; cases hk
  · rcases h2.2 with ⟨h1, _⟩ | ⟨g2, cap2, cur2, rfl, _, h4, _⟩
    · rw [h1] at hk2; cases hk2
    · injection hk with hk
      injection hk2 with hk2
      simp only at hk hk2
      rw [hk] at h3
      rw [hk2, h3] at h4
      injection h4 with h4
      injection h4 with _ h4
      exact hne h4
theorem LaySt.appW {ys : List Nat} {m : Nat} (S : LaySt Bg w0 wr b4 b5 bf b13 b8 g A c us last fine Bw vw ws vr rs) (hm : ys.length = m) (ho : w'.ownsRow Bw 32 1 v' (ws.length + m) (u32s ws ++ u32s ys)) (hg : wr.grownBy w' vw.ownBlock) :
    LaySt Bg w0 (w'.setCell ⟨b4, 3, none⟩ v') b4 b5 bf b13 b8 g A c us last fine Bw v' (ws ++ ys) vr rs := by
  have hs : ∀ k, k < wr.heap.size → vw.ownBlock ≠ some k → w'.heap[k]? = wr.heap[k]? := fun k h1 h2 => hg.block k h1 (fun e => h2 (by first | exact e | exact e.symm))
  have hB : ∀ k, k < Bw → w'.heap[k]? = wr.heap[k]? := fun k h1 => hs k (Nat.lt_of_lt_of_le h1 S.top) (fun e => by have := (S.wo.lt k e).1; omega)
  have hfar : ∀ k, k ≠ b4 → (w'.setCell ⟨b4, 3, none⟩ v').heap[k]? = w'.heap[k]? := fun k h => Below.heap_setCell w' ⟨b4, 3, none⟩ v' k h
  have hsz : (w'.setCell ⟨b4, 3, none⟩ v').heap.size = w'.heap.size := by simp [World.setCell]
  have nf4 : bf ≠ b4 := fun e => by have h1 := S.box; have h2 := S.v.b.fn; unfold Blk at h1 h2; rw [e, h1] at h2; injection h2 with h2; injection h2 with _ h2; exact absurd h2 (by decide)
  have l4 := S.l4
  refine S.re hg.os hg.tape hg.output (by rw [hsz]; exact hg.size) (fun k h1 _ h3 => (hfar k h3).trans (hB k h1)) ((S.v.b.fn.same (hB _ S.lf.2)).same (hfar _ nf4)) ?_ ?_ ?_
  · exact (S.box.same (hB _ l4.2)).set_ 3 v'
  · have h1 := own_sameI (w' := w'.setCell ⟨b4, 3, none⟩ v') ho (fun k e => hfar k (by have := (ho.lt k e).1; omega))
    rw [List.length_append, hm, show u32s (ws ++ ys) = u32s ws ++ u32s ys by simp [u32s]]
    exact h1
  · exact own_sameI S.ro (fun k e => (hfar k (by have := (S.ro.lt k e).1; omega)).trans (hs k (S.ro.lt k e).2 (own_typ2 S.ro S.wo (by decide) e)))
theorem LaySt.appR {ys : List Nat} {m : Nat} (S : LaySt Bg w0 wr b4 b5 bf b13 b8 g A c us last fine Bw vw ws vr rs) (hm : ys.length = m) (ho : w'.ownsRow Bw 81 1 v' (rs.length + m) (u32s rs ++ u32s ys)) (hg : wr.grownBy w' vr.ownBlock) :
    LaySt Bg w0 (w'.setCell ⟨b4, 4, none⟩ v') b4 b5 bf b13 b8 g A c us last fine Bw vw ws v' (rs ++ ys) := by
  have hs : ∀ k, k < wr.heap.size → vr.ownBlock ≠ some k → w'.heap[k]? = wr.heap[k]? := fun k h1 h2 => hg.block k h1 (fun e => h2 (by first | exact e | exact e.symm))
  have hB : ∀ k, k < Bw → w'.heap[k]? = wr.heap[k]? := fun k h1 => hs k (Nat.lt_of_lt_of_le h1 S.top) (fun e => by have := (S.ro.lt k e).1; omega)
  have hfar : ∀ k, k ≠ b4 → (w'.setCell ⟨b4, 4, none⟩ v').heap[k]? = w'.heap[k]? := fun k h => Below.heap_setCell w' ⟨b4, 4, none⟩ v' k h
  have hsz : (w'.setCell ⟨b4, 4, none⟩ v').heap.size = w'.heap.size := by simp [World.setCell]
  have nf4 : bf ≠ b4 := fun e => by have h1 := S.box; have h2 := S.v.b.fn; unfold Blk at h1 h2; rw [e, h1] at h2; injection h2 with h2; injection h2 with _ h2; exact absurd h2 (by decide)
  have l4 := S.l4
  refine S.re hg.os hg.tape hg.output (by rw [hsz]; exact hg.size) (fun k h1 _ h3 => (hfar k h3).trans (hB k h1)) ((S.v.b.fn.same (hB _ S.lf.2)).same (hfar _ nf4)) ?_ ?_ ?_
  · exact (S.box.same (hB _ l4.2)).set_ 4 v'
  · exact own_sameI S.wo (fun k e => (hfar k (by have := (S.wo.lt k e).1; omega)).trans (hs k (S.wo.lt k e).2 (own_typ2 S.wo S.ro (by decide) e)))
  · have h1 := own_sameI (w' := w'.setCell ⟨b4, 4, none⟩ v') ho (fun k e => hfar k (by have := (ho.lt k e).1; omega))
    rw [List.length_append, hm, show u32s (rs ++ ys) = u32s rs ++ u32s ys by simp [u32s]]
    exact h1
variable {b16 : Nat} {cs : Array Value}
theorem LaySt.oFine (S : LaySt Bg w0 wr b4 b5 bf b13 b8 g A c us last fine Bw vw ws vr rs) (b : Blk wr b16 159 cs) (F : Fr1 bf wr w') : Blk w' b16 159 cs :=
  b.fr1 F (fun e => by have h2 := S.v.b.fn; unfold Blk at b h2; rw [e, h2] at b; injection b with b; injection b with _ b; exact absurd b (by decide))
theorem LaySt.oAppW (S : LaySt Bg w0 wr b4 b5 bf b13 b8 g A c us last fine Bw vw ws vr rs) (b : Blk wr b16 159 cs) (hg : wr.grownBy w' vw.ownBlock) : Blk (w'.setCell ⟨b4, 3, none⟩ v') b16 159 cs := by
  have h1 : b16 ≠ b4 := fun e => by have h2 := S.box; unfold Blk at b h2; rw [e, h2] at b; injection b with b; injection b with _ b; exact absurd b (by decide)
  have h2 : Blk w' b16 159 cs := b.same (hg.block b16 b.lt (fun e => own_blkI S.wo b (by decide) (by first | exact e | exact e.symm)))
  exact h2.same (Below.heap_setCell w' ⟨b4, 3, none⟩ v' b16 h1)
theorem LaySt.room (S : LaySt Bg w0 wr b4 b5 bf b13 b8 g A c us last fine Bw vw ws vr rs) (hg : wr.grownBy w' vw.ownBlock) : Blk w' b4 59 #[.int .i64 2, .int .i64 0, .int .u32 last, vw, vr] :=
  S.box.same (hg.block b4 S.box.lt (fun e => own_blkI S.wo S.box (by decide) (by first | exact e | exact e.symm)))
theorem LaySt.roomR (S : LaySt Bg w0 wr b4 b5 bf b13 b8 g A c us last fine Bw vw ws vr rs) (hg : wr.grownBy w' vr.ownBlock) : Blk w' b4 59 #[.int .i64 2, .int .i64 0, .int .u32 last, vw, vr] :=
  S.box.same (hg.block b4 S.box.lt (fun e => own_blkI S.ro S.box (by decide) (by first | exact e | exact e.symm)))
theorem LaySt.oSet (S : LaySt Bg w0 wr b4 b5 bf b13 b8 g A c us last fine Bw vw ws vr rs) (b : Blk wr b16 159 cs) (hB : Bw ≤ b16) (i : Nat) (u : Value) : LaySt Bg w0 (wr.setCell ⟨b16, i, none⟩ u) b4 b5 bf b13 b8 g A c us last fine Bw vw ws vr rs := by
  have hfar : ∀ k, k ≠ b16 → (wr.setCell ⟨b16, i, none⟩ u).heap[k]? = wr.heap[k]? := fun k h => Below.heap_setCell wr ⟨b16, i, none⟩ u k h
  have hsz : (wr.setCell ⟨b16, i, none⟩ u).heap.size = wr.heap.size := by simp [World.setCell]
  have lf := S.lf
  have l4 := S.l4
  exact S.re rfl rfl rfl (by rw [hsz]; exact Nat.le_refl _) (fun k hk _ _ => hfar k (by omega)) (S.v.b.fn.same (hfar _ (by omega))) (S.box.same (hfar _ (by omega)))
    (own_sameI S.wo (fun k hk => hfar k (fun e => own_blkI S.wo b (by decide) (e ▸ hk)))) (own_sameI S.ro (fun k hk => hfar k (fun e => own_blkI S.ro b (by decide) (e ▸ hk))))
theorem reads5 {w : World} {g n : Nat} {A : Option Addr} {xs : List Value} (h : Reads w w.heap.size 1 A n xs) (hne : 0 < n → ∀ a, A = some a → a.block ≠ g) (x0 x1 x2 x3 x4 : Value) :
    Reads (((((w.setCell ⟨g, 0, none⟩ x0).setCell ⟨g, 1, none⟩ x1).setCell ⟨g, 2, none⟩ x2).setCell ⟨g, 3, none⟩ x3).setCell ⟨g, 4, none⟩ x4) (((((w.setCell ⟨g, 0, none⟩ x0).setCell ⟨g, 1, none⟩ x1).setCell ⟨g, 2, none⟩ x2).setCell ⟨g, 3, none⟩ x3).setCell ⟨g, 4, none⟩ x4).heap.size 1 A n xs :=
  reads1 (reads1 (reads1 (reads1 (reads1 h hne) hne) hne) hne) hne
end
end Go.Proofs.YtfpleoblehfhbaaGreatDoor

namespace Go.Proofs.YtfpleoblehfhbaaGreatDoor
open Go.RowKit
attribute [local go_sem] Oper.semAt_some

structure BkSt (w0 w : World) (B bR bb mb : Nat) (v : Value) (K L : List Nat) : Prop where
  own : w.ownsRow B 81 1 v K.length (u32s K)
  box : Blk w bb 76 #[.map (some mb), v]
  res : Blk w bR 76 #[.map none, .slice none 0 0]
  map : MapU 81 w mb L
  base : Below w0.heap.size w0 w
  hB : w0.heap.size ≤ B
  top : B ≤ w.heap.size
  hR : w0.heap.size ≤ bR
  hb : w0.heap.size ≤ bb
  hm : w0.heap.size ≤ mb
  ne : bR ≠ bb
  nb : bb < B
  nR : bR < B
section
variable {w0 w w' : World} {B bR bb mb : Nat} {v v' : Value} {K L : List Nat}
theorem BkSt.below (S : BkSt w0 w B bR bb mb v K L) (hb : Below w.heap.size w w') : BkSt w0 w' B bR bb mb v K L :=
  ⟨own_sameI S.own (fun k hk => hb.block k (S.own.lt k hk).2), S.box.below hb S.box.lt, S.res.below hb S.res.lt, S.map.below hb, below_top S.base hb, S.hB, Nat.le_trans S.top hb.size, S.hR, S.hb, S.hm, S.ne, S.nb, S.nR⟩
/-- An oop is appended, the box is written. -/
theorem BkSt.app {x : Nat} (S : BkSt w0 w B bR bb mb v K L) (ho : w'.ownsRow B 81 1 v' (K.length + 1) (u32s K ++ u32s [x])) (hg : w.grownBy w' v.ownBlock) : BkSt w0 (w'.setCell ⟨bb, 1, none⟩ v') B bR bb mb v' (K ++ [x]) L := by
  have hk : ∀ g, g < B → w'.heap[g]? = w.heap[g]? := fun g hgB => hg.block g (by have := S.top; omega) (fun e => by have := (S.own.lt g (by first | exact e | exact e.symm)).1; omega)
  have hfar : ∀ g, g ≠ bb → (w'.setCell ⟨bb, 1, none⟩ v').heap[g]? = w'.heap[g]? := fun g hne => Below.heap_setCell w' ⟨bb, 1, none⟩ v' g hne
  have hsz : (w'.setCell ⟨bb, 1, none⟩ v').heap.size = w'.heap.size := by simp [World.setCell]
  refine ⟨?_, (S.box.same (hk _ S.nb)).set_ 1 v', S.res.same ((hfar _ S.ne).trans (hk _ S.nR)), S.map.same ?_, (S.base.grown hg S.base.size (fun k e => by have := (S.own.lt k e).1; have := S.hB; omega)).setCell (p := ⟨bb, 1, none⟩) S.hb v', S.hB, by rw [hsz]; exact Nat.le_trans S.top hg.size, S.hR, S.hb, S.hm, S.ne, S.nb, S.nR⟩
  · have h1 := own_sameI (w' := w'.setCell ⟨bb, 1, none⟩ v') ho (fun k e => hfar k (fun e2 => by have := (ho.lt k e).1; have := S.nb; omega))
    simpa [u32s] using h1
  · obtain ⟨es, c, hm⟩ := S.map.obj
    have h1 : w'.heap[mb]? = w.heap[mb]? := hg.block mb S.map.lt (fun e => own_typeI S.own hm (fun cs e2 => by cases e2) (by first | exact e | exact e.symm))
    refine (hfar _ (fun e => ?_)).trans h1
    subst e
    have h2 := S.box
    unfold Blk at h2
    rw [hm] at h2
    injection h2 with h2
    cases h2
theorem BkSt.room (S : BkSt w0 w B bR bb mb v K L) (hg : w.grownBy w' v.ownBlock) : w'.frozen? ⟨bb, 1, none⟩ = false ∧ w'.cell? ⟨bb, 1, none⟩ = some v := by
  have hk : w'.heap[bb]? = w.heap[bb]? := hg.block bb S.box.lt (fun e => by have := (S.own.lt bb (by first | exact e | exact e.symm)).1; have := S.nb; omega)
  have h := S.box.same hk
  exact ⟨h.frozen 1, h.cell 1⟩
/-- A number is put. -/
theorem BkSt.put {x : Nat} (S : BkSt w0 w B bR bb mb v K L) (hM : MapU 81 w' mb (L ++ [x])) (hg : w.grownBy w' (some mb)) : BkSt w0 w' B bR bb mb v K (L ++ [x]) := by
  obtain ⟨es, c, hm⟩ := S.map.obj
  have hk : ∀ g, g < w.heap.size → g ≠ mb → w'.heap[g]? = w.heap[g]? := fun g h1 h2 => hg.block g h1 (fun e => h2 (by injection e))
  have hb : ∀ g t cs, Blk w g t cs → g ≠ mb := fun g t cs b e => by
    subst e
    unfold Blk at b
    rw [hm] at b
    injection b with b
    cases b
  refine ⟨own_sameI S.own (fun k e => hk k (S.own.lt k e).2 (fun e2 => own_typeI S.own hm (fun cs e3 => by cases e3) (e2 ▸ e))), S.box.same (hk _ S.box.lt (hb _ _ _ S.box)), S.res.same (hk _ S.res.lt (hb _ _ _ S.res)), hM, S.base.grown hg S.base.size (fun k e => by injection e with e; have := S.hm; omega), S.hB, Nat.le_trans S.top hg.size, S.hR, S.hb, S.hm, S.ne, S.nb, S.nR⟩
end
/-- What book answers. -/
def RBookP (L : List Nat) (w : World) (e : Ending) (w' : World) : Prop :=
  ∃ mb v, e = .returned (bookV mb v) ∧ MapU 81 w' mb L ∧ w'.ownsRow w.heap.size 81 1 v L.length (u32s L) ∧ w.heap.size ≤ mb ∧ Below w.heap.size w w'
set_option maxRecDepth 100000 in
set_option maxHeartbeats 4000000 in
theorem rbook_any {w : World} {p : HP} {h : HM} {l : List Ob} (R : RAt w p h) (G : h.Good l) : Calls Tryz.prog 34 #[ptr p.g] w (RBookP (oopsL l) w) := by
  have hroom := G.fit.room
  have hhi := G.fit.hi
  have hlen := oopsL_le G
  have HH := Lib.hid (fun (w' : World) (hb : Below w.heap.size w w') => R.below hb)
  have HF := Lib.hid (fun (w' : World) (hb : Below w.heap.size w w') => rfirst_any (R.below hb) G.fit)
  have HN := Lib.hid (fun (w' : World) (hb : Below w.heap.size w w') (k : Nat) (hk : k < l.length) => rnext_any (R.below hb) G.fit G.laid.heads (2 * posOf (l.take k)) (by have := posOf_take_lt G k hk; omega) (isB_at G k hk))
  unfold ptr at HF HN ⊢
  have hmm := @run_makeMap Tryz.prog
  clear R
  go_enter Tryz.func34, Tryz.ntmps34
  obtain ⟨i0, hi0, hz0, hz1, hz2⟩ := info_parts info_oop
  go_wp2_with fail
  have hB0 : Below w.heap.size w (((w.alloc (.cells #[.map none, .slice none 0 0] 76)).alloc (.map #[] 0)).alloc (.cells #[.map (some (w.heap.size + 1)), .slice none 0 0] 76)) :=
    (((Below.refl _ w).alloc (Nat.le_refl _) _).alloc (by simp) _).alloc (by simp; omega) _
  have hS0 : BkSt w (((w.alloc (.cells #[.map none, .slice none 0 0] 76)).alloc (.map #[] 0)).alloc (.cells #[.map (some (w.heap.size + 1)), .slice none 0 0] 76)) (w.heap.size + 3) w.heap.size (w.heap.size + 1 + 1) (w.heap.size + 1) (.slice none 0 0) [] [] := by
    have b2 := Blk.new ((w.alloc (.cells #[.map none, .slice none 0 0] 76)).alloc (.map #[] 0)) 76 #[.map (some (w.heap.size + 1)), .slice none 0 0]
    have m1 := MapU.made (w.alloc (.cells #[.map none, .slice none 0 0] 76)) 81
    rw [World.size_alloc, World.size_alloc] at b2
    rw [World.size_alloc] at m1
    exact ⟨⟨rfl, .inl ⟨rfl, rfl⟩⟩, b2, ((Blk.new w _ _).alloc _).alloc _, m1.below ((Below.refl _ _).alloc (Nat.le_refl _) _), hB0, by omega, by simp, Nat.le_refl _, by omega, by omega, by omega, by omega, by omega⟩
  have HS0 := Lib.hid hS0
  have hf := HF.out _ hB0
  rw [first_oopI G] at hf
  clear hS0 HF
  generalize ((w.alloc (.cells #[.map none, .slice none 0 0] 76)).alloc (.map #[] 0)).alloc (.cells #[.map (some (w.heap.size + 1)), .slice none 0 0] 76) = W0 at *
  refine hf.mono ?_
  rintro e W1 ⟨rfl, rfl⟩
  clear hf hB0
  go_wp2_with fail
  go_loopw [4] (fun o wr => ∃ (k : Nat) (v : Value), k ≤ l.length ∧ o = .int .u32 ((oopI l k : Nat) : Int) ∧ BkSt w wr (w.heap.size + 3) w.heap.size (w.heap.size + 1 + 1) (w.heap.size + 1) v ((oopsL l).take k) ((oopsL l).take k)) (fun o _ => mesO o)
  case atStart => exact ⟨0, _, by omega, rfl, HS0.out⟩
  case round =>
    clear HS0
    obtain ⟨k, v, hk, rfl, S⟩ := hrel
    by_cases hlt : k < l.length
    · have hO := Lib.hid (show oopI l k = 2 * posOf (l.take k) by unfold oopI; rw [if_pos hlt])
      have hpl := posOf_take_lt G k hlt
      have hpp := posOf_pos (l.take k)
      have HME := Lib.hid (show oopI l (k + 1) = 0 ∨ 2 * posOf (l.take k) < oopI l (k + 1) by
        unfold oopI
        split
        · have := posOf_take_succ k hlt; right; omega
        · exact .inl rfl)
      have HMX := Lib.hid (show oopI l (k + 1) < 4294967296 by
        unfold oopI
        split
        · rename_i h1; have := posOf_take_lt G (k + 1) h1; omega
        · omega)
      have HTK := Lib.hid (oopsL_take1 hlt)
      have HNW := Lib.hid (oopsL_new hlt)
      have HKL := Lib.hid (show ((oopsL l).take k).length = k by rw [List.length_take, oopsL_len]; omega)
      have HST := Lib.hid (show (stL ((oopsL l).take k)).2.1 = k by rw [(stL_nodup _ ((List.take_sublist k _).nodup (oopsL_nodup l))).1]; exact HKL.out)
      have HNX := Lib.hid (fun (w' : World) (hb : Below w.heap.size w w') => HN.out w' hb k hlt)
      rw [next_oopI G k hlt] at HNX
      rw [hO.out]
      have HOB := Lib.hid (show 2 * posOf (l.take k) < 4294967296 ∧ 0 < 2 * posOf (l.take k) by omega)
      have ho : (((2 * posOf (l.take k) : Nat) : Int) != 0) = true := by simp; omega
      have hkk : k ≤ 1048576 := by rw [oopsL_len] at hlen; omega
      clear hpl hpp hO HN
      generalize hq : 2 * posOf (l.take k) = o at *
      clear hq
      generalize hK : (oopsL l).take k = K at *
      clear hK
      have hown := S.own
      rw [HKL.out] at hown
      obtain ⟨A, c, rfl, -⟩ := own_sliceI hown
      have HO := Lib.hid hown
      have HS := Lib.hid S
      have c0 := S.box.cell 0
      have c1 := S.box.cell 1
      have z1 := S.box.frozen 1
      have hbt := S.box.lt
      clear hown S
      go_upto_region 6 with (at_builtin; refine wpList_append_any _ rfl (.tmp 15) (.tmp 17) _ rfl (w.heap.size + 3) 81 i0 _ 1 4 Tryz.underlying45 hi0 hz0 hz1 hz2 rfl (by omega) (.slice A k c) k _ rfl (HO.out.alloc _) (wr.heap.size + 1) (some ⟨wr.heap.size, 0, none⟩) 1 1 (u32s [o]) rfl ⟨rfl, fun _ => ⟨_, rfl, by simp, cell_one_new _ _ _⟩⟩ (one_u32s _) (by simp only [maxLen]; omega) (by omega) (by have := HS.out.top; simp; omega) ?_; intro v1 w5 hown5 hgrow hat5; obtain ⟨g5, c5, rfl, -, -, hge5⟩ := Row.of_any hown5 (by omega); have hS4 := HS.out.below ((Below.refl _ _).alloc (Nat.le_refl _) (.cells #[.int .u32 (o : Int)] 81)); obtain ⟨hfz, hcu⟩ := hS4.room hgrow; have HS5 := Lib.hid (hS4.app (x := o) (by rw [HKL.out]; exact hown5) hgrow); clear hS4 hown5 hgrow hat5 hge5 c0 c1 z1)
      clear hfz hcu
      generalize w5.setCell ⟨w.heap.size + 1 + 1, 1, none⟩ (.slice (some ⟨g5, 0, none⟩) (k + 1) c5) = W6 at *
      have c0 := HS5.out.box.cell 0
      have c1 := HS5.out.box.cell 1
      have hwk : IntKind.u32.wrap ((k : Int) + 1) = (k : Int) + 1 := by show ((k : Int) + 1) % 4294967296 = _; omega
      obtain ⟨W7, hpt, HM7, hg7⟩ := HS5.out.map.put oopTyU HOB.out.1 (by rw [HKL.out]; omega)
      rw [HST.out] at hpt
      have HS7 := Lib.hid (HS5.out.put HM7 hg7)
      clear HM7 hg7 HS5
      go_wp2_with fail
      refine (HNX.out _ HS7.out.base).mono ?_
      rintro e W8 ⟨rfl, hb8⟩
      have HS8 := Lib.hid (HS7.out.below hb8)
      clear HS7 hb8 c0 c1 hpt
      generalize hno : oopI l (k + 1) = no at *
      have HNO := Lib.hid hno
      clear hno
      go_wp2_with fail
      go_roundw
      case rel => exact ⟨k + 1, _, by omega, by rw [HNO.out], by rw [HTK.out]; exact HS8.out⟩
      case measure => exact mesO_lt HME.out HOB.out.2 HOB.out.1 HMX.out
    · obtain rfl : k = l.length := by omega
      have hO := Lib.hid (show oopI l l.length = 0 by unfold oopI; rw [if_neg hlt])
      rw [hO.out]
      have hS := S
      rw [List.take_of_length_le (by rw [oopsL_len]; omega)] at hS
      obtain ⟨A, c, rfl, -⟩ := own_sliceI hS.own
      have HS := Lib.hid hS
      have c0 := hS.box.cell 0
      have c1 := hS.box.cell 1
      have d0 := hS.res.cell 0
      have d1 := hS.res.cell 1
      have z0 := hS.res.frozen 0
      have z1 := hS.res.frozen 1
      have BF := Lib.hid ((hS.res.set_ 0 (.map (some (w.heap.size + 1)))).set_ 1 (.slice A (oopsL l).length c))
      clear S hS hlt hk
      go_wp2_with fail
      have f0 := BF.out.cell 0
      have f1 := BF.out.cell 1
      refine bodyPost_ret (v := .agg #[.map (some (w.heap.size + 1)), .slice A (oopsL l).length c]) (by simp [results, Tryz.results34, go_sem, f0, f1]) rfl ?_
      have hfar : ∀ g, g ≠ w.heap.size → ((wr.setCell ⟨w.heap.size, 0, none⟩ (.map (some (w.heap.size + 1)))).setCell ⟨w.heap.size, 1, none⟩ (.slice A (oopsL l).length c)).heap[g]? = wr.heap[g]? := fun g hne =>
        (Below.heap_setCell _ ⟨w.heap.size, 1, none⟩ _ g hne).trans (Below.heap_setCell _ ⟨w.heap.size, 0, none⟩ _ g hne)
      exact ⟨w.heap.size + 1, _, rfl, HS.out.map.same (hfar _ (by omega)), own_lessI (own_sameI HS.out.own (fun k e => hfar k (by have := (HS.out.own.lt k e).1; omega))) (by omega), by omega, (HS.out.base.setCell (p := ⟨w.heap.size, 0, none⟩) (Nat.le_refl _) _).setCell (p := ⟨w.heap.size, 1, none⟩) (Nat.le_refl _) _⟩
end Go.Proofs.YtfpleoblehfhbaaGreatDoor
