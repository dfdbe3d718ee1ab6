import Derived.Test.YthadjmhipckelaaGreatDoorJIHead
import Derived.Test.YthadjmhipckelaaGreatDoorJIEq
import Derived.Test.YthadjmhipckelaaGreatDoorJIAppIn
set_option linter.unusedVariables false
set_option linter.unusedSimpArgs false
set_option linter.unusedSectionVars false
namespace Go.Proofs.YthadjmhipckelaaGreatDoor
section
open Go.RowKit
attribute [local go_sem] Oper.semAt_some
structure KpO (M : Nat) (A B : World) : Prop where
 os : B.os = A.os
 tape : B.tape = A.tape
 output : B.output = A.output
 size : A.heap.size ≤ B.heap.size
 low : ∀ k, k < M → B.heap[k]? = A.heap[k]?
 cells : ∀ k cs t, t ≠ 5 → t ≠ 22 → Blk A k t cs → Blk B k t cs
theorem KpO.refl (M : Nat) (A : World) : KpO M A A := ⟨rfl, rfl, rfl, Nat.le_refl _, fun _ _ => rfl, fun _ _ _ _ _ b => b⟩
theorem KpO.trans {M : Nat} {A B C : World} (h : KpO M A B) (k : KpO M B C) : KpO M A C :=
 ⟨k.os.trans h.os, k.tape.trans h.tape, k.output.trans h.output, Nat.le_trans h.size k.size, fun i hi => (k.low i hi).trans (h.low i hi), fun i cs t h1 h2 b => k.cells i cs t h1 h2 (h.cells i cs t h1 h2 b)⟩
theorem KpO.of_below {M : Nat} {A B : World} (hb : Below A.heap.size A B) (hM : M ≤ A.heap.size) : KpO M A B :=
 ⟨hb.os, hb.tape, hb.output, hb.size, fun k hk => hb.block k (by omega), fun k cs t _ _ b => b.below hb b.lt⟩
theorem KpO.book {M : Nat} (W : World) (l : Nat) (o o' : Obj) (h1 : M ≤ l) (hl : W.heap[l]? = some o) (hc : o.isCells = false) : KpO M W (W.putObj l o') := by
 have hg := grownBy_putObj' W l o'
 have hk : ∀ k, k ≠ l → (W.putObj l o').heap[k]? = W.heap[k]? := fun k hk => by
  rcases Nat.lt_or_ge k W.heap.size with h | h
  ·exact hg.block k h (fun e => by first | exact hk (Option.some.inj e).symm | exact hk (Option.some.inj e))
  ·have e1 : (W.putObj l o').heap.size = W.heap.size := by simp [World.putObj]
   rw [Array.getElem?_eq_none (by omega), Array.getElem?_eq_none (by omega)]
 exact ⟨hg.os, hg.tape, hg.output, hg.size, fun k h => hk k (by omega), fun g cs t _ _ b => b.same (hk g (fun e => by
  subst e; have e2 := Option.some.inj (hl.symm.trans b); rw [e2] at hc; cases hc))⟩
theorem Row.keptO {M g c : Nat} {A B : World} {e : TypeId} {xs : List Value} (h : Row A g e c xs) (k : KpO M A B) (h1 : e ≠ 5) (h2 : e ≠ 22) : Row B g e c xs := by
 obtain ⟨cur, hb, r⟩ := h
 exact ⟨cur, k.cells g cur e h1 h2 hb, r⟩
theorem KpO.need {w : World} {h : HM} {n0 : Nat} (hs : Spares w) : NeedA (fun A B => KpO w.heap.size A B) n0 h :=
 ⟨fun k _ H => ⟨k.cells _ _ _ (by decide) (by decide) H.1, H.2.1.keptO k (by decide) (by decide), H.2.2.1.keptO k (by decide) (by decide), H.2.2.2.keptO k (by decide) (by decide)⟩,
   fun k hA i hi => (World.cell?_of_block (k.low _ (World.block_lt_of_cell? _ _ (hs i hi)))).trans (hA i hi)⟩
theorem KeepsFrom.belowI {w w' : World} {B : Nat} (hb : Below w.heap.size w w') : KeepsFrom B w w' := ⟨hb.size, fun k o _ ho _ => (hb.block k (lt_of_get ho)).trans ho⟩
structure OSt (w : World) (sg bS bB : Nat) (v : Value) (bs : List Nat) (W : World) : Prop where
 rb : RB w W w.heap.size v bs
 bb : Blk W bB 22 #[v]
 bx : Blk W bS 88 #[.pointer (some ⟨sg, 0, none⟩)]
section
variable {w W W' : World} {sg bS bB : Nat} {v v' : Value} {bs bs' : List Nat}
theorem OSt.below (S : OSt w sg bS bB v bs W) (hb : Below W.heap.size W W') : OSt w sg bS bB v bs W' := ⟨S.rb.below hb, S.bb.below hb S.bb.lt, S.bx.below hb S.bx.lt⟩
theorem own_typeI {w : World} {base : Nat} {e : TypeId} {v : Value} {n g : Nat} {xs : List Value} {o : Obj} (h : w.ownsRow base e 1 v n xs) (ho : w.heap[g]? = some o) (hne : ∀ cs, o ≠ .cells cs e (0, 0)) : v.ownBlock ≠ some g := by
 intro hk
 rcases h.2 with ⟨h1, _⟩ | ⟨g', cap, cur, h1, h2, h3, h4⟩
 ·rw [h1] at hk; cases hk
 ·rw [h1] at hk
  have e1 : g' = g := by injection hk
  rw [e1, ho] at h3
  injection h3 with h3
  exact hne _ h3
theorem own_blkI {w : World} {base : Nat} {e t : TypeId} {v : Value} {n g : Nat} {xs : List Value} {cs : Array Value} (h : w.ownsRow base e 1 v n xs) (b : Blk w g t cs) (hne : e ≠ t) : v.ownBlock ≠ some g :=
 own_typeI h b (fun cs' e => hne (by injection e with _ e; exact e.symm))
theorem OSt.own' {B : Nat} {row : Option Nat} (S : OSt w sg bS bB v bs W) (hB : w.heap.size ≤ B) (hg : W.grownBy W' row) (hr : ∀ r, row = some r → B ≤ r ∧ ∃ o : Obj, W.heap[r]? = some o ∧ o.isCells = false) : OSt w sg bS bB v bs W' := by
 have hc : ∀ g cs t, Blk W g t cs → W'.heap[g]? = W.heap[g]? := fun g cs t b => hg.block g b.lt (fun e => by
  obtain ⟨_, o, ho, hc⟩ := hr g e.symm
  unfold Blk at b; rw [b] at ho; injection ho with ho; subst ho; cases hc)
 refine ⟨⟨own_sameI S.rb.own (fun k hk => ?_), S.rb.base.grown hg S.rb.base.size (fun k e => by have := (hr k e).1; omega), S.rb.hB, Nat.le_trans S.rb.top hg.size⟩, S.bb.same (hc _ _ _ S.bb), S.bx.same (hc _ _ _ S.bx)⟩
 rcases S.rb.own.2 with ⟨h1, _⟩ | ⟨g', cap, cur, h1, h2, h3, h4⟩
 ·rw [h1] at hk; cases hk
 ·rw [h1] at hk
  have e1 : g' = k := by injection hk
  rw [e1] at h3
  exact hc _ _ _ h3
theorem OSt.app {B : Nat} (S : OSt w sg bS bB v bs W) (hB : w.heap.size ≤ bB) (C : RB w W' w.heap.size v' bs') (hg : W.grownBy W' v.ownBlock) :
 OSt w sg bS bB v' bs' (W'.setCell ⟨bB, 0, none⟩ v') ∧ KpO w.heap.size W (W'.setCell ⟨bB, 0, none⟩ v') ∧ KeepsFrom B W (W'.setCell ⟨bB, 0, none⟩ v') ∧ W'.frozen? ⟨bB, 0, none⟩ = false ∧ (∃ u, W'.cell? ⟨bB, 0, none⟩ = some u) := by
 have hk : ∀ g t cs, Blk W g t cs → t ≠ 5 → W'.heap[g]? = W.heap[g]? := fun g t cs b hne => hg.block g b.lt (fun e => own_blkI S.rb.own b (Ne.symm hne) (by first | exact e | exact e.symm))
 have bb1 := S.bb.same (hk _ _ _ S.bb (by decide))
 have hfar : ∀ g, g ≠ bB → (W'.setCell ⟨bB, 0, none⟩ v').heap[g]? = W'.heap[g]? := fun g hne => Below.heap_setCell W' ⟨bB, 0, none⟩ v' g hne
 have hbase : Below w.heap.size w (W'.setCell ⟨bB, 0, none⟩ v') := C.base.setCell (p := ⟨bB, 0, none⟩) hB _
 have hsz : (W'.setCell ⟨bB, 0, none⟩ v').heap.size = W'.heap.size := by simp [World.setCell]
 have hne : ∀ g t cs, Blk W g t cs → t ≠ 22 → g ≠ bB := fun g t cs b h e => by
  subst e
  have h1 := S.bb
  unfold Blk at b h1
  rw [b] at h1
  injection h1 with h1
  injection h1 with _ h1
  exact h h1
 refine ⟨⟨⟨own_sameI C.own (fun k hk' => hfar k (fun e => ?_)), hbase, C.hB, by rw [hsz]; exact C.top⟩, bb1.set_ 0 v', ?_⟩, ⟨hg.os, hg.tape, hg.output, by rw [hsz]; exact hg.size, fun k hk' => (hbase.block k hk').trans (S.rb.base.block k hk').symm, fun k cs t h1 h2 b => b.same ((hfar k (hne _ _ _ b h2)).trans (hk _ _ _ b h1))⟩, ⟨by rw [hsz]; exact hg.size, fun k o hk' ho hc => ?_⟩, bb1.frozen 0, ⟨_, bb1.cell 0⟩⟩
 ·subst e
  exact own_blkI C.own bb1 (by decide) hk'
 ·exact S.bx.same ((hfar _ (hne _ _ _ S.bx (by decide))).trans (hk _ _ _ S.bx (by decide)))
 ·have h1 : k ≠ bB := fun e => by
   subst e
   have h1 := S.bb
   unfold Blk at h1
   rw [ho] at h1
   injection h1 with h1
   subst h1
   cases hc
  refine (hfar k h1).trans ((hg.block k (lt_of_get ho) (fun e => own_typeI S.rb.own ho (fun cs e2 => by subst e2; cases hc) (by first | exact e | exact e.symm))).trans ho)
structure OB (w : World) (sg bS bB B0 : Nat) (Ws : World) (b5 : Nat) (X : Hd) (v : Value) (bs : List Nat) (W : World) : Prop where
 st : OSt w sg bS bB v bs W
 kp : KpO w.heap.size Ws W
 kf : KeepsFrom B0 Ws W
 hd : Blk W b5 103 X.cells
variable {B0 b5 : Nat} {Ws : World} {X : Hd}
theorem OB.below (S : OB w sg bS bB B0 Ws b5 X v bs W) (hb : Below W.heap.size W W') : OB w sg bS bB B0 Ws b5 X v bs W' :=
 ⟨S.st.below hb, S.kp.trans (.of_below hb (Nat.le_trans S.st.rb.hB S.st.rb.top)), S.kf.trans (KeepsFrom.belowI hb), S.hd.below hb S.hd.lt⟩
theorem OB.app (S : OB w sg bS bB B0 Ws b5 X v bs W) (hB : w.heap.size ≤ bB) (C : RB w W' w.heap.size v' bs') (hg : W.grownBy W' v.ownBlock) : OB w sg bS bB B0 Ws b5 X v' bs' (W'.setCell ⟨bB, 0, none⟩ v') := by
 obtain ⟨h1, h2, h3, _⟩ := S.st.app (B := B0) hB C hg
 exact ⟨h1, S.kp.trans h2, S.kf.trans h3, h2.cells _ _ _ (by decide) (by decide) S.hd⟩
theorem OB.cells (S : OB w sg bS bB B0 Ws b5 X v bs W) : W.cell? ⟨bB, 0, none⟩ = some v ∧ W.cell? ⟨bS, 0, none⟩ = some (.pointer (some ⟨sg, 0, none⟩)) ∧ W.cell? ⟨b5, 0, none⟩ = some (.int .i64 X.size) ∧ W.cell? ⟨b5, 1, none⟩ = some (.int .i64 X.fmt) ∧ W.cell? ⟨b5, 2, none⟩ = some (.int .i64 X.spare) ∧ W.cell? ⟨b5, 3, none⟩ = some (.int .u32 X.cls) ∧ W.cell? ⟨b5, 4, none⟩ = some (.int .u32 X.ser) :=
 ⟨S.st.bb.cell 0, S.st.bx.cell 0, S.hd.cell 0, S.hd.cell 1, S.hd.cell 2, S.hd.cell 3, S.hd.cell 4⟩
end
structure OCells (sg mb pg bS bB b5 : Nat) (L : List Nat) (X : Hd) (v : Value) (W : World) : Prop where
 cB : W.cell? ⟨bB, 0, none⟩ = some v
 cS : W.cell? ⟨bS, 0, none⟩ = some (.pointer (some ⟨sg, 0, none⟩))
 g0 : W.cell? ⟨sg, 0, none⟩ = some (.pointer (some ⟨pg, 0, none⟩))
 g1 : W.cell? ⟨sg, 1, none⟩ = some (.map (some mb))
 x0 : W.cell? ⟨b5, 0, none⟩ = some (.int .i64 X.size)
 x1 : W.cell? ⟨b5, 1, none⟩ = some (.int .i64 X.fmt)
 x2 : W.cell? ⟨b5, 2, none⟩ = some (.int .i64 X.spare)
 x3 : W.cell? ⟨b5, 3, none⟩ = some (.int .u32 X.cls)
 x4 : W.cell? ⟨b5, 4, none⟩ = some (.int .u32 X.ser)
 lk : (Instr.lookup 65 (.map (some mb)) (.int .u32 (X.cls : Int)) false).run Tryz.prog W = .ok (.int .u32 (numL L X.cls : Nat)) W
section
variable {w W W' : World} {sg mb pg bS bB B0 b5 : Nat} {Ws : World} {v v' : Value} {bs bs' : List Nat} {X : Hd} {L : List Nat}
theorem OB.oc (O : OB w sg bS bB B0 Ws b5 X v bs W) (S : SvAt w sg mb pg L) (hnd : L.Nodup) (hc : X.cls < 4294967296) : OCells sg mb pg bS bB b5 L X v W := by
 obtain ⟨h0, h1, h2, h3, h4, h5, h6⟩ := O.cells
 have S' := S.below O.st.rb.base
 exact ⟨h0, h1, S'.box.cell 0, S'.box.cell 1, h2, h3, h4, h5, h6, S'.map.look hnd oopTyU hc⟩
theorem OB.ocm (O : OB w sg bS bB B0 Ws b5 X v bs W) (S : SvAt w sg mb pg L) (hnd : L.Nodup) (hc : X.cls < 4294967296) (C : RB w W' w.heap.size v' bs') (hg : W.grownBy W' v.ownBlock) : OCells sg mb pg bS bB b5 L X v W' := by
 have hk : ∀ g t cs, Blk W g t cs → t ≠ 5 → Blk W' g t cs := fun g t cs b hne => b.same (hg.block g b.lt (fun e => own_blkI O.st.rb.own b (Ne.symm hne) (by first | exact e | exact e.symm)))
 have S' := S.below C.base
 have hd := hk _ _ _ O.hd (by decide)
 exact ⟨(hk _ _ _ O.st.bb (by decide)).cell 0, (hk _ _ _ O.st.bx (by decide)).cell 0, S'.box.cell 0, S'.box.cell 1, hd.cell 0, hd.cell 1, hd.cell 2, hd.cell 3, hd.cell 4, S'.map.look hnd oopTyU hc⟩
theorem OB.room (O : OB w sg bS bB B0 Ws b5 X v bs W) (C : RB w W' w.heap.size v' bs') (hg : W.grownBy W' v.ownBlock) : W'.frozen? ⟨bB, 0, none⟩ = false ∧ W'.cell? ⟨bB, 0, none⟩ = some v := by
 have hk : ∀ g t cs, Blk W g t cs → t ≠ 5 → Blk W' g t cs := fun g t cs b hne => b.same (hg.block g b.lt (fun e => own_blkI O.st.rb.own b (Ne.symm hne) (by first | exact e | exact e.symm)))
 have h := hk _ _ _ O.st.bb (by decide)
 exact ⟨h.frozen 0, h.cell 0⟩
end
end
section
open Go.RowKit
attribute [local go_sem] Oper.semAt_some
def WrB (w : World) (B g : Nat) (us : List Wr) : Prop := ∀ u ∈ us, Reads w B 1 u.A u.fs.length (u32s u.fs) ∧ (0 < u.fs.length → ∀ a, u.A = some a → a.block ≠ g)
theorem WrB.keep {w w' : World} {B g : Nat} {us : List Wr} (h : WrB w B g us) (hk : ∀ k, k < B → k ≠ g → w'.heap[k]? = w.heap[k]?) : WrB w' B g us := fun u hu => by
 obtain ⟨h1, h2⟩ := h u hu
 refine ⟨⟨h1.1, fun hn => ?_⟩, h2⟩
 obtain ⟨a, ha, hb, hc⟩ := h1.2 hn
 exact ⟨a, ha, hb, fun j v hv => (World.cell?_of_block (a := a.add j) (by rw [block_of_add]; exact hk a.block hb (h2 hn a ha))).trans (hc j v hv)⟩
def usK (us : List Wr) (k : Nat) : List Wr := (List.range us.length).map fun j => if j < k then { (us.getD j default) with pl := placeT ((us.map Wr.th).take j) } else us.getD j default
theorem usK_len (us : List Wr) (k : Nat) : (usK us k).length = us.length := by simp [usK]
theorem usK_get (us : List Wr) (k j : Nat) (hj : j < us.length) : (usK us k).getD j default = if j < k then { (us.getD j default) with pl := placeT ((us.map Wr.th).take j) } else us.getD j default := by
 unfold usK
 rw [List.getD_eq_getElem?_getD, List.getElem?_map, List.getElem?_range hj]
 rfl
theorem usK_zero (us : List Wr) : usK us 0 = us := by
 apply List.ext_getElem
 ·simp [usK]
 ·intro i h1 h2
  simp [usK, List.getD_eq_getElem?_getD, List.getElem?_eq_getElem h2]
theorem usK_set (us : List Wr) (k : Nat) (hk : k < us.length) : (usK us k).set k { ((usK us k).getD k default) with pl := placeT ((us.map Wr.th).take k) } = usK us (k + 1) := by
 rw [usK_get us k k hk, if_neg (by omega)]
 apply List.ext_getElem
 ·simp [usK]
 ·intro i h1 h2
  rw [usK_len] at h2
  rw [List.getElem_set]
  have e1 : (usK us (k + 1))[i]'(by rw [usK_len]; exact h2) = (usK us (k + 1)).getD i default := by rw [List.getD_eq_getElem?_getD, List.getElem?_eq_getElem (by rw [usK_len]; exact h2)]; rfl
  have e2 : (usK us k)[i]'(by rw [usK_len]; exact h2) = (usK us k).getD i default := by rw [List.getD_eq_getElem?_getD, List.getElem?_eq_getElem (by rw [usK_len]; exact h2)]; rfl
  rw [e1, e2, usK_get us (k + 1) i h2, usK_get us k i h2]
  by_cases hik : k = i
  ·subst hik
   rw [if_pos rfl, if_pos (by omega)]
  ·rw [if_neg hik]
   by_cases hlt : i < k
   ·rw [if_pos hlt, if_pos (by omega)]
   ·rw [if_neg hlt, if_neg (by omega)]
theorem usK_th (us : List Wr) (k : Nat) : (usK us k).map Wr.th = us.map Wr.th := by
 apply List.ext_getElem
 ·simp [usK]
 ·intro i h1 h2
  have hi : i < us.length := by simpa using h2
  rw [List.getElem_map, List.getElem_map]
  have e1 : (usK us k)[i]'(by rw [usK_len]; exact hi) = (usK us k).getD i default := by rw [List.getD_eq_getElem?_getD, List.getElem?_eq_getElem (by rw [usK_len]; exact hi)]; rfl
  rw [e1, usK_get us k i hi, List.getD_eq_getElem?_getD, List.getElem?_eq_getElem hi]
  split <;> rfl
theorem usK_mem {us : List Wr} {k : Nat} {u : Wr} (h : u ∈ usK us k) : ∃ u', u' ∈ us ∧ u.x = u'.x ∧ u.A = u'.A ∧ u.c = u'.c ∧ u.fs = u'.fs := by
 unfold usK at h
 obtain ⟨j, hj, rfl⟩ := List.mem_map.1 h
 have hj' := List.mem_range.1 hj
 refine ⟨us.getD j default, by rw [List.getD_eq_getElem?_getD, List.getElem?_eq_getElem hj']; exact List.getElem_mem hj', ?_⟩
 split <;> exact ⟨rfl, rfl, rfl, rfl⟩
theorem WrB.usK {w : World} {B g : Nat} {us : List Wr} (h : WrB w B g us) (k : Nat) : WrB w B g (usK us k) := fun u hu => by
 obtain ⟨u', h1, h2, h3, h4, h5⟩ := usK_mem hu
 rw [h3, h5]
 exact h u' h1
structure LaySt (Bg : Nat) (w0 wr : World) (b4 b5 bf b13 b8 g : Nat) (A : Option Addr) (c : Nat) (us : List Wr) (last : Nat) (fine : Bool) (Bw : Nat) (vw : Value) (ws : List Nat) (vr : Value) (rs : List Nat) : Prop where
 v : LayV wr b5 bf b13 A c us fine
 box : Blk wr b4 47 #[.int .i64 2, .int .i64 0, .int .u32 last, vw, vr]
 res : Blk wr b8 47 #[.int .i64 0, .int .i64 0, .int .u32 0, .slice none 0 0, .slice none 0 0]
 wo : wr.ownsRow Bw 32 1 vw ws.length (u32s ws)
 ro : wr.ownsRow Bw 72 1 vr rs.length (u32s rs)
 fr : Below Bg w0 wr
 flds : WrB wr w0.heap.size g us
 l4 : w0.heap.size ≤ b4 ∧ b4 < Bw
 l5 : w0.heap.size ≤ b5 ∧ b5 < Bw
 lf : w0.heap.size ≤ bf ∧ bf < Bw
 l13 : w0.heap.size ≤ b13 ∧ b13 < Bw
 l8 : w0.heap.size ≤ b8 ∧ b8 < Bw
 lg : g < w0.heap.size
 lB : Bg ≤ g
 eg : 0 < us.length → A = some ⟨g, 0, none⟩
 n48 : b4 ≠ b8
 top : Bw ≤ wr.heap.size
 kept : ∀ k, k < w0.heap.size → k ≠ g → wr.heap[k]? = w0.heap[k]?
section
variable {Bg b4 b5 bf b13 b8 g c last Bw : Nat} {w0 wr w' : World} {A : Option Addr} {us : List Wr} {fine fine' : Bool} {vw vr v' : Value} {ws rs : List Nat}
theorem LaySt.re (S : LaySt Bg w0 wr b4 b5 bf b13 b8 g A c us last fine Bw vw ws vr rs) {vw' vr' : Value} {ws' rs' : List Nat} (hos : w'.os = wr.os) (ht : w'.tape = wr.tape) (ho : w'.output = wr.output) (hsz : wr.heap.size ≤ w'.heap.size)
 (hk : ∀ k, k < Bw → k ≠ bf → k ≠ b4 → w'.heap[k]? = wr.heap[k]?) (hf : Blk w' bf 4 #[.bool fine']) (hb : Blk w' b4 47 #[.int .i64 2, .int .i64 0, .int .u32 last, vw', vr'])
 (hw : w'.ownsRow Bw 32 1 vw' ws'.length (u32s ws')) (hr : w'.ownsRow Bw 72 1 vr' rs'.length (u32s rs')) : LaySt Bg w0 w' b4 b5 bf b13 b8 g A c us last fine' Bw vw' ws' vr' rs' := by
 have n5f : b5 ≠ bf := fun e => by have h1 := S.v.b.objs; have h2 := S.v.b.fn; unfold Blk at h1 h2; rw [e, h2] at h1; injection h1 with h1; injection h1 with _ h1; exact absurd h1 (by decide)
 have n54 : b5 ≠ b4 := fun e => by have h1 := S.v.b.objs; have h2 := S.box; unfold Blk at h1 h2; rw [e, h2] at h1; injection h1 with h1; injection h1 with _ h1; exact absurd h1 (by decide)
 have n13f : b13 ≠ bf := fun e => by have h1 := S.v.cl; have h2 := S.v.b.fn; unfold Blk at h1 h2; rw [e, h2] at h1; injection h1 with h1; injection h1 with _ h1; exact absurd h1 (by decide)
 have n134 : b13 ≠ b4 := fun e => by have h1 := S.v.cl; have h2 := S.box; unfold Blk at h1 h2; rw [e, h2] at h1; injection h1 with h1; injection h1 with _ h1; exact absurd h1 (by decide)
 have n8f : b8 ≠ bf := fun e => by have h1 := S.res; have h2 := S.v.b.fn; unfold Blk at h1 h2; rw [e, h2] at h1; injection h1 with h1; injection h1 with _ h1; exact absurd h1 (by decide)
 have l4 := S.l4
 have lf := S.lf
 have lg := S.lg
 refine ⟨⟨⟨S.v.b.objs.same (hk _ S.l5.2 n5f n54), hf, fun h0 => ?_, S.v.b.pl, S.v.b.top, S.v.b.len⟩, S.v.cl.same (hk _ S.l13.2 n13f n134)⟩, hb, S.res.same (hk _ S.l8.2 n8f (Ne.symm S.n48)), hw, hr, ⟨hos.trans S.fr.os, ht.trans S.fr.tape, ho.trans S.fr.output, Nat.le_trans S.fr.size hsz, fun k hkB => (hk k (by have := S.lB; omega) (by have := S.lB; omega) (by have := S.lB; omega)).trans (S.fr.block k hkB)⟩,
  S.flds.keep (fun k h1 h2 => hk k (by omega) (by omega) (by omega)), S.l4, S.l5, S.lf, S.l13, S.l8, S.lg, S.lB, S.eg, S.n48, Nat.le_trans S.top hsz, fun k h1 h2 => (hk k (by omega) (by omega) (by omega)).trans (S.kept k h1 h2)⟩
 obtain ⟨g', h1, h2⟩ := S.v.b.row h0
 have e := S.eg h0
 rw [h1] at e
 injection e with e
 injection e with e
 subst e
 exact ⟨g', h1, h2.same (hk g' (by omega) (by omega) (by omega))⟩
theorem LaySt.below (S : LaySt Bg w0 wr b4 b5 bf b13 b8 g A c us last fine Bw vw ws vr rs) (h : Below wr.heap.size wr w') : LaySt Bg w0 w' b4 b5 bf b13 b8 g A c us last fine Bw vw ws vr rs :=
 S.re h.os h.tape h.output h.size (fun k hk _ _ => h.block k (Nat.lt_of_lt_of_le hk S.top)) (S.v.b.fn.below h S.v.b.fn.lt) (S.box.below h S.box.lt) (own_sameI S.wo (fun k hk => h.block k (S.wo.lt k hk).2)) (own_sameI S.ro (fun k hk => h.block k (S.ro.lt k hk).2))
theorem LaySt.fineS (S : LaySt Bg w0 wr b4 b5 bf b13 b8 g A c us last fine Bw vw ws vr rs) (hf : Blk w' bf 4 #[.bool fine']) (F : Fr1 bf wr w') : LaySt Bg w0 w' b4 b5 bf b13 b8 g A c us last fine' Bw vw ws vr rs := by
 have nf4 : b4 ≠ bf := fun e => by have h1 := S.box; have h2 := S.v.b.fn; unfold Blk at h1 h2; rw [e, h2] at h1; injection h1 with h1; injection h1 with _ h1; exact absurd h1 (by decide)
 exact S.re F.os F.tape F.output F.size (fun k hk h1 _ => F.same k (Nat.lt_of_lt_of_le hk S.top) h1) hf (S.box.fr1 F nf4) (own_sameI S.wo (fun k hk => F.same k (S.wo.lt k hk).2 (by have := (S.wo.lt k hk).1; have := S.lf; omega))) (own_sameI S.ro (fun k hk => F.same k (S.ro.lt k hk).2 (by have := (S.ro.lt k hk).1; have := S.lf; omega)))
theorem own_typ2 {w : World} {base : Nat} {e e' : TypeId} {v v2 : Value} {n n2 k : Nat} {xs ys : List Value} (h : w.ownsRow base e 1 v n xs) (h2 : w.ownsRow base e' 1 v2 n2 ys) (hne : e ≠ e') (hk : v.ownBlock = some k) : v2.ownBlock ≠ some k := by
 intro hk2
 rcases h.2 with ⟨h1, _⟩ | ⟨g1, cap, cur, rfl, _, h3, _⟩
 ·rw [h1] at hk; cases hk
 ·rcases h2.2 with ⟨h1, _⟩ | ⟨g2, cap2, cur2, rfl, _, h4, _⟩
  ·rw [h1] at hk2; cases hk2
  ·injection hk with hk
   injection hk2 with hk2
   simp only at hk hk2
   rw [hk] at h3
   rw [hk2, h3] at h4
   injection h4 with h4
   injection h4 with _ h4
   exact hne h4
theorem LaySt.appW {ys : List Nat} {m : Nat} (S : LaySt Bg w0 wr b4 b5 bf b13 b8 g A c us last fine Bw vw ws vr rs) (hm : ys.length = m) (ho : w'.ownsRow Bw 32 1 v' (ws.length + m) (u32s ws ++ u32s ys)) (hg : wr.grownBy w' vw.ownBlock) :
 LaySt Bg w0 (w'.setCell ⟨b4, 3, none⟩ v') b4 b5 bf b13 b8 g A c us last fine Bw v' (ws ++ ys) vr rs := by
 have hs : ∀ k, k < wr.heap.size → vw.ownBlock ≠ some k → w'.heap[k]? = wr.heap[k]? := fun k h1 h2 => hg.block k h1 (fun e => h2 (by first | exact e | exact e.symm))
 have hB : ∀ k, k < Bw → w'.heap[k]? = wr.heap[k]? := fun k h1 => hs k (Nat.lt_of_lt_of_le h1 S.top) (fun e => by have := (S.wo.lt k e).1; omega)
 have hfar : ∀ k, k ≠ b4 → (w'.setCell ⟨b4, 3, none⟩ v').heap[k]? = w'.heap[k]? := fun k h => Below.heap_setCell w' ⟨b4, 3, none⟩ v' k h
 have hsz : (w'.setCell ⟨b4, 3, none⟩ v').heap.size = w'.heap.size := by simp [World.setCell]
 have nf4 : bf ≠ b4 := fun e => by have h1 := S.box; have h2 := S.v.b.fn; unfold Blk at h1 h2; rw [e, h1] at h2; injection h2 with h2; injection h2 with _ h2; exact absurd h2 (by decide)
 have l4 := S.l4
 refine S.re hg.os hg.tape hg.output (by rw [hsz]; exact hg.size) (fun k h1 _ h3 => (hfar k h3).trans (hB k h1)) ((S.v.b.fn.same (hB _ S.lf.2)).same (hfar _ nf4)) ?_ ?_ ?_
 ·exact (S.box.same (hB _ l4.2)).set_ 3 v'
 ·have h1 := own_sameI (w' := w'.setCell ⟨b4, 3, none⟩ v') ho (fun k e => hfar k (by have := (ho.lt k e).1; omega))
  rw [List.length_append, hm, show u32s (ws ++ ys) = u32s ws ++ u32s ys by simp [u32s]]
  exact h1
 ·exact own_sameI S.ro (fun k e => (hfar k (by have := (S.ro.lt k e).1; omega)).trans (hs k (S.ro.lt k e).2 (own_typ2 S.ro S.wo (by decide) e)))
theorem LaySt.appR {ys : List Nat} {m : Nat} (S : LaySt Bg w0 wr b4 b5 bf b13 b8 g A c us last fine Bw vw ws vr rs) (hm : ys.length = m) (ho : w'.ownsRow Bw 72 1 v' (rs.length + m) (u32s rs ++ u32s ys)) (hg : wr.grownBy w' vr.ownBlock) :
 LaySt Bg w0 (w'.setCell ⟨b4, 4, none⟩ v') b4 b5 bf b13 b8 g A c us last fine Bw vw ws v' (rs ++ ys) := by
 have hs : ∀ k, k < wr.heap.size → vr.ownBlock ≠ some k → w'.heap[k]? = wr.heap[k]? := fun k h1 h2 => hg.block k h1 (fun e => h2 (by first | exact e | exact e.symm))
 have hB : ∀ k, k < Bw → w'.heap[k]? = wr.heap[k]? := fun k h1 => hs k (Nat.lt_of_lt_of_le h1 S.top) (fun e => by have := (S.ro.lt k e).1; omega)
 have hfar : ∀ k, k ≠ b4 → (w'.setCell ⟨b4, 4, none⟩ v').heap[k]? = w'.heap[k]? := fun k h => Below.heap_setCell w' ⟨b4, 4, none⟩ v' k h
 have hsz : (w'.setCell ⟨b4, 4, none⟩ v').heap.size = w'.heap.size := by simp [World.setCell]
 have nf4 : bf ≠ b4 := fun e => by have h1 := S.box; have h2 := S.v.b.fn; unfold Blk at h1 h2; rw [e, h1] at h2; injection h2 with h2; injection h2 with _ h2; exact absurd h2 (by decide)
 have l4 := S.l4
 refine S.re hg.os hg.tape hg.output (by rw [hsz]; exact hg.size) (fun k h1 _ h3 => (hfar k h3).trans (hB k h1)) ((S.v.b.fn.same (hB _ S.lf.2)).same (hfar _ nf4)) ?_ ?_ ?_
 ·exact (S.box.same (hB _ l4.2)).set_ 4 v'
 ·exact own_sameI S.wo (fun k e => (hfar k (by have := (S.wo.lt k e).1; omega)).trans (hs k (S.wo.lt k e).2 (own_typ2 S.wo S.ro (by decide) e)))
 ·have h1 := own_sameI (w' := w'.setCell ⟨b4, 4, none⟩ v') ho (fun k e => hfar k (by have := (ho.lt k e).1; omega))
  rw [List.length_append, hm, show u32s (rs ++ ys) = u32s rs ++ u32s ys by simp [u32s]]
  exact h1
variable {b16 : Nat} {cs : Array Value}
theorem LaySt.oFine (S : LaySt Bg w0 wr b4 b5 bf b13 b8 g A c us last fine Bw vw ws vr rs) (b : Blk wr b16 132 cs) (F : Fr1 bf wr w') : Blk w' b16 132 cs :=
 b.fr1 F (fun e => by have h2 := S.v.b.fn; unfold Blk at b h2; rw [e, h2] at b; injection b with b; injection b with _ b; exact absurd b (by decide))
theorem LaySt.oAppW (S : LaySt Bg w0 wr b4 b5 bf b13 b8 g A c us last fine Bw vw ws vr rs) (b : Blk wr b16 132 cs) (hg : wr.grownBy w' vw.ownBlock) : Blk (w'.setCell ⟨b4, 3, none⟩ v') b16 132 cs := by
 have h1 : b16 ≠ b4 := fun e => by have h2 := S.box; unfold Blk at b h2; rw [e, h2] at b; injection b with b; injection b with _ b; exact absurd b (by decide)
 have h2 : Blk w' b16 132 cs := b.same (hg.block b16 b.lt (fun e => own_blkI S.wo b (by decide) (by first | exact e | exact e.symm)))
 exact h2.same (Below.heap_setCell w' ⟨b4, 3, none⟩ v' b16 h1)
theorem LaySt.room (S : LaySt Bg w0 wr b4 b5 bf b13 b8 g A c us last fine Bw vw ws vr rs) (hg : wr.grownBy w' vw.ownBlock) : Blk w' b4 47 #[.int .i64 2, .int .i64 0, .int .u32 last, vw, vr] :=
 S.box.same (hg.block b4 S.box.lt (fun e => own_blkI S.wo S.box (by decide) (by first | exact e | exact e.symm)))
theorem LaySt.roomR (S : LaySt Bg w0 wr b4 b5 bf b13 b8 g A c us last fine Bw vw ws vr rs) (hg : wr.grownBy w' vr.ownBlock) : Blk w' b4 47 #[.int .i64 2, .int .i64 0, .int .u32 last, vw, vr] :=
 S.box.same (hg.block b4 S.box.lt (fun e => own_blkI S.ro S.box (by decide) (by first | exact e | exact e.symm)))
theorem LaySt.oSet (S : LaySt Bg w0 wr b4 b5 bf b13 b8 g A c us last fine Bw vw ws vr rs) (b : Blk wr b16 132 cs) (hB : Bw ≤ b16) (i : Nat) (u : Value) : LaySt Bg w0 (wr.setCell ⟨b16, i, none⟩ u) b4 b5 bf b13 b8 g A c us last fine Bw vw ws vr rs := by
 have hfar : ∀ k, k ≠ b16 → (wr.setCell ⟨b16, i, none⟩ u).heap[k]? = wr.heap[k]? := fun k h => Below.heap_setCell wr ⟨b16, i, none⟩ u k h
 have hsz : (wr.setCell ⟨b16, i, none⟩ u).heap.size = wr.heap.size := by simp [World.setCell]
 have lf := S.lf
 have l4 := S.l4
 exact S.re rfl rfl rfl (by rw [hsz]; exact Nat.le_refl _) (fun k hk _ _ => hfar k (by omega)) (S.v.b.fn.same (hfar _ (by omega))) (S.box.same (hfar _ (by omega)))
  (own_sameI S.wo (fun k hk => hfar k (fun e => own_blkI S.wo b (by decide) (e ▸ hk)))) (own_sameI S.ro (fun k hk => hfar k (fun e => own_blkI S.ro b (by decide) (e ▸ hk))))
theorem reads5 {w : World} {g n : Nat} {A : Option Addr} {xs : List Value} (h : Reads w w.heap.size 1 A n xs) (hne : 0 < n → ∀ a, A = some a → a.block ≠ g) (x0 x1 x2 x3 x4 : Value) :
 Reads (((((w.setCell ⟨g, 0, none⟩ x0).setCell ⟨g, 1, none⟩ x1).setCell ⟨g, 2, none⟩ x2).setCell ⟨g, 3, none⟩ x3).setCell ⟨g, 4, none⟩ x4) (((((w.setCell ⟨g, 0, none⟩ x0).setCell ⟨g, 1, none⟩ x1).setCell ⟨g, 2, none⟩ x2).setCell ⟨g, 3, none⟩ x3).setCell ⟨g, 4, none⟩ x4).heap.size 1 A n xs :=
 reads1 (reads1 (reads1 (reads1 (reads1 h hne) hne) hne) hne) hne
end
end
section
open Go.RowKit
attribute [local go_sem] Oper.semAt_some
structure RdD (w : World) (L rg : Nat) (A : Option Addr) (c : Nat) (bs : List Nat) (bad : Bool) : Prop where
 box : Blk w rg 96 #[.slice A bs.length c, .bool bad]
 cap : bs.length ≤ c
 rd : Reads w L 1 A bs.length (u8c bs)
 far : L ≤ rg
 b8 : ∀ x ∈ bs, x < 256
theorem RdD.below {w w' : World} {L rg c : Nat} {A : Option Addr} {bs : List Nat} {bad : Bool} (R : RdD w L rg A c bs bad) (h : Below w.heap.size w w') : RdD w' L rg A c bs bad :=
 ⟨R.box.below h R.box.lt, R.cap, R.rd.below (h.mono (by have := R.far; have := R.box.lt; omega)), R.far, R.b8⟩
def ByteD (L rg : Nat) (bs : List Nat) (bad : Bool) (w : World) (e : Ending) (w' : World) : Prop :=
 ∃ x A c bs' bad', e = .returned (.int .u8 (x : Nat)) ∧ x < 256 ∧ RdD w' L rg A c bs' bad' ∧ Fr1 rg w w' ∧ Rdd bad (rdB bs) x bs' bad' ∧ ∃ d, bs = d ++ bs'
set_option maxRecDepth 100000 in
theorem rbyteD_any {w : World} {L rg c : Nat} {A : Option Addr} {bs : List Nat} {bad : Bool} (R : RdD w L rg A c bs bad) (hn : bs.length ≤ 9000000) :
 Calls Tryz.prog 83 #[.pointer (some ⟨rg, 0, none⟩)] w (ByteD L rg bs bad w) := by
 have c0 := R.box.cell 0
 have c1 := R.box.cell 1
 have z0 := R.box.frozen 0
 have z1 := R.box.frozen 1
 match bs, R with
 | [], R =>
   have HF := Lib.hid (show ByteD L rg [] bad w (.returned (.int .u8 0)) (w.setCell ⟨rg, 1, none⟩ (.bool true)) from
    ⟨0, A, c, [], true, rfl, by decide, ⟨R.box.set_ 1 _, R.cap, R.rd.below (Below.setCell (Below.refl _ _) (p := ⟨rg, 1, none⟩) R.far _), R.far, R.b8⟩, Fr1.set _ _ _ _, ⟨fun h => (by cases h), fun _ h => by obtain ⟨p, hp⟩ := h; cases hp⟩, [], rfl⟩)
   go_enter Tryz.func83, Tryz.ntmps83
   go_wp2_with fail
   go_ret
   exact HF.out
 | x :: t, R =>
   have hc := R.cap
   rw [List.length_cons] at hc
   have hx := R.b8 x (by simp)
   obtain ⟨ad, hA, hb, hcl⟩ := R.rd.2 (by simp)
   subst hA
   have h0 := hcl 0 (.int .u8 (x : Nat)) (by simp [u8c])
   have e0 : ad.add 0 = ad := by simp [Addr.add]
   rw [e0] at h0
   have hsl := fun w => slice_rest w (some ad) (t.length + 1) c 1 (by omega)
   have hrr := reads_rest (k := 1) R.rd R.cap (by simp)
   have HF := Lib.hid (show ∀ A' c', tailA (some ad) c 1 = A' → c - 1 = c' → ByteD L rg (x :: t) bad w (.returned (.int .u8 (x : Nat))) (w.setCell ⟨rg, 0, none⟩ (.slice A' t.length c')) from fun A' c' hA' hc' => by
    subst hA' hc'
    exact ⟨x, tailA (some ad) c 1, c - 1, t, bad, rfl, hx, ⟨R.box.set_ 0 _, by omega, by
     have := hrr.below (Below.setCell (Below.refl _ _) (p := ⟨rg, 0, none⟩) R.far (.slice (tailA (some ad) c 1) (t.length + 1 - 1) (c - 1)))
     simpa using this, R.far, fun y hy => R.b8 y (by simp [hy])⟩, Fr1.set _ _ _ _, ⟨fun h => ⟨h, rfl⟩, fun h _ => h⟩, [x], rfl⟩)
   clear hrr R hcl hb e0
   rw [List.length_cons] at c0
   go_enter Tryz.func83, Tryz.ntmps83
   go_wp2_with fail
   all_goals go_ret
   all_goals exact HF.out _ _ (by simp [tailA, Addr.add, *]) (by omega)
end
section
open Go.RowKit
attribute [local go_sem] Oper.semAt_some
def NumD (L rg : Nat) (bs : List Nat) (bad : Bool) (w : World) (e : Ending) (w' : World) : Prop :=
 ∃ v A c bs' bad', e = .returned (.int .u32 (v : Nat)) ∧ v < 4294967296 ∧ RdD w' L rg A c bs' bad' ∧ Fr1 rg w w' ∧ Rdd bad (rdNum bs) v bs' bad' ∧ ∃ d, bs = d ++ bs'
structure RdG (bs : List Nat) (bad : Bool) (i m : Nat) (bs' : List Nat) (bad' : Bool) : Prop where
 lt : m < 128 ^ i
 good : bad' = false → bad = false ∧ RdS bs false i m bs'
 no : bad' = true → bad = true ∨ rdNum bs = none
 pre : ∃ d, bs = d ++ bs'
theorem RdG.read {bs bs' bs5 : List Nat} {bad bad' bad5 : Bool} {i m x : Nat} (G : RdG bs bad i m bs' bad') (D : Rdd bad' (rdB bs') x bs5 bad5) :
 (bad5 = true → bad = true ∨ rdNum bs = none) ∧ (bad5 = false → bad = false ∧ bad' = false ∧ bs' = x :: bs5 ∧ RdS bs false i m bs') := by
 refine ⟨fun h => ?_, fun h => ?_⟩
 ·cases hb : bad' with
  | true => exact G.no hb
  | false =>
    obtain ⟨g1, g2⟩ := G.good hb
    have h3 : ∀ p, rdB bs' ≠ some p := fun p hp => by have := D.2 hb ⟨p, hp⟩; rw [h] at this; cases this
    cases bs' with
    | nil =>
      obtain ⟨h4, h5, h6 | h6, h7⟩ := g2
      ·rw [← h6.2]; exact .inr (by unfold rdN; rfl)
      ·exact .inr h6.2
    | cons a t => exact absurd rfl (h3 (a, t))
 ·obtain ⟨h1, h2⟩ := D.1 h
  obtain ⟨g1, g2⟩ := G.good h1
  cases bs' with
  | nil => cases h2
  | cons a t =>
    injection h2 with h2
    injection h2 with h3 h4
    subst h3 h4
    exact ⟨g1, h1, rfl, g2⟩
theorem numD_bad {w W : World} {L rg c v : Nat} {A : Option Addr} {bs bs' : List Nat} {bad bad' : Bool} (hv : v < 4294967296) (R : RdD W L rg A c bs' bad') (F : Fr1 rg w W) (hd : ∃ d, bs = d ++ bs') (h : bad = true ∨ rdNum bs = none) :
 NumD L rg bs bad w (.returned (.int .u32 (v : Nat))) (W.setCell ⟨rg, 1, none⟩ (.bool true)) :=
 ⟨v, A, c, bs', true, rfl, hv, ⟨R.box.set_ 1 _, R.cap, R.rd.below (Below.setCell (Below.refl _ _) (p := ⟨rg, 1, none⟩) R.far _), R.far, R.b8⟩, F.trans (Fr1.set _ _ _ _), ⟨fun e => (by cases e), fun e hp => by
   obtain ⟨p, hp⟩ := hp
   rcases h with h | h
   ·rw [h] at e; cases e
   ·rw [h] at hp; cases hp⟩, hd⟩
theorem numD_val {L rg N : Nat} {bs : List Nat} {bad : Bool} {w w' : World} {S T : Int} (h : NumD L rg bs bad w (.returned (.int .u32 ((N % 4294967296 : Nat) : Int))) w') (hS : S = (N : Int)) (hT : T = S % 4294967296 := by first | rfl | omega) : NumD L rg bs bad w (.returned (.int .u32 T)) w' := by
 have e : T = ((N % 4294967296 : Nat) : Int) := by rw [hT, hS]; omega
 rw [e]; exact h
theorem numD_val2 {L rg N : Nat} {bs : List Nat} {bad : Bool} {w w' : World} {S T : Int} (h : NumD L rg bs bad w (.returned (.int .u32 (N : Int))) w') (hS : S = (N : Int)) (hN : N < 4294967296) (hT : T = S ∨ T = S % 4294967296 := by first | exact .inl rfl | exact .inr rfl | (left; omega)) : NumD L rg bs bad w (.returned (.int .u32 T)) w' := by
 have e : T = (N : Int) := by rcases hT with hT | hT <;> rw [hT, hS]; omega
 rw [e]; exact h
theorem numD_end {w W : World} {L rg c N i m x : Nat} {A : Option Addr} {bs bs' bs5 : List Nat} {bad bad' bad5 : Bool} (G : RdG bs bad i m bs' bad') (D : Rdd bad' (rdB bs') x bs5 bad5) (hi : i ≤ 4) (hN : N = m + 128 ^ i * (x % 128)) (h128 : x < 128) (h0 : ¬ (0 < i ∧ x = 0)) (hlt : N < 4294967296)
 (R : RdD W L rg A c bs5 bad5) (F : Fr1 rg w W) (hd : ∃ d, bs = d ++ bs5) : NumD L rg bs bad w (.returned (.int .u32 (N : Nat))) W := by
 obtain ⟨g1, g2⟩ := G.read D
 refine ⟨N, A, c, bs5, bad5, rfl, hlt, R, F, ⟨fun e => ?_, fun e hp => ?_⟩, hd⟩
 ·obtain ⟨k1, k2, k3, k4⟩ := g2 e
  exact ⟨k1, by rw [k4.done k3 hi h0 (by rw [← hN]; exact hlt) h128, ← hN]⟩
 ·obtain ⟨p, hp⟩ := hp
  cases hb : bad5 with
  | false => rfl
  | true =>
    rcases g1 hb with h | h
    ·rw [h] at e; cases e
    ·rw [h] at hp; cases hp
theorem numD_no {bs bs' bs5 : List Nat} {bad bad' bad5 : Bool} {i m x : Nat} (G : RdG bs bad i m bs' bad') (D : Rdd bad' (rdB bs') x bs5 bad5) (h : i = 5 ∨ (0 < i ∧ x = 0) ∨ 4294967296 ≤ m + 128 ^ i * (x % 128)) (hx : x < 256) : bad = true ∨ rdNum bs = none := by
 obtain ⟨g1, g2⟩ := G.read D
 cases hb : bad5 with
 | true => exact g1 hb
 | false =>
   obtain ⟨k1, k2, k3, k4⟩ := g2 hb
   exact .inr (k4.stop k3 h hx)
theorem RdG.next {bs bs' bs5 : List Nat} {bad bad' bad5 : Bool} {i m x : Nat} (G : RdG bs bad i m bs' bad') (D : Rdd bad' (rdB bs') x bs5 bad5) (hi : i ≤ 4) (hx : ¬ x < 128) (hd : ∃ d, bs = d ++ bs5) : RdG bs bad (i + 1) (m + 128 ^ i * (x % 128)) bs5 bad5 := by
 obtain ⟨g1, g2⟩ := G.read D
 have h5 : x % 128 < 128 := Nat.mod_lt _ (by omega)
 have h6 : 128 ^ i * (x % 128) ≤ 128 ^ i * 127 := Nat.mul_le_mul_left _ (by omega)
 refine ⟨by have := G.lt; rw [Nat.pow_succ]; omega, fun e => ?_, g1, hd⟩
 obtain ⟨k1, k2, k3, k4⟩ := g2 e
 exact ⟨k1, k4.next rfl k3 hi hx⟩
set_option maxRecDepth 100000 in
set_option maxHeartbeats 8000000 in
theorem rnumberD_any {w : World} {L rg c : Nat} {A : Option Addr} {bs : List Nat} {bad : Bool} (R : RdD w L rg A c bs bad) (hn : bs.length ≤ 9000000) :
 Calls Tryz.prog 51 #[.pointer (some ⟨rg, 0, none⟩)] w (NumD L rg bs bad w) := by
 have HR := Lib.hid R
 clear R
 go_enter Tryz.func51, Tryz.ntmps51
 go_wp2_with fail
 go_loopw [3, 4, 5] (fun n sc s wr => ∃ (i m c' : Nat) (A' : Option Addr) (bs' : List Nat) (bad' : Bool), s = .int .i64 (i : Int) ∧ n = .int .u64 (m : Int) ∧ sc = .int .u64 ((128 ^ i : Nat) : Int) ∧ i ≤ 5 ∧ RdG bs bad i m bs' bad' ∧ RdD wr L rg A' c' bs' bad' ∧ Fr1 rg w wr) (fun _ _ s _ => 5 - (intOf s).toNat)
 case atStart => exact ⟨0, 0, c, A, bs, bad, rfl, rfl, rfl, by omega, ⟨by decide, fun h => ⟨h, by decide, .inr rfl, .inl ⟨by omega, rfl⟩, [], rfl⟩, fun h => .inl h, [], rfl⟩, HR.out, Fr1.refl _ _⟩
 case round =>
  clear HR
  obtain ⟨i, m, c', A', bs', bad', rfl, rfl, rfl, hi, G, R, F⟩ := hrel
  have HG := Lib.hid G
  have HF := Lib.hid F
  have hl' : bs'.length ≤ 9000000 := by obtain ⟨d, h4⟩ := G.pre; rw [h4, List.length_append] at hn; omega
  have hm1 : m < 128 ^ i := G.lt
  have HB := Lib.hid (rbyteD_any R hl')
  have HR0 := Lib.hid R
  clear G F R
  obtain rfl | rfl | rfl | rfl | rfl | rfl : i = 0 ∨ i = 1 ∨ i = 2 ∨ i = 3 ∨ i = 4 ∨ i = 5 := by omega
  ·simp only [Nat.reducePow] at hm1 ⊢
   obtain rfl : m = 0 := by omega
   go_wp2_with fail
   refine HB.out.mono ?_
   rintro e w5 ⟨x, A5, c5, bs5, bad5, rfl, hx, R5, F5, D5, d5, hd5⟩
   have HR5 := Lib.hid R5
   have HF5 := Lib.hid (HF.out.trans F5)
   have k1 := R5.box.cell 1
   have z1 := R5.box.frozen 1
   have HSF := Lib.hid (show ∃ d, bs = d ++ bs5 from by obtain ⟨d, h4⟩ := HG.out.pre; exact ⟨d ++ d5, by rw [h4, hd5, List.append_assoc]⟩)
   have HD := Lib.hid D5
   have hxm : x % 128 < 128 := Nat.mod_lt _ (by omega)
   obtain ⟨N, hN⟩ : ∃ N, N = 0 + 128 ^ 0 * (x % 128) := ⟨_, rfl⟩
   have HN := Lib.hid hN
   simp only [Nat.reducePow] at hN
   clear R5 F5 HB D5 hd5 HR0
   have HNJ := Lib.hid (show (x : Int) % 128 = (N : Int) by omega)
   clear hN
   have hNB : (x : Int) % 128 ≤ 128 := by omega
   by_cases h128 : x < 128
   ·have hl : decide ((x : Int) < 128) = true := by simp; omega
    have hge : ¬ 4294967296 ≤ N := by have := HNJ.out; omega
    have hg : decide (4294967295 < (x : Int) % 128) = false := by simp; omega
    have HE := Lib.hid (numD_end HG.out HD.out (by omega) HN.out h128 (by omega) (by omega) HR5.out HF5.out HSF.out)
    clear HG HF HR5 HF5 HD HN h128
    go_wp2_with fail
    all_goals go_ret
    all_goals exact numD_val2 HE.out HNJ.out (by omega)
   ·have hl : decide ((x : Int) < 128) = false := by simp; omega
    have HX := Lib.hid (HG.out.next HD.out (by omega) h128 HSF.out)
    clear HG HF HD
    go_wp2_with fail
    go_roundw
    case rel => exact ⟨0 + 1, N, c5, A5, bs5, bad5, by go_num, by first | rfl | (rw [HNJ.out]), by first | rfl | (simp; done) | go_num, by omega, by rw [HN.out]; exact HX.out, HR5.out, HF5.out⟩
    case measure => simp [intOf]
  ·simp only [Nat.reducePow] at hm1 ⊢
   go_wp2_with fail
   refine HB.out.mono ?_
   rintro e w5 ⟨x, A5, c5, bs5, bad5, rfl, hx, R5, F5, D5, d5, hd5⟩
   have HR5 := Lib.hid R5
   have HF5 := Lib.hid (HF.out.trans F5)
   have k1 := R5.box.cell 1
   have z1 := R5.box.frozen 1
   have HSF := Lib.hid (show ∃ d, bs = d ++ bs5 from by obtain ⟨d, h4⟩ := HG.out.pre; exact ⟨d ++ d5, by rw [h4, hd5, List.append_assoc]⟩)
   have HD := Lib.hid D5
   have hxm : x % 128 < 128 := Nat.mod_lt _ (by omega)
   obtain ⟨N, hN⟩ : ∃ N, N = m + 128 ^ 1 * (x % 128) := ⟨_, rfl⟩
   have HN := Lib.hid hN
   simp only [Nat.reducePow] at hN
   clear R5 F5 HB D5 hd5 HR0
   have HNJ := Lib.hid (show (m : Int) + 128 * ((x : Int) % 128) = (N : Int) by omega)
   clear hN
   have hNB : (m : Int) + 128 * ((x : Int) % 128) ≤ 16384 := by omega
   by_cases h128 : x < 128
   ·have hl : decide ((x : Int) < 128) = true := by simp; omega
    by_cases hx0 : x = 0
    ·have hz : ((x : Int) == 0) = true := by simp; omega
     have HE := Lib.hid (numD_bad (v := N % 4294967296) (Nat.mod_lt _ (by omega)) HR5.out HF5.out HSF.out (numD_no HG.out HD.out (.inr (.inl ⟨by omega, hx0⟩)) hx))
     clear hx0 HG HF HR5 HF5 HD HN h128
     go_wp2_with fail
     go_ret
     exact numD_val HE.out HNJ.out
    ·have hz : ((x : Int) == 0) = false := by simp; omega
     have hge : ¬ 4294967296 ≤ N := by have := HNJ.out; omega
     have hg : decide (4294967295 < (m : Int) + 128 * ((x : Int) % 128)) = false := by simp; omega
     have HE := Lib.hid (numD_end HG.out HD.out (by omega) HN.out h128 (by rintro ⟨_, h⟩; exact hx0 h) (by omega) HR5.out HF5.out HSF.out)
     clear HG HF HR5 HF5 HD HN h128
     go_wp2_with fail
     all_goals go_ret
     all_goals exact numD_val2 HE.out HNJ.out (by omega)
   ·have hl : decide ((x : Int) < 128) = false := by simp; omega
    have HX := Lib.hid (HG.out.next HD.out (by omega) h128 HSF.out)
    clear HG HF HD
    go_wp2_with fail
    go_roundw
    case rel => exact ⟨1 + 1, N, c5, A5, bs5, bad5, by go_num, by first | rfl | (rw [HNJ.out]), by first | rfl | (simp; done) | go_num, by omega, by rw [HN.out]; exact HX.out, HR5.out, HF5.out⟩
    case measure => simp [intOf]
  ·simp only [Nat.reducePow] at hm1 ⊢
   go_wp2_with fail
   refine HB.out.mono ?_
   rintro e w5 ⟨x, A5, c5, bs5, bad5, rfl, hx, R5, F5, D5, d5, hd5⟩
   have HR5 := Lib.hid R5
   have HF5 := Lib.hid (HF.out.trans F5)
   have k1 := R5.box.cell 1
   have z1 := R5.box.frozen 1
   have HSF := Lib.hid (show ∃ d, bs = d ++ bs5 from by obtain ⟨d, h4⟩ := HG.out.pre; exact ⟨d ++ d5, by rw [h4, hd5, List.append_assoc]⟩)
   have HD := Lib.hid D5
   have hxm : x % 128 < 128 := Nat.mod_lt _ (by omega)
   obtain ⟨N, hN⟩ : ∃ N, N = m + 128 ^ 2 * (x % 128) := ⟨_, rfl⟩
   have HN := Lib.hid hN
   simp only [Nat.reducePow] at hN
   clear R5 F5 HB D5 hd5 HR0
   have HNJ := Lib.hid (show (m : Int) + 16384 * ((x : Int) % 128) = (N : Int) by omega)
   clear hN
   have hNB : (m : Int) + 16384 * ((x : Int) % 128) ≤ 2097152 := by omega
   by_cases h128 : x < 128
   ·have hl : decide ((x : Int) < 128) = true := by simp; omega
    by_cases hx0 : x = 0
    ·have hz : ((x : Int) == 0) = true := by simp; omega
     have HE := Lib.hid (numD_bad (v := N % 4294967296) (Nat.mod_lt _ (by omega)) HR5.out HF5.out HSF.out (numD_no HG.out HD.out (.inr (.inl ⟨by omega, hx0⟩)) hx))
     clear hx0 HG HF HR5 HF5 HD HN h128
     go_wp2_with fail
     go_ret
     exact numD_val HE.out HNJ.out
    ·have hz : ((x : Int) == 0) = false := by simp; omega
     have hge : ¬ 4294967296 ≤ N := by have := HNJ.out; omega
     have hg : decide (4294967295 < (m : Int) + 16384 * ((x : Int) % 128)) = false := by simp; omega
     have HE := Lib.hid (numD_end HG.out HD.out (by omega) HN.out h128 (by rintro ⟨_, h⟩; exact hx0 h) (by omega) HR5.out HF5.out HSF.out)
     clear HG HF HR5 HF5 HD HN h128
     go_wp2_with fail
     all_goals go_ret
     all_goals exact numD_val2 HE.out HNJ.out (by omega)
   ·have hl : decide ((x : Int) < 128) = false := by simp; omega
    have HX := Lib.hid (HG.out.next HD.out (by omega) h128 HSF.out)
    clear HG HF HD
    go_wp2_with fail
    go_roundw
    case rel => exact ⟨2 + 1, N, c5, A5, bs5, bad5, by go_num, by first | rfl | (rw [HNJ.out]), by first | rfl | (simp; done) | go_num, by omega, by rw [HN.out]; exact HX.out, HR5.out, HF5.out⟩
    case measure => simp [intOf]
  ·simp only [Nat.reducePow] at hm1 ⊢
   go_wp2_with fail
   refine HB.out.mono ?_
   rintro e w5 ⟨x, A5, c5, bs5, bad5, rfl, hx, R5, F5, D5, d5, hd5⟩
   have HR5 := Lib.hid R5
   have HF5 := Lib.hid (HF.out.trans F5)
   have k1 := R5.box.cell 1
   have z1 := R5.box.frozen 1
   have HSF := Lib.hid (show ∃ d, bs = d ++ bs5 from by obtain ⟨d, h4⟩ := HG.out.pre; exact ⟨d ++ d5, by rw [h4, hd5, List.append_assoc]⟩)
   have HD := Lib.hid D5
   have hxm : x % 128 < 128 := Nat.mod_lt _ (by omega)
   obtain ⟨N, hN⟩ : ∃ N, N = m + 128 ^ 3 * (x % 128) := ⟨_, rfl⟩
   have HN := Lib.hid hN
   simp only [Nat.reducePow] at hN
   clear R5 F5 HB D5 hd5 HR0
   have HNJ := Lib.hid (show (m : Int) + 2097152 * ((x : Int) % 128) = (N : Int) by omega)
   clear hN
   have hNB : (m : Int) + 2097152 * ((x : Int) % 128) ≤ 268435456 := by omega
   by_cases h128 : x < 128
   ·have hl : decide ((x : Int) < 128) = true := by simp; omega
    by_cases hx0 : x = 0
    ·have hz : ((x : Int) == 0) = true := by simp; omega
     have HE := Lib.hid (numD_bad (v := N % 4294967296) (Nat.mod_lt _ (by omega)) HR5.out HF5.out HSF.out (numD_no HG.out HD.out (.inr (.inl ⟨by omega, hx0⟩)) hx))
     clear hx0 HG HF HR5 HF5 HD HN h128
     go_wp2_with fail
     go_ret
     exact numD_val HE.out HNJ.out
    ·have hz : ((x : Int) == 0) = false := by simp; omega
     have hge : ¬ 4294967296 ≤ N := by have := HNJ.out; omega
     have hg : decide (4294967295 < (m : Int) + 2097152 * ((x : Int) % 128)) = false := by simp; omega
     have HE := Lib.hid (numD_end HG.out HD.out (by omega) HN.out h128 (by rintro ⟨_, h⟩; exact hx0 h) (by omega) HR5.out HF5.out HSF.out)
     clear HG HF HR5 HF5 HD HN h128
     go_wp2_with fail
     all_goals go_ret
     all_goals exact numD_val2 HE.out HNJ.out (by omega)
   ·have hl : decide ((x : Int) < 128) = false := by simp; omega
    have HX := Lib.hid (HG.out.next HD.out (by omega) h128 HSF.out)
    clear HG HF HD
    go_wp2_with fail
    go_roundw
    case rel => exact ⟨3 + 1, N, c5, A5, bs5, bad5, by go_num, by first | rfl | (rw [HNJ.out]), by first | rfl | (simp; done) | go_num, by omega, by rw [HN.out]; exact HX.out, HR5.out, HF5.out⟩
    case measure => simp [intOf]
  ·simp only [Nat.reducePow] at hm1 ⊢
   go_wp2_with fail
   refine HB.out.mono ?_
   rintro e w5 ⟨x, A5, c5, bs5, bad5, rfl, hx, R5, F5, D5, d5, hd5⟩
   have HR5 := Lib.hid R5
   have HF5 := Lib.hid (HF.out.trans F5)
   have k1 := R5.box.cell 1
   have z1 := R5.box.frozen 1
   have HSF := Lib.hid (show ∃ d, bs = d ++ bs5 from by obtain ⟨d, h4⟩ := HG.out.pre; exact ⟨d ++ d5, by rw [h4, hd5, List.append_assoc]⟩)
   have HD := Lib.hid D5
   have hxm : x % 128 < 128 := Nat.mod_lt _ (by omega)
   obtain ⟨N, hN⟩ : ∃ N, N = m + 128 ^ 4 * (x % 128) := ⟨_, rfl⟩
   have HN := Lib.hid hN
   simp only [Nat.reducePow] at hN
   clear R5 F5 HB D5 hd5 HR0
   have HNJ := Lib.hid (show (m : Int) + 268435456 * ((x : Int) % 128) = (N : Int) by omega)
   clear hN
   have hNB : (m : Int) + 268435456 * ((x : Int) % 128) ≤ 34359738368 := by omega
   by_cases h128 : x < 128
   ·have hl : decide ((x : Int) < 128) = true := by simp; omega
    by_cases hx0 : x = 0
    ·have hz : ((x : Int) == 0) = true := by simp; omega
     have HE := Lib.hid (numD_bad (v := N % 4294967296) (Nat.mod_lt _ (by omega)) HR5.out HF5.out HSF.out (numD_no HG.out HD.out (.inr (.inl ⟨by omega, hx0⟩)) hx))
     clear hx0 HG HF HR5 HF5 HD HN h128
     go_wp2_with fail
     go_ret
     exact numD_val HE.out HNJ.out
    ·have hz : ((x : Int) == 0) = false := by simp; omega
     by_cases hge : 4294967296 ≤ N
     ·have hg : decide (4294967295 < (m : Int) + 268435456 * ((x : Int) % 128)) = true := by have := HNJ.out; simp; omega
      have HE := Lib.hid (numD_bad (v := N % 4294967296) (Nat.mod_lt _ (by omega)) HR5.out HF5.out HSF.out (numD_no HG.out HD.out (.inr (.inr (by rw [← HN.out]; exact hge))) hx))
      clear HG HF HR5 HF5 HD HN h128
      go_wp2_with fail
      go_ret
      exact numD_val HE.out HNJ.out
     ·have hg : decide (4294967295 < (m : Int) + 268435456 * ((x : Int) % 128)) = false := by have := HNJ.out; simp; omega
      have HE := Lib.hid (numD_end HG.out HD.out (by omega) HN.out h128 (by rintro ⟨_, h⟩; exact hx0 h) (by omega) HR5.out HF5.out HSF.out)
      clear HG HF HR5 HF5 HD HN h128
      go_wp2_with fail
      all_goals go_ret
      all_goals exact numD_val2 HE.out HNJ.out (by omega)
   ·have hl : decide ((x : Int) < 128) = false := by simp; omega
    have HX := Lib.hid (HG.out.next HD.out (by omega) h128 HSF.out)
    clear HG HF HD
    go_wp2_with fail
    go_roundw
    case rel => exact ⟨4 + 1, N, c5, A5, bs5, bad5, by go_num, by first | rfl | (rw [HNJ.out]), by first | rfl | (simp; done) | go_num, by omega, by rw [HN.out]; exact HX.out, HR5.out, HF5.out⟩
    case measure => simp [intOf]
  ·have k1 := HR0.out.box.cell 1
   have z1 := HR0.out.box.frozen 1
   have HE := Lib.hid (numD_bad (v := 0) (by decide) HR0.out HF.out HG.out.pre (show bad = true ∨ rdNum bs = none from by
    cases hb : bad' with
    | true => exact HG.out.no hb
    | false =>
      obtain ⟨g1, g2⟩ := HG.out.good hb
      obtain ⟨h4, h5, h6 | h6, h7⟩ := g2
      ·exact absurd h6.1 (by omega)
      ·exact .inr h6.2))
   clear HG HF HR0 HB
   go_wp2_with fail
   go_ret
   exact HE.out
end
section
open Go.RowKit
attribute [local go_sem] Oper.semAt_some
def rdW : List Nat → Option (Nat × List Nat)
 | a :: b :: c :: d :: t => some (a + 256 * b + 65536 * c + 16777216 * d, t)
 | _ => none
theorem rdW_of {bs bs1 bs2 bs3 bs4 : List Nat} {a b c d : Nat} {bad d1 d2 d3 d4 : Bool} (D1 : Rdd bad (rdB bs) a bs1 d1) (D2 : Rdd d1 (rdB bs1) b bs2 d2) (D3 : Rdd d2 (rdB bs2) c bs3 d3) (D4 : Rdd d3 (rdB bs3) d bs4 d4) :
 Rdd bad (rdW bs) (a + 256 * b + 65536 * c + 16777216 * d) bs4 d4 := by
 refine ⟨fun h => ?_, fun h hp => ?_⟩
 ·obtain ⟨h3, e4⟩ := D4.1 h
  obtain ⟨h2, e3⟩ := D3.1 h3
  obtain ⟨h1, e2⟩ := D2.1 h2
  obtain ⟨h0, e1⟩ := D1.1 h1
  refine ⟨h0, ?_⟩
  cases bs with
  | nil => cases e1
  | cons p t =>
    injection e1 with e1; injection e1 with p1 p2; subst p1 p2
    cases t with
    | nil => cases e2
    | cons p t =>
      injection e2 with e2; injection e2 with p1 p2; subst p1 p2
      cases t with
      | nil => cases e3
      | cons p t =>
        injection e3 with e3; injection e3 with p1 p2; subst p1 p2
        cases t with
        | nil => cases e4
        | cons p t =>
          injection e4 with e4; injection e4 with p1 p2; subst p1 p2
          rfl
 ·obtain ⟨p, hp⟩ := hp
  match bs, hp with
  | x1 :: x2 :: x3 :: x4 :: t, _ =>
    have k1 := D1.2 h ⟨_, rfl⟩
    obtain ⟨_, e1⟩ := D1.1 k1
    injection e1 with e1; injection e1 with p1 p2; subst p1 p2
    have k2 := D2.2 k1 ⟨_, rfl⟩
    obtain ⟨_, e1⟩ := D2.1 k2
    injection e1 with e1; injection e1 with p1 p2; subst p1 p2
    have k3 := D3.2 k2 ⟨_, rfl⟩
    obtain ⟨_, e1⟩ := D3.1 k3
    injection e1 with e1; injection e1 with p1 p2; subst p1 p2
    exact D4.2 k3 ⟨_, rfl⟩
def WordD (L rg : Nat) (bs : List Nat) (bad : Bool) (w : World) (e : Ending) (w' : World) : Prop :=
 ∃ v A c bs' bad', e = .returned (.int .u32 (v : Nat)) ∧ v < 4294967296 ∧ RdD w' L rg A c bs' bad' ∧ Fr1 rg w w' ∧ Rdd bad (rdW bs) v bs' bad' ∧ ∃ d, bs = d ++ bs'
set_option maxRecDepth 100000 in
set_option maxHeartbeats 4000000 in
theorem rwordD_any {w : World} {L rg c : Nat} {A : Option Addr} {bs : List Nat} {bad : Bool} (R : RdD w L rg A c bs bad) (hn : bs.length ≤ 9000000) :
 Calls Tryz.prog 48 #[.pointer (some ⟨rg, 0, none⟩)] w (WordD L rg bs bad w) := by
 have HB1 := Lib.hid (rbyteD_any R hn)
 clear R
 go_enter Tryz.func48, Tryz.ntmps48
 go_wp2_with fail
 refine HB1.out.mono ?_
 rintro e w1 ⟨x1, A1, c1, bs1, d1, rfl, hx1, R1, F1, D1, t1, e1⟩
 have hn1 : bs1.length ≤ 9000000 := by have := congrArg List.length e1; rw [List.length_append] at this; omega
 have HE1 := Lib.hid e1
 have HF1 := Lib.hid F1
 have HD1 := Lib.hid D1
 have HB2 := Lib.hid (rbyteD_any R1 hn1)
 clear R1 F1 D1 e1 HB1
 go_wp2_with fail
 refine HB2.out.mono ?_
 rintro e w2 ⟨x2, A2, c2, bs2, d2, rfl, hx2, R2, F2, D2, t2, e2⟩
 have hn2 : bs2.length ≤ 9000000 := by have := congrArg List.length e2; rw [List.length_append] at this; omega
 have HE2 := Lib.hid (show ∃ t, bs = t ++ bs2 from by obtain h := HE1.out; exact ⟨t1 ++ t2, by rw [h, e2, List.append_assoc]⟩)
 have HF2 := Lib.hid (HF1.out.trans F2)
 have HD2 := Lib.hid D2
 have HB3 := Lib.hid (rbyteD_any R2 hn2)
 clear R2 F2 D2 e2 HB2
 go_wp2_with fail
 refine HB3.out.mono ?_
 rintro e w3 ⟨x3, A3, c3, bs3, d3, rfl, hx3, R3, F3, D3, t3, e3⟩
 have hn3 : bs3.length ≤ 9000000 := by have := congrArg List.length e3; rw [List.length_append] at this; omega
 have HE3 := Lib.hid (show ∃ t, bs = t ++ bs3 from by obtain h := HE2.out; obtain ⟨t, h⟩ := h; exact ⟨t ++ t3, by rw [h, e3, List.append_assoc]⟩)
 have HF3 := Lib.hid (HF2.out.trans F3)
 have HD3 := Lib.hid D3
 have HB4 := Lib.hid (rbyteD_any R3 hn3)
 clear R3 F3 D3 e3 HB3
 go_wp2_with fail
 refine HB4.out.mono ?_
 rintro e w4 ⟨x4, A4, c4, bs4, d4, rfl, hx4, R4, F4, D4, t4, e4⟩
 have hn4 : bs4.length ≤ 9000000 := by have := congrArg List.length e4; rw [List.length_append] at this; omega
 have HE4 := Lib.hid (show ∃ t, bs = t ++ bs4 from by obtain h := HE3.out; obtain ⟨t, h⟩ := h; exact ⟨t ++ t4, by rw [h, e4, List.append_assoc]⟩)
 have HF4 := Lib.hid (HF3.out.trans F4)
 have HD4 := Lib.hid D4
 have HR4 := Lib.hid R4
 clear R4 F4 D4 e4 HB4
 go_wp2_with fail
 go_ret
 exact ⟨x1 + 256 * x2 + 65536 * x3 + 16777216 * x4, A4, c4, bs4, d4, by first | rfl | (congr 2; push_cast; rfl) | (congr 2), by omega, HR4.out, HF4.out, rdW_of HD1.out HD2.out HD3.out HD4.out, HE4.out⟩
end
end Go.Proofs.YthadjmhipckelaaGreatDoor
