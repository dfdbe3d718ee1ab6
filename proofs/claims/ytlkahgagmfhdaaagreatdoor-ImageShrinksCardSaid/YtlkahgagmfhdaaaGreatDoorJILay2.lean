import Derived.Test.YtlkahgagmfhdaaaGreatDoorJIObjR
set_option linter.unusedVariables false
set_option linter.unusedSimpArgs false
namespace Go.Proofs.YtlkahgagmfhdaaaGreatDoor
section
open Go.RowKit
attribute [local go_sem] Oper.semAt_some
def WrB (w : World) (B g : Nat) (us : List Wr) : Prop := ∀ u ∈ us, Reads w B 1 u.A u.fs.length (u32s u.fs) ∧ (0 < u.fs.length → ∀ a, u.A = some a → a.block ≠ g)
theorem WrB.keep {w w' : World} {B g : Nat} {us : List Wr} (h : WrB w B g us) (hk : ∀ k, k < B → k ≠ g → w'.heap[k]? = w.heap[k]?) : WrB w' B g us := fun u hu => by
 obtain ⟨h1, h2⟩ := h u hu
 refine ⟨⟨h1.1, fun hn => ?_⟩, h2⟩
 obtain ⟨a, ha, hb, hc⟩ := h1.2 hn
 exact ⟨a, ha, hb, fun j v hv => (World.cell?_of_block (a := a.add j) (by rw [block_of_add]; exact hk a.block hb (h2 hn a ha))).trans (hc j v hv)⟩
def usK (us : List Wr) (k : Nat) : List Wr := (List.range us.length).map fun j => if j < k then { (us.getD j default) with pl := placeT ((us.map Wr.th).take j) } else us.getD j default
theorem usK_len (us : List Wr) (k : Nat) : (usK us k).length = us.length := by simp [usK]
theorem usK_get (us : List Wr) (k j : Nat) (hj : j < us.length) : (usK us k).getD j default = if j < k then { (us.getD j default) with pl := placeT ((us.map Wr.th).take j) } else us.getD j default := by
 unfold usK
 rw [List.getD_eq_getElem?_getD, List.getElem?_map, List.getElem?_range hj]
 rfl
theorem usK_zero (us : List Wr) : usK us 0 = us := by
 apply List.ext_getElem
 ·simp [usK]
 ·intro i h1 h2
  simp [usK, List.getD_eq_getElem?_getD, List.getElem?_eq_getElem h2]
theorem usK_set (us : List Wr) (k : Nat) (hk : k < us.length) : (usK us k).set k { ((usK us k).getD k default) with pl := placeT ((us.map Wr.th).take k) } = usK us (k + 1) := by
 rw [usK_get us k k hk, if_neg (by omega)]
 apply List.ext_getElem
 ·simp [usK]
 ·intro i h1 h2
  rw [usK_len] at h2
  rw [List.getElem_set]
  have e1 : (usK us (k + 1))[i]'(by rw [usK_len]; exact h2) = (usK us (k + 1)).getD i default := by rw [List.getD_eq_getElem?_getD, List.getElem?_eq_getElem (by rw [usK_len]; exact h2)]; rfl
  have e2 : (usK us k)[i]'(by rw [usK_len]; exact h2) = (usK us k).getD i default := by rw [List.getD_eq_getElem?_getD, List.getElem?_eq_getElem (by rw [usK_len]; exact h2)]; rfl
  rw [e1, e2, usK_get us (k + 1) i h2, usK_get us k i h2]
  by_cases hik : k = i
  ·subst hik
   rw [if_pos rfl, if_pos (by omega)]
  ·rw [if_neg hik]
   by_cases hlt : i < k
   ·rw [if_pos hlt, if_pos (by omega)]
   ·rw [if_neg hlt, if_neg (by omega)]
theorem usK_th (us : List Wr) (k : Nat) : (usK us k).map Wr.th = us.map Wr.th := by
 apply List.ext_getElem
 ·simp [usK]
 ·intro i h1 h2
  have hi : i < us.length := by simpa using h2
  rw [List.getElem_map, List.getElem_map]
  have e1 : (usK us k)[i]'(by rw [usK_len]; exact hi) = (usK us k).getD i default := by rw [List.getD_eq_getElem?_getD, List.getElem?_eq_getElem (by rw [usK_len]; exact hi)]; rfl
  rw [e1, usK_get us k i hi, List.getD_eq_getElem?_getD, List.getElem?_eq_getElem hi]
  split <;> rfl
theorem usK_mem {us : List Wr} {k : Nat} {u : Wr} (h : u ∈ usK us k) : ∃ u', u' ∈ us ∧ u.x = u'.x ∧ u.A = u'.A ∧ u.c = u'.c ∧ u.fs = u'.fs := by
 unfold usK at h
 obtain ⟨j, hj, rfl⟩ := List.mem_map.1 h
 have hj' := List.mem_range.1 hj
 refine ⟨us.getD j default, by rw [List.getD_eq_getElem?_getD, List.getElem?_eq_getElem hj']; exact List.getElem_mem hj', ?_⟩
 split <;> exact ⟨rfl, rfl, rfl, rfl⟩
theorem WrB.usK {w : World} {B g : Nat} {us : List Wr} (h : WrB w B g us) (k : Nat) : WrB w B g (usK us k) := fun u hu => by
 obtain ⟨u', h1, h2, h3, h4, h5⟩ := usK_mem hu
 rw [h3, h5]
 exact h u' h1
structure LaySt (Bg : Nat) (w0 wr : World) (b4 b5 bf b13 b8 g : Nat) (A : Option Addr) (c : Nat) (us : List Wr) (last : Nat) (fine : Bool) (Bw : Nat) (vw : Value) (ws : List Nat) (vr : Value) (rs : List Nat) : Prop where
 v : LayV wr b5 bf b13 A c us fine
 box : Blk wr b4 130 #[.int .i64 2, .int .i64 0, .int .u32 last, vw, vr]
 res : Blk wr b8 130 #[.int .i64 0, .int .i64 0, .int .u32 0, .slice none 0 0, .slice none 0 0]
 wo : wr.ownsRow Bw 32 1 vw ws.length (u32s ws)
 ro : wr.ownsRow Bw 54 1 vr rs.length (u32s rs)
 fr : Below Bg w0 wr
 flds : WrB wr w0.heap.size g us
 l4 : w0.heap.size ≤ b4 ∧ b4 < Bw
 l5 : w0.heap.size ≤ b5 ∧ b5 < Bw
 lf : w0.heap.size ≤ bf ∧ bf < Bw
 l13 : w0.heap.size ≤ b13 ∧ b13 < Bw
 l8 : w0.heap.size ≤ b8 ∧ b8 < Bw
 lg : g < w0.heap.size
 lB : Bg ≤ g
 eg : 0 < us.length → A = some ⟨g, 0, none⟩
 n48 : b4 ≠ b8
 top : Bw ≤ wr.heap.size
 kept : ∀ k, k < w0.heap.size → k ≠ g → wr.heap[k]? = w0.heap[k]?
section
variable {Bg b4 b5 bf b13 b8 g c last Bw : Nat} {w0 wr w' : World} {A : Option Addr} {us : List Wr} {fine fine' : Bool} {vw vr v' : Value} {ws rs : List Nat}
theorem LaySt.re (S : LaySt Bg w0 wr b4 b5 bf b13 b8 g A c us last fine Bw vw ws vr rs) {vw' vr' : Value} {ws' rs' : List Nat} (hos : w'.os = wr.os) (ht : w'.tape = wr.tape) (ho : w'.output = wr.output) (hsz : wr.heap.size ≤ w'.heap.size)
 (hk : ∀ k, k < Bw → k ≠ bf → k ≠ b4 → w'.heap[k]? = wr.heap[k]?) (hf : Blk w' bf 4 #[.bool fine']) (hb : Blk w' b4 130 #[.int .i64 2, .int .i64 0, .int .u32 last, vw', vr'])
 (hw : w'.ownsRow Bw 32 1 vw' ws'.length (u32s ws')) (hr : w'.ownsRow Bw 54 1 vr' rs'.length (u32s rs')) : LaySt Bg w0 w' b4 b5 bf b13 b8 g A c us last fine' Bw vw' ws' vr' rs' := by
 have n5f : b5 ≠ bf := fun e => by have h1 := S.v.b.objs; have h2 := S.v.b.fn; unfold Blk at h1 h2; rw [e, h2] at h1; injection h1 with h1; injection h1 with _ h1; exact absurd h1 (by decide)
 have n54 : b5 ≠ b4 := fun e => by have h1 := S.v.b.objs; have h2 := S.box; unfold Blk at h1 h2; rw [e, h2] at h1; injection h1 with h1; injection h1 with _ h1; exact absurd h1 (by decide)
 have n13f : b13 ≠ bf := fun e => by have h1 := S.v.cl; have h2 := S.v.b.fn; unfold Blk at h1 h2; rw [e, h2] at h1; injection h1 with h1; injection h1 with _ h1; exact absurd h1 (by decide)
 have n134 : b13 ≠ b4 := fun e => by have h1 := S.v.cl; have h2 := S.box; unfold Blk at h1 h2; rw [e, h2] at h1; injection h1 with h1; injection h1 with _ h1; exact absurd h1 (by decide)
 have n8f : b8 ≠ bf := fun e => by have h1 := S.res; have h2 := S.v.b.fn; unfold Blk at h1 h2; rw [e, h2] at h1; injection h1 with h1; injection h1 with _ h1; exact absurd h1 (by decide)
 have l4 := S.l4
 have lf := S.lf
 have lg := S.lg
 refine ⟨⟨⟨S.v.b.objs.same (hk _ S.l5.2 n5f n54), hf, fun h0 => ?_, S.v.b.pl, S.v.b.top, S.v.b.len⟩, S.v.cl.same (hk _ S.l13.2 n13f n134)⟩, hb, S.res.same (hk _ S.l8.2 n8f (Ne.symm S.n48)), hw, hr, ⟨hos.trans S.fr.os, ht.trans S.fr.tape, ho.trans S.fr.output, Nat.le_trans S.fr.size hsz, fun k hkB => (hk k (by have := S.lB; omega) (by have := S.lB; omega) (by have := S.lB; omega)).trans (S.fr.block k hkB)⟩,
  S.flds.keep (fun k h1 h2 => hk k (by omega) (by omega) (by omega)), S.l4, S.l5, S.lf, S.l13, S.l8, S.lg, S.lB, S.eg, S.n48, Nat.le_trans S.top hsz, fun k h1 h2 => (hk k (by omega) (by omega) (by omega)).trans (S.kept k h1 h2)⟩
 obtain ⟨g', h1, h2⟩ := S.v.b.row h0
 have e := S.eg h0
 rw [h1] at e
 injection e with e
 injection e with e
 subst e
 exact ⟨g', h1, h2.same (hk g' (by omega) (by omega) (by omega))⟩
theorem LaySt.below (S : LaySt Bg w0 wr b4 b5 bf b13 b8 g A c us last fine Bw vw ws vr rs) (h : Below wr.heap.size wr w') : LaySt Bg w0 w' b4 b5 bf b13 b8 g A c us last fine Bw vw ws vr rs :=
 S.re h.os h.tape h.output h.size (fun k hk _ _ => h.block k (Nat.lt_of_lt_of_le hk S.top)) (S.v.b.fn.below h S.v.b.fn.lt) (S.box.below h S.box.lt) (own_sameI S.wo (fun k hk => h.block k (S.wo.lt k hk).2)) (own_sameI S.ro (fun k hk => h.block k (S.ro.lt k hk).2))
theorem LaySt.fineS (S : LaySt Bg w0 wr b4 b5 bf b13 b8 g A c us last fine Bw vw ws vr rs) (hf : Blk w' bf 4 #[.bool fine']) (F : Fr1 bf wr w') : LaySt Bg w0 w' b4 b5 bf b13 b8 g A c us last fine' Bw vw ws vr rs := by
 have nf4 : b4 ≠ bf := fun e => by have h1 := S.box; have h2 := S.v.b.fn; unfold Blk at h1 h2; rw [e, h2] at h1; injection h1 with h1; injection h1 with _ h1; exact absurd h1 (by decide)
 exact S.re F.os F.tape F.output F.size (fun k hk h1 _ => F.same k (Nat.lt_of_lt_of_le hk S.top) h1) hf (S.box.fr1 F nf4) (own_sameI S.wo (fun k hk => F.same k (S.wo.lt k hk).2 (by have := (S.wo.lt k hk).1; have := S.lf; omega))) (own_sameI S.ro (fun k hk => F.same k (S.ro.lt k hk).2 (by have := (S.ro.lt k hk).1; have := S.lf; omega)))
theorem own_typ2 {w : World} {base : Nat} {e e' : TypeId} {v v2 : Value} {n n2 k : Nat} {xs ys : List Value} (h : w.ownsRow base e 1 v n xs) (h2 : w.ownsRow base e' 1 v2 n2 ys) (hne : e ≠ e') (hk : v.ownBlock = some k) : v2.ownBlock ≠ some k := by
 intro hk2
 rcases h.2 with ⟨h1, _⟩ | ⟨g1, cap, cur, rfl, _, h3, _⟩
 ·rw [h1] at hk; cases hk
 ·rcases h2.2 with ⟨h1, _⟩ | ⟨g2, cap2, cur2, rfl, _, h4, _⟩
  ·rw [h1] at hk2; cases hk2
  ·injection hk with hk
   injection hk2 with hk2
   simp only at hk hk2
   rw [hk] at h3
   rw [hk2, h3] at h4
   injection h4 with h4
   injection h4 with _ h4
   exact hne h4
theorem LaySt.appW {ys : List Nat} {m : Nat} (S : LaySt Bg w0 wr b4 b5 bf b13 b8 g A c us last fine Bw vw ws vr rs) (hm : ys.length = m) (ho : w'.ownsRow Bw 32 1 v' (ws.length + m) (u32s ws ++ u32s ys)) (hg : wr.grownBy w' vw.ownBlock) :
 LaySt Bg w0 (w'.setCell ⟨b4, 3, none⟩ v') b4 b5 bf b13 b8 g A c us last fine Bw v' (ws ++ ys) vr rs := by
 have hs : ∀ k, k < wr.heap.size → vw.ownBlock ≠ some k → w'.heap[k]? = wr.heap[k]? := fun k h1 h2 => hg.block k h1 (fun e => h2 (by first | exact e | exact e.symm))
 have hB : ∀ k, k < Bw → w'.heap[k]? = wr.heap[k]? := fun k h1 => hs k (Nat.lt_of_lt_of_le h1 S.top) (fun e => by have := (S.wo.lt k e).1; omega)
 have hfar : ∀ k, k ≠ b4 → (w'.setCell ⟨b4, 3, none⟩ v').heap[k]? = w'.heap[k]? := fun k h => Below.heap_setCell w' ⟨b4, 3, none⟩ v' k h
 have hsz : (w'.setCell ⟨b4, 3, none⟩ v').heap.size = w'.heap.size := by simp [World.setCell]
 have nf4 : bf ≠ b4 := fun e => by have h1 := S.box; have h2 := S.v.b.fn; unfold Blk at h1 h2; rw [e, h1] at h2; injection h2 with h2; injection h2 with _ h2; exact absurd h2 (by decide)
 have l4 := S.l4
 refine S.re hg.os hg.tape hg.output (by rw [hsz]; exact hg.size) (fun k h1 _ h3 => (hfar k h3).trans (hB k h1)) ((S.v.b.fn.same (hB _ S.lf.2)).same (hfar _ nf4)) ?_ ?_ ?_
 ·exact (S.box.same (hB _ l4.2)).set_ 3 v'
 ·have h1 := own_sameI (w' := w'.setCell ⟨b4, 3, none⟩ v') ho (fun k e => hfar k (by have := (ho.lt k e).1; omega))
  rw [List.length_append, hm, show u32s (ws ++ ys) = u32s ws ++ u32s ys by simp [u32s]]
  exact h1
 ·exact own_sameI S.ro (fun k e => (hfar k (by have := (S.ro.lt k e).1; omega)).trans (hs k (S.ro.lt k e).2 (own_typ2 S.ro S.wo (by decide) e)))
theorem LaySt.appR {ys : List Nat} {m : Nat} (S : LaySt Bg w0 wr b4 b5 bf b13 b8 g A c us last fine Bw vw ws vr rs) (hm : ys.length = m) (ho : w'.ownsRow Bw 54 1 v' (rs.length + m) (u32s rs ++ u32s ys)) (hg : wr.grownBy w' vr.ownBlock) :
 LaySt Bg w0 (w'.setCell ⟨b4, 4, none⟩ v') b4 b5 bf b13 b8 g A c us last fine Bw vw ws v' (rs ++ ys) := by
 have hs : ∀ k, k < wr.heap.size → vr.ownBlock ≠ some k → w'.heap[k]? = wr.heap[k]? := fun k h1 h2 => hg.block k h1 (fun e => h2 (by first | exact e | exact e.symm))
 have hB : ∀ k, k < Bw → w'.heap[k]? = wr.heap[k]? := fun k h1 => hs k (Nat.lt_of_lt_of_le h1 S.top) (fun e => by have := (S.ro.lt k e).1; omega)
 have hfar : ∀ k, k ≠ b4 → (w'.setCell ⟨b4, 4, none⟩ v').heap[k]? = w'.heap[k]? := fun k h => Below.heap_setCell w' ⟨b4, 4, none⟩ v' k h
 have hsz : (w'.setCell ⟨b4, 4, none⟩ v').heap.size = w'.heap.size := by simp [World.setCell]
 have nf4 : bf ≠ b4 := fun e => by have h1 := S.box; have h2 := S.v.b.fn; unfold Blk at h1 h2; rw [e, h1] at h2; injection h2 with h2; injection h2 with _ h2; exact absurd h2 (by decide)
 have l4 := S.l4
 refine S.re hg.os hg.tape hg.output (by rw [hsz]; exact hg.size) (fun k h1 _ h3 => (hfar k h3).trans (hB k h1)) ((S.v.b.fn.same (hB _ S.lf.2)).same (hfar _ nf4)) ?_ ?_ ?_
 ·exact (S.box.same (hB _ l4.2)).set_ 4 v'
 ·exact own_sameI S.wo (fun k e => (hfar k (by have := (S.wo.lt k e).1; omega)).trans (hs k (S.wo.lt k e).2 (own_typ2 S.wo S.ro (by decide) e)))
 ·have h1 := own_sameI (w' := w'.setCell ⟨b4, 4, none⟩ v') ho (fun k e => hfar k (by have := (ho.lt k e).1; omega))
  rw [List.length_append, hm, show u32s (rs ++ ys) = u32s rs ++ u32s ys by simp [u32s]]
  exact h1
variable {b16 : Nat} {cs : Array Value}
theorem LaySt.oFine (S : LaySt Bg w0 wr b4 b5 bf b13 b8 g A c us last fine Bw vw ws vr rs) (b : Blk wr b16 303 cs) (F : Fr1 bf wr w') : Blk w' b16 303 cs :=
 b.fr1 F (fun e => by have h2 := S.v.b.fn; unfold Blk at b h2; rw [e, h2] at b; injection b with b; injection b with _ b; exact absurd b (by decide))
theorem LaySt.oAppW (S : LaySt Bg w0 wr b4 b5 bf b13 b8 g A c us last fine Bw vw ws vr rs) (b : Blk wr b16 303 cs) (hg : wr.grownBy w' vw.ownBlock) : Blk (w'.setCell ⟨b4, 3, none⟩ v') b16 303 cs := by
 have h1 : b16 ≠ b4 := fun e => by have h2 := S.box; unfold Blk at b h2; rw [e, h2] at b; injection b with b; injection b with _ b; exact absurd b (by decide)
 have h2 : Blk w' b16 303 cs := b.same (hg.block b16 b.lt (fun e => own_blkI S.wo b (by decide) (by first | exact e | exact e.symm)))
 exact h2.same (Below.heap_setCell w' ⟨b4, 3, none⟩ v' b16 h1)
theorem LaySt.room (S : LaySt Bg w0 wr b4 b5 bf b13 b8 g A c us last fine Bw vw ws vr rs) (hg : wr.grownBy w' vw.ownBlock) : Blk w' b4 130 #[.int .i64 2, .int .i64 0, .int .u32 last, vw, vr] :=
 S.box.same (hg.block b4 S.box.lt (fun e => own_blkI S.wo S.box (by decide) (by first | exact e | exact e.symm)))
theorem LaySt.roomR (S : LaySt Bg w0 wr b4 b5 bf b13 b8 g A c us last fine Bw vw ws vr rs) (hg : wr.grownBy w' vr.ownBlock) : Blk w' b4 130 #[.int .i64 2, .int .i64 0, .int .u32 last, vw, vr] :=
 S.box.same (hg.block b4 S.box.lt (fun e => own_blkI S.ro S.box (by decide) (by first | exact e | exact e.symm)))
theorem LaySt.oSet (S : LaySt Bg w0 wr b4 b5 bf b13 b8 g A c us last fine Bw vw ws vr rs) (b : Blk wr b16 303 cs) (hB : Bw ≤ b16) (i : Nat) (u : Value) : LaySt Bg w0 (wr.setCell ⟨b16, i, none⟩ u) b4 b5 bf b13 b8 g A c us last fine Bw vw ws vr rs := by
 have hfar : ∀ k, k ≠ b16 → (wr.setCell ⟨b16, i, none⟩ u).heap[k]? = wr.heap[k]? := fun k h => Below.heap_setCell wr ⟨b16, i, none⟩ u k h
 have hsz : (wr.setCell ⟨b16, i, none⟩ u).heap.size = wr.heap.size := by simp [World.setCell]
 have lf := S.lf
 have l4 := S.l4
 exact S.re rfl rfl rfl (by rw [hsz]; exact Nat.le_refl _) (fun k hk _ _ => hfar k (by omega)) (S.v.b.fn.same (hfar _ (by omega))) (S.box.same (hfar _ (by omega)))
  (own_sameI S.wo (fun k hk => hfar k (fun e => own_blkI S.wo b (by decide) (e ▸ hk)))) (own_sameI S.ro (fun k hk => hfar k (fun e => own_blkI S.ro b (by decide) (e ▸ hk))))
theorem reads5 {w : World} {g n : Nat} {A : Option Addr} {xs : List Value} (h : Reads w w.heap.size 1 A n xs) (hne : 0 < n → ∀ a, A = some a → a.block ≠ g) (x0 x1 x2 x3 x4 : Value) :
 Reads (((((w.setCell ⟨g, 0, none⟩ x0).setCell ⟨g, 1, none⟩ x1).setCell ⟨g, 2, none⟩ x2).setCell ⟨g, 3, none⟩ x3).setCell ⟨g, 4, none⟩ x4) (((((w.setCell ⟨g, 0, none⟩ x0).setCell ⟨g, 1, none⟩ x1).setCell ⟨g, 2, none⟩ x2).setCell ⟨g, 3, none⟩ x3).setCell ⟨g, 4, none⟩ x4).heap.size 1 A n xs :=
 reads1 (reads1 (reads1 (reads1 (reads1 h hne) hne) hne) hne) hne
end
end
end Go.Proofs.YtlkahgagmfhdaaaGreatDoor
