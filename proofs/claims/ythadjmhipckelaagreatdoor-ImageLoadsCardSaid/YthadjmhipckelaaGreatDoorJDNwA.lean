import Derived.Test.YthadjmhipckelaaGreatDoorJDSec
import Derived.Test.YthadjmhipckelaaGreatDoorJDWrt
import Derived.Test.YthadjmhipckelaaGreatDoorJIPNew
import Derived.Test.YthadjmhipckelaaGreatDoorJILay
import Derived.Test.YthadjmhipckelaaGreatDoorJIObjS
import Derived.Test.YthadjmhipckelaaGreatDoorJSum
set_option linter.unusedVariables false
set_option linter.unusedSimpArgs false
set_option linter.unusedSectionVars false
namespace Go.Proofs.YthadjmhipckelaaGreatDoor
section
open Go.RowKit
def NewerP (bs : List Nat) (w : World) (e : Ending) (w' : World) : Prop :=
 Below w.heap.size w w' ∧ match newM bs with
  | .error E => e = .returned (.tuple #[.pointer none, .int .i64 (E : Nat)])
  | .ok i => ∃ xg vw vr, e = .returned (.tuple #[.pointer (some ⟨xg, 0, none⟩), .int .i64 0]) ∧ Blk w' xg 63 (RdC (.int .i64 2) (.int .i64 i.ts.length) (.int .i64 (placeT i.ts)) (.int .u32 i.last) vw vr i.wrong) ∧
   w'.ownsRow w.heap.size 32 1 vw i.words.length (u32s i.words) ∧ w'.ownsRow w.heap.size 72 1 vr i.roots.length (u32s i.roots) ∧ w.heap.size ≤ xg
theorem NewerP.err {bs : List Nat} {E : Nat} {w w' : World} (hb : Below w.heap.size w w') (h : newM bs = .error E) : NewerP bs w (.returned (.tuple #[.pointer none, .int .i64 (E : Nat)])) w' :=
 ⟨hb, by rw [h]⟩
theorem rdObj_nil : rdObj [] = none := rfl
theorem objs_count {p1 r : List Nat} {n many : Nat} {ts l : List Th} (h8 : ∀ x ∈ p1, x < 256) (h : rdObjs n p1 = some (ts, [])) (h2 : rdObjs many p1 = some (l, r)) (hr : r = []) : many = n := by
 rcases Nat.lt_trichotomy many n with hl | hl | hl
 ·obtain ⟨l', r', e1, e2⟩ := rdObjs_less many n p1 ts [] h (by omega) h8
  rw [h2] at e1
  injection e1 with e1
  injection e1 with e3 e4
  subst hr
  rw [← e4] at e2
  simp at e2
  omega
 ·exact hl
 ·have e1 := rdObjs_snoc _ _ _ _ h
  rw [rdObj_nil] at e1
  rw [rdObjs_stop many (n + 1) p1 e1 (by omega)] at h2
  cases h2
theorem objs_bad {p1 bs' : List Nat} {n : Nat} {ts : List Th} (h8 : ∀ x ∈ p1, x < 256) (h : rdObjs n p1 = some (ts, bs')) (h0 : bs' ≠ []) (hno : rdObj bs' = none) : ∀ many l r, rdObjs many p1 = some (l, r) → r ≠ [] := by
 intro many l r h2 hr
 rcases Nat.lt_or_ge n many with hl | hl
 ·have e1 := rdObjs_snoc _ _ _ _ h
  rw [hno] at e1
  rw [rdObjs_stop many (n + 1) p1 e1 (by omega)] at h2
  cases h2
 ·obtain ⟨l', r', e1, e2⟩ := rdObjs_less many n p1 ts bs' h hl h8
  rw [h2] at e1
  injection e1 with e1
  injection e1 with e3 e4
  have : 0 < bs'.length := List.length_pos_iff.2 h0
  rw [← e4, hr, List.length_nil] at e2
  omega
theorem partsM_obj {p0 p1 p2 p3 q4 : List Nat} {la many : Nat} (h0 : rdNum p0 = some (la, q4)) (h1 : rdNum q4 = some (many, [])) (h : ∀ l r, rdObjs many p1 = some (l, r) → r ≠ []) : partsM p0 p1 p2 p3 = none := by
 unfold partsM
 rw [h0]
 simp only
 rw [h1]
 simp only
 rw [if_neg (by simp)]
 cases hh : rdObjs many p1 with
 | none => rfl
 | some q =>
   obtain ⟨l, r⟩ := q
   simp only
   rw [if_pos (h l r hh)]
theorem below_fr1 {w0 W W' : World} {rg : Nat} (h : Below w0.heap.size w0 W) (F : Fr1 rg W W') (hr : w0.heap.size ≤ rg) : Below w0.heap.size w0 W' :=
 ⟨F.os.trans h.os, F.tape.trans h.tape, F.output.trans h.output, Nat.le_trans h.size F.size, fun k hk => (F.same k (Nat.lt_of_lt_of_le hk h.size) (by omega)).trans (h.block k hk)⟩
structure NwS (w0 W : World) (gp cp : Nat) (vs : List Value) (ps : List (List Nat)) (xg : Nat) (cs : Array Value) : Prop where
 row : Row W gp 22 cp vs
 pay : PayV W w0.heap.size vs ps
 box : Blk W xg 63 cs
 fr : Below w0.heap.size w0 W
 hp : w0.heap.size ≤ gp
 hx : w0.heap.size ≤ xg
section
variable {w0 W W' : World} {gp cp xg rg B : Nat} {vs : List Value} {ps : List (List Nat)} {cs : Array Value}
theorem NwS.read (S : NwS w0 W gp cp vs ps xg cs) (F : Fr1 rg W W') (h2 : xg ≠ rg) (h3 : gp ≠ rg) (h4 : w0.heap.size ≤ rg) : NwS w0 W' gp cp vs ps xg cs :=
 ⟨S.row.same (F.same _ S.row.lt h3), S.pay.below (F.below h4 (by have := S.fr.size; omega)), S.box.fr1 F h2, ⟨F.os.trans S.fr.os, F.tape.trans S.fr.tape, F.output.trans S.fr.output, Nat.le_trans S.fr.size F.size, fun k hk => (F.same k (Nat.lt_of_lt_of_le hk S.fr.size) (by omega)).trans (S.fr.block k hk)⟩, S.hp, S.hx⟩
theorem NwS.below (S : NwS w0 W gp cp vs ps xg cs) (h : Below W.heap.size W W') : NwS w0 W' gp cp vs ps xg cs :=
 ⟨S.row.below h, S.pay.below (h.mono S.fr.size), S.box.below h S.box.lt, below_top S.fr h, S.hp, S.hx⟩
theorem NwS.low (S : NwS w0 W gp cp vs ps xg cs) (h1 : W'.os = W.os) (h2 : W'.tape = W.tape) (h3 : W'.output = W.output) (h4 : W.heap.size ≤ W'.heap.size) (hk : ∀ q, q < B → W'.heap[q]? = W.heap[q]?)
 (kp : gp < B) (kx : xg < B) (kL : w0.heap.size ≤ B) : NwS w0 W' gp cp vs ps xg cs :=
 ⟨S.row.same (hk _ kp), ⟨S.pay.1, fun i p hp => by
   obtain ⟨A, c, a1, a2, a3, a4⟩ := S.pay.2 i p hp
   exact ⟨A, c, a1, a2, a3.keep (fun q hq => World.cell?_of_block (hk q.block (by omega))), a4⟩⟩, S.box.same (hk _ kx), ⟨h1.trans S.fr.os, h2.trans S.fr.tape, h3.trans S.fr.output, Nat.le_trans S.fr.size h4, fun q hq => (hk q (by omega)).trans (S.fr.block q hq)⟩, S.hp, S.hx⟩
end
theorem RdD.low {w w' : World} {L rg c B : Nat} {A : Option Addr} {bs : List Nat} {bad : Bool} (R : RdD w L rg A c bs bad) (hk : ∀ q, q < B → w'.heap[q]? = w.heap[q]?) (h : rg < B) : RdD w' L rg A c bs bad :=
 ⟨R.box.same (hk _ h), R.cap, R.rd.keep (fun q hq => World.cell?_of_block (hk q.block (by have := R.far; omega))), R.far, R.b8⟩
theorem wrD0 {sz : Nat} (h : sz ≤ 65535) : wrap64 (sz : Int) = (sz : Int) := IntWalk.wrap64_in _ (by omega)
theorem wrD1 {sz : Nat} (h : sz ≤ 65535) : wrap64 (3 + (sz : Int)) = 3 + (sz : Int) := IntWalk.wrap64_in _ (by omega)
theorem wrD2 {a k sz : Nat} (h : sz ≤ 65535) (ha : a ≤ 1 + k * 65538) (hk : k ≤ 9000001) : wrap64 ((a : Int) + (3 + (sz : Int))) = (a : Int) + (3 + (sz : Int)) := IntWalk.wrap64_in _ (by omega)
theorem wrD3 {a k sz : Nat} (h : sz ≤ 65535) (ha : a ≤ 1 + k * 65538) (hk : k + 1 ≤ 9000001) : k + 1 ≤ 9000001 ∧ a + (3 + sz) ≤ 1 + (k + 1) * 65538 := ⟨hk, by omega⟩
theorem wrD4 {a k sz : Nat} (ha : a ≤ 1 + k * 65538) (hk : k ≤ 9000001) : 600000000000 - (a + (3 + sz)) < 600000000000 - a := by omega
theorem own_sliceS {w : World} {base s n : Nat} {e : TypeId} {v : Value} {xs : List Value} (h : w.ownsRow base e s v n xs) : ∃ A c, v = .slice A n c := by
 rcases h.2 with ⟨rfl, h1⟩ | ⟨g, cap, cur, rfl, _⟩
 ·exact ⟨none, 0, by rw [h1]⟩
 ·exact ⟨_, _, rfl⟩
def thC (x : Hd) (vf : Value) (at_ : Nat) : List Value := [.int .i64 x.size, .int .i64 x.fmt, .int .i64 x.spare, .int .u32 0, .int .u32 x.ser, .int .u32 x.cls, vf, .int .i64 at_]
theorem thC_one (x : Hd) (A : Option Addr) (n c at_ : Nat) : ∀ u ∈ thC x (.slice A n c) at_, u.oneCell' = true := by
 intro u hu
 simp [thC] at hu
 rcases hu with rfl | rfl | rfl | rfl | rfl | rfl | rfl | rfl <;> rfl
theorem good_snoc {us : List Wr} {k at_ : Nat} {p1 bs' bs8 : List Nat} {t : Th} {x8 : Hd} {Af A : Option Addr} {nf cf c : Nat} (heq : wrV x8 (.slice Af nf cf) 0 = wrV t.x (.slice A t.fs.length c) 0) (hK : rdObjs k p1 = some (us.map Wr.th, bs')) (h1 : rdObj bs' = some (t, bs8))
 (hat : at_ = placeT (us.map Wr.th)) (hpi : ∀ i, i < us.length → (us.getD i default).pl = placeT ((us.map Wr.th).take i)) :
 wrL us ++ thC x8 (.slice Af nf cf) at_ = wrL (us ++ [(⟨t.x, A, c, t.fs, at_⟩ : Wr)]) ∧ rdObjs (k + 1) p1 = some ((us ++ [(⟨t.x, A, c, t.fs, at_⟩ : Wr)]).map Wr.th, bs8) ∧ at_ + (3 + x8.size) = placeT ((us ++ [(⟨t.x, A, c, t.fs, at_⟩ : Wr)]).map Wr.th) ∧
 ∀ i, i < (us ++ [(⟨t.x, A, c, t.fs, at_⟩ : Wr)]).length → ((us ++ [(⟨t.x, A, c, t.fs, at_⟩ : Wr)]).getD i default).pl = placeT (((us ++ [(⟨t.x, A, c, t.fs, at_⟩ : Wr)]).map Wr.th).take i) := by
 have hc : wrC x8 (.slice Af nf cf) 0 = wrC t.x (.slice A t.fs.length c) 0 := by unfold wrV at heq; injection heq
 have hcl := congrArg (fun C : Array Value => C.toList.set 7 (.int .i64 (at_ : Nat))) hc
 have hz : x8.size = t.x.size := by
  have h0 := congrArg (fun C : Array Value => C[0]?) hc
  simp only [wrC] at h0
  injection h0 with h0
  injection h0 with _ h0
  exact Int.ofNat.inj h0
 have hm : (us ++ [(⟨t.x, A, c, t.fs, at_⟩ : Wr)]).map Wr.th = us.map Wr.th ++ [t] := by rw [List.map_append]; rfl
 refine ⟨?_, ?_, ?_, ?_⟩
 ·rw [wrL_snoc]
  congr 1
 ·have h2 := rdObjs_snoc _ _ _ _ hK
  rw [h1] at h2
  rw [h2, hm]
 ·rw [hm, placeT_snoc, ← hat, hz]
 ·intro i hi
  rw [hm]
  rw [List.length_append, List.length_singleton] at hi
  have hul : (us.map Wr.th).length = us.length := List.length_map ..
  rcases Nat.lt_or_ge i us.length with h | h
  ·rw [List.getD_eq_getElem?_getD, List.getElem?_append_left h, ← List.getD_eq_getElem?_getD, hpi i h, List.take_append_of_le_length (by omega)]
  ·obtain rfl : i = us.length := by omega
   rw [List.getD_eq_getElem?_getD, List.getElem?_append_right (Nat.le_refl _), Nat.sub_self, ← hul, List.take_append_of_le_length (Nat.le_refl _), List.take_length, ← hat]
   rfl
theorem reads_th (w : World) (cs : List Value) (h : cs.length = 8) : Reads (w.alloc (.cells cs.toArray 105)) (w.heap.size + 1) 8 (some ⟨w.heap.size, 0, none⟩) 1 cs := by
 refine ⟨by rw [h], fun _ => ⟨_, rfl, by simp, fun j v hv => ?_⟩⟩
 rw [WideShapes.add_plain, Nat.zero_add]
 refine ((Blk.new w _ _).cell j).trans ?_
 rw [← hv]
 simp
end
section
open Go.RowKit
structure NwW (W0 W : World) (xg : Nat) (b c d vw vr : Value) (ws rs : List Nat) (wrong : Bool) : Prop where
 fr : Fr1 xg W0 W
 box : Blk W xg 63 (RdC (.int .i64 2) b c d vw vr wrong)
 hx : xg < W0.heap.size
 wo : W.ownsRow W0.heap.size 32 1 vw ws.length (u32s ws)
 ro : W.ownsRow W0.heap.size 72 1 vr rs.length (u32s rs)
section
variable {W0 W W' : World} {xg g m : Nat} {b c d vw vr v' : Value} {ws rs ys : List Nat} {wrong wrong' : Bool} {t : TypeId} {cs : Array Value}
theorem NwW.below (S : NwW W0 W xg b c d vw vr ws rs wrong) (h : Below W.heap.size W W') : NwW W0 W' xg b c d vw vr ws rs wrong :=
 ⟨S.fr.trans (Fr1.of_below h), S.box.below h S.box.lt, S.hx, own_sameI S.wo (fun k hk => h.block k (S.wo.lt k hk).2), own_sameI S.ro (fun k hk => h.block k (S.ro.lt k hk).2)⟩
theorem NwW.wrg (S : NwW W0 W xg b c d vw vr ws rs wrong) (hb : Blk W' xg 63 (RdC (.int .i64 2) b c d vw vr wrong')) (F : Fr1 xg W W') : NwW W0 W' xg b c d vw vr ws rs wrong' :=
 ⟨S.fr.trans F, hb, S.hx, own_sameI S.wo (fun k hk => F.same k (S.wo.lt k hk).2 (by have := (S.wo.lt k hk).1; have := S.hx; omega)), own_sameI S.ro (fun k hk => F.same k (S.ro.lt k hk).2 (by have := (S.ro.lt k hk).1; have := S.hx; omega))⟩
theorem NwW.setx (S : NwW W0 W xg b c d vw vr ws rs wrong) (u : Value) : NwW W0 (W.setCell ⟨xg, 6, none⟩ (.bool wrong')) xg b c d vw vr ws rs wrong' :=
 S.wrg (S.box.set_ 6 _) (Fr1.set _ _ _ _)
theorem NwW.appW (S : NwW W0 W xg b c d vw vr ws rs wrong) (hm : ys.length = m) (ho : W'.ownsRow W0.heap.size 32 1 v' (ws.length + m) (u32s ws ++ u32s ys)) (hg : W.grownBy W' vw.ownBlock) :
 NwW W0 (W'.setCell ⟨xg, 4, none⟩ v') xg b c d v' vr (ws ++ ys) rs wrong := by
 have hs : ∀ k, k < W.heap.size → vw.ownBlock ≠ some k → W'.heap[k]? = W.heap[k]? := fun k h1 h2 => hg.block k h1 (fun e => h2 (by first | exact e | exact e.symm))
 have hfar : ∀ k, k ≠ xg → (W'.setCell ⟨xg, 4, none⟩ v').heap[k]? = W'.heap[k]? := fun k h => Below.heap_setCell W' ⟨xg, 4, none⟩ v' k h
 have hsz : (W'.setCell ⟨xg, 4, none⟩ v').heap.size = W'.heap.size := by simp [World.setCell]
 have hx := S.hx
 have hf := S.fr.size
 have hbx : Blk W' xg 63 (RdC (.int .i64 2) b c d vw vr wrong) := S.box.same (hs xg S.box.lt (own_blkI S.wo S.box (by decide)))
 refine ⟨⟨hg.os.trans S.fr.os, hg.tape.trans S.fr.tape, hg.output.trans S.fr.output, by rw [hsz]; exact Nat.le_trans S.fr.size hg.size, fun k h1 h2 => (hfar k h2).trans ((hs k (by omega) (fun e => by have := (S.wo.lt k e).1; omega)).trans (S.fr.same k h1 h2))⟩, hbx.set_ 4 v', S.hx, ?_, ?_⟩
 ·have h1 := own_sameI (w' := W'.setCell ⟨xg, 4, none⟩ v') ho (fun k e => hfar k (by have := (ho.lt k e).1; omega))
  rw [List.length_append, hm, show u32s (ws ++ ys) = u32s ws ++ u32s ys by simp [u32s]]
  exact h1
 ·exact own_sameI S.ro (fun k e => (hfar k (by have := (S.ro.lt k e).1; omega)).trans (hs k (S.ro.lt k e).2 (own_typ2 S.ro S.wo (by decide) e)))
theorem NwW.appR (S : NwW W0 W xg b c d vw vr ws rs wrong) (hm : ys.length = m) (ho : W'.ownsRow W0.heap.size 72 1 v' (rs.length + m) (u32s rs ++ u32s ys)) (hg : W.grownBy W' vr.ownBlock) :
 NwW W0 (W'.setCell ⟨xg, 5, none⟩ v') xg b c d vw v' ws (rs ++ ys) wrong := by
 have hs : ∀ k, k < W.heap.size → vr.ownBlock ≠ some k → W'.heap[k]? = W.heap[k]? := fun k h1 h2 => hg.block k h1 (fun e => h2 (by first | exact e | exact e.symm))
 have hfar : ∀ k, k ≠ xg → (W'.setCell ⟨xg, 5, none⟩ v').heap[k]? = W'.heap[k]? := fun k h => Below.heap_setCell W' ⟨xg, 5, none⟩ v' k h
 have hsz : (W'.setCell ⟨xg, 5, none⟩ v').heap.size = W'.heap.size := by simp [World.setCell]
 have hx := S.hx
 have hf := S.fr.size
 have hbx : Blk W' xg 63 (RdC (.int .i64 2) b c d vw vr wrong) := S.box.same (hs xg S.box.lt (own_blkI S.ro S.box (by decide)))
 refine ⟨⟨hg.os.trans S.fr.os, hg.tape.trans S.fr.tape, hg.output.trans S.fr.output, by rw [hsz]; exact Nat.le_trans S.fr.size hg.size, fun k h1 h2 => (hfar k h2).trans ((hs k (by omega) (fun e => by have := (S.ro.lt k e).1; omega)).trans (S.fr.same k h1 h2))⟩, hbx.set_ 5 v', S.hx, ?_, ?_⟩
 ·exact own_sameI S.wo (fun k e => (hfar k (by have := (S.wo.lt k e).1; omega)).trans (hs k (S.wo.lt k e).2 (own_typ2 S.wo S.ro (by decide) e)))
 ·have h1 := own_sameI (w' := W'.setCell ⟨xg, 5, none⟩ v') ho (fun k e => hfar k (by have := (ho.lt k e).1; omega))
  rw [List.length_append, hm, show u32s (rs ++ ys) = u32s rs ++ u32s ys by simp [u32s]]
  exact h1
theorem NwW.sideW (S : NwW W0 W xg b c d vw vr ws rs wrong) (k : Blk W g t cs) (h1 : t ≠ 63) (h2 : 32 ≠ t) (hg : W.grownBy W' vw.ownBlock) : Blk (W'.setCell ⟨xg, 4, none⟩ v') g t cs := by
 have hne : g ≠ xg := fun e => by have h := S.box; unfold Blk at k h; rw [e, h] at k; injection k with k; injection k with _ k; exact h1 k.symm
 have hb : Blk W' g t cs := k.same (hg.block g k.lt (fun e => own_blkI S.wo k h2 (by first | exact e | exact e.symm)))
 exact hb.same (Below.heap_setCell W' ⟨xg, 4, none⟩ v' g hne)
theorem NwW.room (S : NwW W0 W xg b c d vw vr ws rs wrong) (hg : W.grownBy W' vw.ownBlock) : Blk W' xg 63 (RdC (.int .i64 2) b c d vw vr wrong) :=
 S.box.same (hg.block xg S.box.lt (fun e => own_blkI S.wo S.box (by decide) (by first | exact e | exact e.symm)))
theorem NwW.roomR (S : NwW W0 W xg b c d vw vr ws rs wrong) (hg : W.grownBy W' vr.ownBlock) : Blk W' xg 63 (RdC (.int .i64 2) b c d vw vr wrong) :=
 S.box.same (hg.block xg S.box.lt (fun e => own_blkI S.ro S.box (by decide) (by first | exact e | exact e.symm)))
theorem NwW.setT (S : NwW W0 W xg b c d vw vr ws rs wrong) (k : Blk W g 105 cs) (hB : W0.heap.size ≤ g) (i : Nat) (u : Value) : NwW W0 (W.setCell ⟨g, i, none⟩ u) xg b c d vw vr ws rs wrong := by
 have hfar : ∀ q, q ≠ g → (W.setCell ⟨g, i, none⟩ u).heap[q]? = W.heap[q]? := fun q h => Below.heap_setCell W ⟨g, i, none⟩ u q h
 have hx := S.hx
 refine ⟨⟨S.fr.os, S.fr.tape, S.fr.output, by have := S.fr.size; simp [World.setCell]; exact this, fun q h1 h2 => (hfar q (by omega)).trans (S.fr.same q h1 h2)⟩, S.box.same (hfar _ (by omega)), S.hx, own_sameI S.wo (fun q e => hfar q (fun h => own_blkI S.wo k (by decide) (h ▸ e))), own_sameI S.ro (fun q e => hfar q (fun h => own_blkI S.ro k (by decide) (h ▸ e)))⟩
theorem NwW.all (S : NwW W0 W xg b c d vw vr ws rs wrong) {A : Option Addr} {us : List Wr} (D : AllD W0 A us) (h : ∀ g, A = some ⟨g, 0, none⟩ → 0 < us.length → g < W0.heap.size ∧ g ≠ xg) : AllD W A us :=
 D.same fun g h1 h2 => S.fr.same g (h g h1 h2).1 (h g h1 h2).2
theorem NwW.reads (S : NwW W0 W xg b c d vw vr ws rs wrong) {A : Option Addr} {n : Nat} {xs : List Value} (hr : Reads W0 W0.heap.size 1 A n xs) (h : 0 < n → ∀ a, A = some a → a.block ≠ xg) : Reads W W.heap.size 1 A n xs := by
 refine ⟨hr.1, fun hn => ?_⟩
 obtain ⟨a, ha, hb, hc⟩ := hr.2 hn
 exact ⟨a, ha, Nat.lt_of_lt_of_le hb S.fr.size, fun j u hu => (World.cell?_of_block (a := a.add j) (by rw [block_of_add]; exact S.fr.same a.block hb (h hn a ha))).trans (hc j u hu)⟩
end
theorem wrD5 {c : Nat} (h : c < 4294967296) : wrap64 (c : Int) = (c : Int) := IntWalk.wrap64_in _ (by omega)
def wdsT (us : List Wr) (j : Nat) : List Nat := 0 :: wsOf (((us.map Wr.th).take j).map (obOf (us.map Wr.th)))
def wrgT (us : List Wr) (j : Nat) : Bool := ((us.map Wr.th).take j).any (wrongT (us.map Wr.th))
theorem ths_take {us : List Wr} {j : Nat} (hj : j < us.length) : (us.map Wr.th).take (j + 1) = (us.map Wr.th).take j ++ [(us.getD j default).th] := by
 rw [List.take_add_one, List.getElem?_map, List.getElem?_eq_getElem hj, List.getD_eq_getElem?_getD, List.getElem?_eq_getElem hj]
 rfl
theorem wdsT_succ {us : List Wr} {j : Nat} (hj : j < us.length) {x : Hd} {A : Option Addr} {c pl : Nat} {fs : List Nat} (hu : us.getD j default = ⟨x, A, c, fs, pl⟩) :
 wdsT us (j + 1) = wdsT us j ++ [({ x with cls := namedT (us.map Wr.th) x.cls } : Hd).w0, namedT (us.map Wr.th) x.cls, x.ser] ++ (if x.ptrT then fs.map (valT (us.map Wr.th)) else fs) := by
 unfold wdsT
 rw [ths_take hj, hu, List.map_append, wsOf_app]
 simp only [List.map_cons, List.map_nil, wsOf_cons, wsOf_nil, List.append_nil, List.cons_append, List.append_assoc, List.nil_append]
 rfl
theorem wrgT_succ {us : List Wr} {j : Nat} (hj : j < us.length) {x : Hd} {A : Option Addr} {c pl : Nat} {fs : List Nat} (hu : us.getD j default = ⟨x, A, c, fs, pl⟩) :
 wrgT us (j + 1) = ((wrgT us j || wrongN (us.map Wr.th) x.cls) || (x.ptrT && fs.any (wrongV (us.map Wr.th)))) := by
 unfold wrgT
 rw [ths_take hj, hu, List.any_append]
 simp only [List.any_cons, List.any_nil, Bool.or_false]
 rw [show wrongT (us.map Wr.th) (Wr.th ⟨x, A, c, fs, pl⟩) = (wrongN (us.map Wr.th) x.cls || (x.ptrT && fs.any (wrongV (us.map Wr.th)))) from rfl, Bool.or_assoc]
theorem wdsT_len {us : List Wr} (hok : ∀ t ∈ us.map Wr.th, t.Ok) (htop : placeT (us.map Wr.th) ≤ 1000000000000) (j : Nat) : (wdsT us j).length ≤ 1000000000000 := by
 unfold wdsT
 rw [words_place (us.map Wr.th) ((us.map Wr.th).take j) (fun t ht => hok t (List.mem_of_mem_take ht))]
 exact Nat.le_trans (placeT_le _ _) htop
theorem any_snoc {α : Type} (f : α → Bool) (l : List α) (x : α) : (l ++ [x]).any f = (l.any f || f x) := by rw [List.any_append]; simp
theorem take_one {α : Type} [Inhabited α] {l : List α} {i : Nat} (h : i < l.length) : l.take (i + 1) = l.take i ++ [l.getD i default] := by
 rw [List.take_add_one, List.getElem?_eq_getElem h, List.getD_eq_getElem?_getD, List.getElem?_eq_getElem h]
 rfl
theorem NewerP.of {bs : List Nat} {w w' : World} {i : Img} {xg : Nat} {vw vr : Value} (hb : Below w.heap.size w w') (h : newM bs = .ok i) (hbx : Blk w' xg 63 (RdC (.int .i64 2) (.int .i64 i.ts.length) (.int .i64 (placeT i.ts)) (.int .u32 i.last) vw vr i.wrong))
 (h1 : w'.ownsRow w.heap.size 32 1 vw i.words.length (u32s i.words)) (h2 : w'.ownsRow w.heap.size 72 1 vr i.roots.length (u32s i.roots)) (h3 : w.heap.size ≤ xg) : NewerP bs w (.returned (.tuple #[.pointer (some ⟨xg, 0, none⟩), .int .i64 0])) w' :=
 ⟨hb, by rw [h]; exact ⟨xg, vw, vr, rfl, hbx, h1, h2, h3⟩⟩
end
section
open Go.RowKit
def OlderP (bs : List Nat) (w : World) (e : Ending) (w' : World) : Prop :=
 Below w.heap.size w w' ∧ match oldM bs with
  | .error E => e = .returned (.tuple #[.pointer none, .int .i64 (E : Nat)])
  | .ok r => ∃ xg vw vr, e = .returned (.tuple #[.pointer (some ⟨xg, 0, none⟩), .int .i64 0]) ∧ Blk w' xg 63 (RdC (.int .i64 1) (.int .i64 0) (.int .i64 r.words.length) (.int .u32 r.last) vw vr false) ∧
   w'.ownsRow w.heap.size 32 1 vw r.words.length (u32s r.words) ∧ w'.ownsRow w.heap.size 72 1 vr r.roots.length (u32s r.roots) ∧ w.heap.size ≤ xg
theorem OlderP.err {bs : List Nat} {E : Nat} {w w' : World} (hb : Below w.heap.size w w') (h : oldM bs = .error E) : OlderP bs w (.returned (.tuple #[.pointer none, .int .i64 (E : Nat)])) w' :=
 ⟨hb, by rw [h]⟩
theorem rdW_drop {b : List Nat} {i : Nat} (h : i + 4 ≤ b.length) : rdW (b.drop i) = some (word4 b i, b.drop (i + 4)) := by
 have g : ∀ j, (hj : j < b.length) → b.drop j = b.getD j 0 :: b.drop (j + 1) := fun j hj => by
  rw [List.drop_eq_getElem_cons hj, List.getD_eq_getElem?_getD, List.getElem?_eq_getElem hj]
  rfl
 rw [g i (by omega), g (i + 1) (by omega), g (i + 1 + 1) (by omega), g (i + 1 + 1 + 1) (by omega)]
 unfold rdW word4
 simp only [Option.some.injEq, Prod.mk.injEq]
 exact ⟨by rw [show i + 1 + 1 = i + 2 from rfl, show i + 2 + 1 = i + 3 from rfl]; omega, trivial⟩
theorem rdW_short {b : List Nat} {i : Nat} (h : b.length < i + 4) : rdW (b.drop i) = none := by
 have hl : (b.drop i).length < 4 := by rw [List.length_drop]; omega
 match hq : b.drop i with
 | [] => rfl
 | [_] => rfl
 | [_, _] => rfl
 | [_, _, _] => rfl
 | _ :: _ :: _ :: _ :: t => rw [hq] at hl; simp at hl; omega
theorem word_there {b bs' : List Nat} {i v : Nat} {bad' : Bool} (h : i + 4 ≤ b.length) (D : Rdd false (rdW (b.drop i)) v bs' bad') : bad' = false ∧ v = word4 b i ∧ bs' = b.drop (i + 4) := by
 have h1 := D.2 rfl ⟨_, rdW_drop h⟩
 obtain ⟨_, h2⟩ := D.1 h1
 rw [rdW_drop h] at h2
 injection h2 with h2
 injection h2 with h2 h3
 exact ⟨h1, h2.symm, h3.symm⟩
theorem older_head {b bs1 bs2 : List Nat} {v1 v2 : Nat} {d1 d2 : Bool} (h5 : 5 ≤ b.length) (D1 : Rdd false (rdW (b.drop 5)) v1 bs1 d1) (D2 : Rdd d1 (rdW bs1) v2 bs2 d2) :
 (d2 = false → 13 ≤ b.length ∧ v1 = word4 b 5 ∧ v2 = word4 b 9 ∧ bs2 = b.drop 13) ∧ (d2 = true → b.length < 13) := by
 by_cases h9 : 9 ≤ b.length
 ·obtain ⟨rfl, rfl, rfl⟩ := word_there (i := 5) (by omega) D1
  by_cases h13 : 13 ≤ b.length
  ·obtain ⟨rfl, rfl, rfl⟩ := word_there (i := 9) (by omega) D2
   exact ⟨fun _ => ⟨h13, rfl, rfl, rfl⟩, fun h => by cases h⟩
  ·refine ⟨fun h => ?_, fun _ => by omega⟩
   obtain ⟨_, h2⟩ := D2.1 h
   rw [rdW_short (by omega)] at h2
   cases h2
 ·refine ⟨fun h => ?_, fun _ => by omega⟩
  obtain ⟨h1, _⟩ := D2.1 h
  obtain ⟨_, h2⟩ := D1.1 h1
  rw [rdW_short (by omega)] at h2
  cases h2
theorem old_short {b : List Nat} (h : b.length < 13) : oldM b = .error 143 := by
 unfold oldM
 rw [if_pos (.inl (by omega))]
theorem old_len {b : List Nat} (h : b.length ≠ 273 + 4 * word4 b 9) : oldM b = .error 143 := by
 unfold oldM
 rw [if_pos (.inr h)]
theorem old_sum {b : List Nat} (h : b.length = 273 + 4 * word4 b 9) (hs : sumN (b.take (b.length - 4)) ≠ word4 b (b.length - 4)) : oldM b = .error 144 := by
 unfold oldM
 rw [if_neg (by omega), if_pos hs]
theorem old_ok {b : List Nat} (h : b.length = 273 + 4 * word4 b 9) (hs : sumN (b.take (b.length - 4)) = word4 b (b.length - 4)) :
 oldM b = .ok ⟨1, (List.range (word4 b 9)).map (fun i => word4 b (13 + 4 * i)), (List.range 64).map (fun i => word4 b (13 + 4 * word4 b 9 + 4 * i)), word4 b 5, false⟩ := by
 unfold oldM
 rw [if_neg (by omega), if_neg (fun h => h hs)]
theorem own_base {w : World} {base base' : Nat} {e : TypeId} {size : Nat} {v : Value} {n : Nat} {xs : List Value} (h : w.ownsRow base e size v n xs) (hb : base' ≤ base) : w.ownsRow base' e size v n xs :=
 ⟨h.1, h.2.imp id fun ⟨g, cap, cur, h1, h2, h3⟩ => ⟨g, cap, cur, h1, Nat.le_trans hb h2, h3⟩⟩
structure OlS (w0 W : World) (rg xg : Nat) (A : Option Addr) (c : Nat) (bs : List Nat) (d vw vr : Value) (ws rs : List Nat) : Prop where
 fr : Below w0.heap.size w0 W
 rd : RdD W w0.heap.size rg A c bs false
 box : Blk W xg 63 (RdC (.int .i64 1) (.int .i64 0) (.int .i64 0) d vw vr false)
 hr : rg < xg
 wo : W.ownsRow (xg + 1) 32 1 vw ws.length (u32s ws)
 ro : W.ownsRow (xg + 1) 72 1 vr rs.length (u32s rs)
section
variable {w0 W W' : World} {rg xg c c' m : Nat} {A A' : Option Addr} {bs bs' ws rs ys : List Nat} {d vw vr v' : Value}
theorem OlS.below (S : OlS w0 W rg xg A c bs d vw vr ws rs) (h : Below W.heap.size W W') : OlS w0 W' rg xg A c bs d vw vr ws rs :=
 ⟨below_top S.fr h, S.rd.below h, S.box.below h S.box.lt, S.hr, own_sameI S.wo (fun k hk => h.block k (S.wo.lt k hk).2), own_sameI S.ro (fun k hk => h.block k (S.ro.lt k hk).2)⟩
theorem OlS.read (S : OlS w0 W rg xg A c bs d vw vr ws rs) (R : RdD W' w0.heap.size rg A' c' bs' false) (F : Fr1 rg W W') : OlS w0 W' rg xg A' c' bs' d vw vr ws rs :=
 ⟨below_fr1 S.fr F S.rd.far, R, S.box.fr1 F (by have := S.hr; omega), S.hr, own_sameI S.wo (fun k hk => F.same k (S.wo.lt k hk).2 (by have := (S.wo.lt k hk).1; have := S.hr; omega)), own_sameI S.ro (fun k hk => F.same k (S.ro.lt k hk).2 (by have := (S.ro.lt k hk).1; have := S.hr; omega))⟩
theorem OlS.appW (S : OlS w0 W rg xg A c bs d vw vr ws rs) (hm : ys.length = m) (ho : W'.ownsRow (xg + 1) 32 1 v' (ws.length + m) (u32s ws ++ u32s ys)) (hg : W.grownBy W' vw.ownBlock) :
 OlS w0 (W'.setCell ⟨xg, 4, none⟩ v') rg xg A c bs d v' vr (ws ++ ys) rs := by
 have hs : ∀ k, k < W.heap.size → vw.ownBlock ≠ some k → W'.heap[k]? = W.heap[k]? := fun k h1 h2 => hg.block k h1 (fun e => h2 (by first | exact e | exact e.symm))
 have hfar : ∀ k, k ≠ xg → (W'.setCell ⟨xg, 4, none⟩ v').heap[k]? = W'.heap[k]? := fun k h => Below.heap_setCell W' ⟨xg, 4, none⟩ v' k h
 have hsz : (W'.setCell ⟨xg, 4, none⟩ v').heap.size = W'.heap.size := by simp [World.setCell]
 have hx := S.box.lt
 have hr := S.hr
 have hL := S.rd.far
 have hgs := hg.size
 have hB : ∀ k, k < xg + 1 → W'.heap[k]? = W.heap[k]? := fun k h1 => hs k (by omega) (fun e => by have := (S.wo.lt k e).1; omega)
 refine ⟨⟨hg.os.trans S.fr.os, hg.tape.trans S.fr.tape, hg.output.trans S.fr.output, by rw [hsz]; exact Nat.le_trans S.fr.size hg.size, fun k h1 => (hfar k (by omega)).trans ((hB k (by omega)).trans (S.fr.block k h1))⟩, ?_, (S.box.same (hB _ (by omega))).set_ 4 v', hr, ?_, ?_⟩
 ·exact S.rd.low (B := xg) (fun q hq => (hfar q (by omega)).trans (hB q (by omega))) (by omega)
 ·have h1 := own_sameI (w' := W'.setCell ⟨xg, 4, none⟩ v') ho (fun k e => hfar k (by have := (ho.lt k e).1; omega))
  rw [List.length_append, hm, show u32s (ws ++ ys) = u32s ws ++ u32s ys by simp [u32s]]
  exact h1
 ·exact own_sameI S.ro (fun k e => (hfar k (by have := (S.ro.lt k e).1; omega)).trans (hs k (S.ro.lt k e).2 (own_typ2 S.ro S.wo (by decide) e)))
theorem OlS.appR (S : OlS w0 W rg xg A c bs d vw vr ws rs) (hm : ys.length = m) (ho : W'.ownsRow (xg + 1) 72 1 v' (rs.length + m) (u32s rs ++ u32s ys)) (hg : W.grownBy W' vr.ownBlock) :
 OlS w0 (W'.setCell ⟨xg, 5, none⟩ v') rg xg A c bs d vw v' ws (rs ++ ys) := by
 have hs : ∀ k, k < W.heap.size → vr.ownBlock ≠ some k → W'.heap[k]? = W.heap[k]? := fun k h1 h2 => hg.block k h1 (fun e => h2 (by first | exact e | exact e.symm))
 have hfar : ∀ k, k ≠ xg → (W'.setCell ⟨xg, 5, none⟩ v').heap[k]? = W'.heap[k]? := fun k h => Below.heap_setCell W' ⟨xg, 5, none⟩ v' k h
 have hsz : (W'.setCell ⟨xg, 5, none⟩ v').heap.size = W'.heap.size := by simp [World.setCell]
 have hx := S.box.lt
 have hr := S.hr
 have hL := S.rd.far
 have hgs := hg.size
 have hB : ∀ k, k < xg + 1 → W'.heap[k]? = W.heap[k]? := fun k h1 => hs k (by omega) (fun e => by have := (S.ro.lt k e).1; omega)
 refine ⟨⟨hg.os.trans S.fr.os, hg.tape.trans S.fr.tape, hg.output.trans S.fr.output, by rw [hsz]; exact Nat.le_trans S.fr.size hg.size, fun k h1 => (hfar k (by omega)).trans ((hB k (by omega)).trans (S.fr.block k h1))⟩, ?_, (S.box.same (hB _ (by omega))).set_ 5 v', hr, ?_, ?_⟩
 ·exact S.rd.low (B := xg) (fun q hq => (hfar q (by omega)).trans (hB q (by omega))) (by omega)
 ·exact own_sameI S.wo (fun k e => (hfar k (by have := (S.wo.lt k e).1; omega)).trans (hs k (S.wo.lt k e).2 (own_typ2 S.wo S.ro (by decide) e)))
 ·have h1 := own_sameI (w' := W'.setCell ⟨xg, 5, none⟩ v') ho (fun k e => hfar k (by have := (ho.lt k e).1; omega))
  rw [List.length_append, hm, show u32s (rs ++ ys) = u32s rs ++ u32s ys by simp [u32s]]
  exact h1
theorem OlS.room (S : OlS w0 W rg xg A c bs d vw vr ws rs) (hg : W.grownBy W' vw.ownBlock) : Blk W' xg 63 (RdC (.int .i64 1) (.int .i64 0) (.int .i64 0) d vw vr false) :=
 S.box.same (hg.block xg S.box.lt (fun e => own_blkI S.wo S.box (by decide) (by first | exact e | exact e.symm)))
theorem OlS.roomR (S : OlS w0 W rg xg A c bs d vw vr ws rs) (hg : W.grownBy W' vr.ownBlock) : Blk W' xg 63 (RdC (.int .i64 1) (.int .i64 0) (.int .i64 0) d vw vr false) :=
 S.box.same (hg.block xg S.box.lt (fun e => own_blkI S.ro S.box (by decide) (by first | exact e | exact e.symm)))
theorem OlS.fin (S : OlS w0 W rg xg A c bs (.int .u32 m) vw vr ws rs) {b : List Nat} {r : Rd} (h : oldM b = .ok r) (h1 : ws = r.words) (h2 : rs = r.roots) (h3 : m = r.last) :
 OlderP b w0 (.returned (.tuple #[.pointer (some ⟨xg, 0, none⟩), .int .i64 0])) (W.setCell ⟨xg, 2, none⟩ (.int .i64 ws.length)) := by
 have hL := S.rd.far
 have hr := S.hr
 have hfar : ∀ k, k ≠ xg → (W.setCell ⟨xg, 2, none⟩ (.int .i64 ws.length)).heap[k]? = W.heap[k]? := fun k h => Below.heap_setCell W ⟨xg, 2, none⟩ _ k h
 subst h1 h2 h3
 refine ⟨below_fr1 S.fr (Fr1.set _ _ _ _) (by omega), ?_⟩
 rw [h]
 exact ⟨xg, vw, vr, rfl, S.box.set_ 2 _, own_base (own_sameI S.wo (fun k e => hfar k (by have := (S.wo.lt k e).1; omega))) (by omega), own_base (own_sameI S.ro (fun k e => hfar k (by have := (S.ro.lt k e).1; omega))) (by omega), by omega⟩
end
end
section
open Go.RowKit
attribute [local go_sem] Oper.semAt_some
set_option maxRecDepth 100000 in
set_option maxHeartbeats 16000000 in
theorem older_any {w : World} {A : Option Addr} {n c : Nat} {bs : List Nat} (hr : Reads w w.heap.size 1 A n (u8c bs)) (hc : n ≤ c) (hn5 : 5 ≤ n) (hn : n ≤ 9000000) (h8 : ∀ x ∈ bs, x < 256) :
 Calls Tryz.prog 23 #[.slice A n c] w (OlderP bs w) := by
 have hbl : bs.length = n := by have := hr.1; rw [u8c_len] at this; omega
 have hsl : ∀ w : World, (Instr.slice 22 (.slice A n c) (some (.int .i64 5)) none none).run Tryz.prog w = .ok (.slice (tailA A c 5) (n - 5) (c - 5)) w := fun w => slice_rest w A n c 5 (by omega)
 have hb2 : Below w.heap.size w (w.alloc (.cells #[.slice (tailA A c 5) (n - 5) (c - 5), .bool false] 96)) := (Below.refl _ _).alloc (Nat.le_refl _) _
 have R2 : RdD (w.alloc (.cells #[.slice (tailA A c 5) (n - 5) (c - 5), .bool false] 96)) w.heap.size w.heap.size (tailA A c 5) (c - 5) (bs.drop 5) false := ⟨by rw [List.length_drop, hbl]; exact Blk.new w _ _, by rw [List.length_drop]; omega, by rw [List.length_drop, hbl]; exact (reads_rest hr hc (by omega)).below hb2, Nat.le_refl _, fun x hx => h8 x (List.mem_of_mem_drop hx)⟩
 have HBS := Lib.hid (show ∀ W, Below w.heap.size w W → Reads W w.heap.size 1 (tailA A c 0) (n - 4) (u8c (bs.take (n - 4))) from fun W h => (reads_head hr (by omega)).below h)
 have HF2 := Lib.hid hb2
 have HW1 := Lib.hid (rwordD_any R2 (by rw [List.length_drop]; omega))
 have H8 := Lib.hid h8
 clear hr R2 h8
 go_enter Tryz.func23, Tryz.ntmps23
 go_upto_region 2 with fail
 generalize w.alloc (.cells #[.slice (tailA A c 5) (n - 5) (c - 5), .bool false] 96) = w2 at *
 clear hb2 hsl
 go_wp2_with fail
 refine HW1.out.mono ?_
 rintro e w3 ⟨la, A3, c3, b3, d3, rfl, hla, R3, F3, D3, t3, e3⟩
 have HD3 := Lib.hid D3
 have hl3 : b3.length ≤ 9000000 := by have := congrArg List.length e3; rw [List.length_append, List.length_drop] at this; omega
 have hb4 : Below w3.heap.size w3 (w3.alloc (.cells #[.int .i64 1, .int .i64 0, .int .i64 0, .int .u32 (la : Nat), .slice none 0 0, .slice none 0 0, .bool false] 63)) := (Below.refl _ _).alloc (Nat.le_refl _) _
 have HF4 := Lib.hid (below_top (below_fr1 HF2.out F3 (Nat.le_refl _)) hb4)
 have HR4 := Lib.hid (R3.below hb4)
 have HX4 := Lib.hid (Blk.new w3 63 #[.int .i64 1, .int .i64 0, .int .i64 0, .int .u32 (la : Nat), .slice none 0 0, .slice none 0 0, .bool false])
 have hgx : w.heap.size < w3.heap.size := R3.box.lt
 clear HW1 R3 F3 D3 e3 HF2 hb4
 go_upto_region 3 with fail
 generalize w3.alloc (.cells #[.int .i64 1, .int .i64 0, .int .i64 0, .int .u32 (la : Int), .slice none 0 0, .slice none 0 0, .bool false] 63) = w4 at *
 generalize w3.heap.size = xg at *
 have HW1 := Lib.hid (rwordD_any HR4.out hl3)
 go_wp2_with fail
 refine HW1.out.mono ?_
 rintro e w5 ⟨m, A5, c5, b5, d5, rfl, hm, R5, F5, D5, t5, e5⟩
 have hw1 : wrap64 (m : Int) = (m : Int) := IntWalk.wrap64_in _ (by omega)
 have hw2 : wrap64 (4 * (m : Int)) = 4 * (m : Int) := IntWalk.wrap64_in _ (by omega)
 have hw3 : wrap64 (4 * (m : Int) + 260) = 4 * (m : Int) + 260 := IntWalk.wrap64_in _ (by omega)
 obtain ⟨hok, hbad⟩ := older_head (by omega) HD3.out D5
 have HR5 := Lib.hid R5
 have HF5 := Lib.hid (below_fr1 HF4.out F5 (Nat.le_refl _))
 have HX5 := Lib.hid (HX4.out.fr1 F5 (by omega))
 have hc5 := R5.box.cell 0
 have hc6 := R5.box.cell 1
 clear HW1 R5 F5 D5 e5 HR4 HF4 HX4 HD3
 cases d5 with
 | true =>
   have HFN := Lib.hid (OlderP.err HF5.out (old_short (hbad rfl)))
   clear hok hbad HR5 HF5 HX5 HBS H8
   go_wp2_with fail
   go_ret2
   exact HFN.out
 | false =>
   obtain ⟨h13, rfl, hm9, rfl⟩ := hok rfl
   clear hbad hok
   have hl5 : (bs.drop 13).length = n - 13 := by rw [List.length_drop, hbl]
   rw [hl5] at hc5
   have HM9 := Lib.hid hm9
   by_cases hnm : n = 273 + 4 * m
   rotate_left
   ·have hd : (((n - 13 : Nat) : Int) != 4 * (m : Int) + 260) = true := by simp; omega
    have hdn : ¬ (((n - 13 : Nat) : Int) = 4 * (m : Int) + 260) := by omega
    have HFN := Lib.hid (OlderP.err HF5.out (old_len (show bs.length ≠ 273 + 4 * word4 bs 9 from by rw [← HM9.out, hbl]; exact hnm)))
    clear HR5 HF5 HX5 HBS H8 hnm hm9
    go_wp2_with fail
    go_ret2
    exact HFN.out
   have hd : (((n - 13 : Nat) : Int) != 4 * (m : Int) + 260) = false := by simp; omega
   have hde : ((n - 13 : Nat) : Int) = 4 * (m : Int) + 260 := by omega
   have HNM := Lib.hid hnm
   have HS := Lib.hid (show OlS w w5 w.heap.size xg A5 c5 (bs.drop 13) (.int .u32 (word4 bs 5 : Nat)) (.slice none 0 0) (.slice none 0 0) [] [] from ⟨HF5.out, HR5.out, HX5.out, hgx, ⟨rfl, .inl ⟨rfl, rfl⟩⟩, ⟨rfl, .inl ⟨rfl, rfl⟩⟩⟩)
   have hmb : m ≤ 9000000 := by omega
   clear HR5 HF5 HX5 hm9 hnm
   generalize hlw : word4 bs 5 = la at *
   have HLA := Lib.hid hlw
   clear hlw
   go_upto_region 6 with fail
   clear hc5 hc6 hd hde hw2 hw3 hl5
   go_wp2_with fail
   go_loopw [7] (fun i wr => ∃ (k : Nat) (vw : Value) (A6 : Option Addr) (c6 : Nat), i = .int .i64 k ∧ k ≤ m ∧ OlS w wr w.heap.size xg A6 c6 (bs.drop (13 + 4 * k)) (.int .u32 (la : Nat)) vw (.slice none 0 0) ((List.range k).map (fun i => word4 bs (13 + 4 * i))) []) (fun i _ => m - (intOf i).toNat)
   case atStart => exact ⟨0, _, _, _, rfl, Nat.zero_le _, HS.out⟩
   case round =>
    clear HS
    obtain ⟨k, vw, A6, c6, rfl, hk, S⟩ := hrel
    obtain ⟨i0, hi0, hz0, hz1, hz2⟩ := info_parts info_u32
    have HS := Lib.hid S
    by_cases hkn : k < m
    ·have hd : decide ((k : Int) < (m : Int)) = true := by simp; omega
     have hkni : (k : Int) < (m : Int) := by omega
     have HWD := Lib.hid (fun (W : World) (S : RdD W w.heap.size w.heap.size A6 c6 (bs.drop (13 + 4 * k)) false) => rwordD_any S (by rw [List.length_drop]; omega))
     have HTH := Lib.hid (fun (v : Nat) (b' : List Nat) (bad' : Bool) (D : Rdd false (rdW (bs.drop (13 + 4 * k))) v b' bad') => word_there (b := bs) (i := 13 + 4 * k) (by have := HNM.out; omega) D)
     have HLS := Lib.hid (show ((List.range (k + 1)).map (fun i => word4 bs (13 + 4 * i))) = ((List.range k).map (fun i => word4 bs (13 + 4 * i))) ++ [word4 bs (13 + 4 * k)] from by rw [List.range_succ, List.map_append]; rfl)
     have hpl : ((List.range k).map (fun i => word4 bs (13 + 4 * i))).length ≤ 9000000 := by rw [List.length_map, List.length_range]; omega
     clear S
     generalize ((List.range k).map (fun i => word4 bs (13 + 4 * i))) = pk at *
     generalize word4 bs (13 + 4 * k) = x at *
     go_upto_region 9 with fail
     refine wp_region_U 11 (fun w' => w'.cell? ⟨xg, 4, none⟩ = some vw ∧ True) (by kernel_rfl) ?_
     have HSq := Lib.hid (HS.out.below (⟨rfl, rfl, rfl, Nat.le_refl _, fun _ _ => rfl⟩ : Below wr.heap.size wr wr.drew))
     clear HS
     generalize wr.drew = wq at *
     have hS : wq.cell? ⟨xg, 4, none⟩ = some vw ∧ True := ⟨HSq.out.box.cell 4, trivial⟩
     refine U_readC 0 [9, 10, 11] (v := (.pointer (some ⟨xg, 0, none⟩))) rfl (by kernel_rfl) (fun _ _ _ h => h) hS (by kernel_rfl) (fun w' hw' => by obtain ⟨h0, h1⟩ := hw'; go_simp) ?_
     try simp only [Act.put, List.setIfInBounds_toArray, List.set_cons_zero, List.set_cons_succ]
     refine U_readC 1 [2, 3, 4, 8, 11] (v := (.pointer (some ⟨xg, 0, none⟩))) rfl (by kernel_rfl) (fun _ _ _ h => h) hS (by kernel_rfl) (fun w' hw' => by obtain ⟨h0, h1⟩ := hw'; go_simp) ?_
     try simp only [Act.put, List.setIfInBounds_toArray, List.set_cons_zero, List.set_cons_succ]
     refine U_readC 2 [3, 4, 8, 11] (v := (.pointer (some ⟨xg, 0, none⟩))) rfl (by kernel_rfl) (fun _ _ _ h => h) hS (by kernel_rfl) (fun w' hw' => by obtain ⟨h0, h1⟩ := hw'; go_simp) ?_
     try simp only [Act.put, List.setIfInBounds_toArray, List.set_cons_zero, List.set_cons_succ]
     refine U_readC 3 [4, 8, 11] (v := (.pointer (some ⟨xg, 4, none⟩))) rfl (by kernel_rfl) (fun _ _ _ h => h) hS (by kernel_rfl) (fun w' hw' => by obtain ⟨h0, h1⟩ := hw'; go_simp) ?_
     try simp only [Act.put, List.setIfInBounds_toArray, List.set_cons_zero, List.set_cons_succ]
     refine U_readC 4 [8, 11] (v := vw) rfl (by kernel_rfl) (fun _ _ _ h => h) hS (by kernel_rfl) (fun w' hw' => by obtain ⟨h0, h1⟩ := hw'; go_simp) ?_
     try simp only [Act.put, List.setIfInBounds_toArray, List.set_cons_zero, List.set_cons_succ]
     refine U_readC 5 [6, 7, 8, 11] (v := (.pointer (some ⟨w.heap.size, 0, none⟩))) rfl (by kernel_rfl) (fun _ _ _ h => h) hS (by kernel_rfl) (fun w' hw' => by obtain ⟨h0, h1⟩ := hw'; go_simp) ?_
     try simp only [Act.put, List.setIfInBounds_toArray, List.set_cons_zero, List.set_cons_succ]
     refine U_one 6 (by kernel_rfl) rfl rfl (fun K hK => ?_)
     go_simp
     refine (HWD.out _ HSq.out.rd).mono ?_
     rintro e w13 ⟨x2, A7, c7, b7, d7, rfl, hx7, R7, F7, D7, t7, e7⟩
     obtain ⟨rfl, rfl, rfl⟩ := HTH.out _ _ _ D7
     have HS14 := Lib.hid (HSq.out.read R7 F7)
     have hS14 : w13.cell? ⟨xg, 4, none⟩ = some vw ∧ True := ⟨HS14.out.box.cell 4, trivial⟩
     clear HSq R7 F7 D7 e7 HWD HTH
     refine hK _ _ (fun _ => hS14) ?_
     clear hK K
     try simp only [Act.put, List.setIfInBounds_toArray, List.set_cons_zero, List.set_cons_succ]
     refine U_one 7 (by kernel_rfl) rfl rfl (fun K hK => ?_)
     go_simp
     have HSA := Lib.hid (HS14.out.below ((Below.refl _ _).alloc (Nat.le_refl _) (.cells #[.int .u32 (x2 : Nat)] 32)))
     have hSA : (w13.alloc (.cells #[.int .u32 (x2 : Nat)] 32)).cell? ⟨xg, 4, none⟩ = some vw ∧ True := ⟨HSA.out.box.cell 4, trivial⟩
     refine hK _ _ (fun _ => hSA) ?_
     clear hK K
     try simp only [Act.put, List.setIfInBounds_toArray, List.set_cons_zero, List.set_cons_succ]
     refine U_one 8 (by kernel_rfl) rfl rfl (fun K hK => ?_)
     refine wp_append_any _ (.tmp 45) (.tmp 48) _ rfl (xg + 1) 32 i0 _ 1 4 Tryz.underlying44 hi0 hz0 hz1 hz2 rfl (by omega) vw pk.length (u32s pk) rfl HSA.out.wo (w13.heap.size + 1) (some ⟨w13.heap.size, 0, none⟩) 1 1 (u32s [x2]) rfl ⟨rfl, fun _ => ⟨_, rfl, by simp, cell_one_new _ _ _⟩⟩ (one_u32s _) (by simp only [maxLen]; omega) (by omega) (by have := HSA.out.box.lt; omega) ?_
     intro v15 w15 hown15 hg15 hat15
     obtain ⟨g15, c15, rfl, -, -, -⟩ := Row.of_any hown15 (by omega)
     have HS15 := Lib.hid (HSA.out.appW (ys := [x2]) rfl hown15 hg15)
     have hfz := (HSA.out.room hg15).frozen 4
     have hcu := (HSA.out.room hg15).cell 4
     have hS15 : w15.cell? ⟨xg, 4, none⟩ = some vw ∧ True := ⟨hcu, trivial⟩
     clear hown15 hg15 hat15 HSA HS14
     refine hK _ _ (fun _ => hS15) ?_
     clear hK K
     try simp only [Act.put, List.setIfInBounds_toArray, List.set_cons_zero, List.set_cons_succ]
     refine U_one 9 (by kernel_rfl) rfl rfl (fun K hK => ?_)
     go_simp
     refine hK _ _ (fun _ => hS15) ?_
     clear hK K
     try simp only [Act.put, List.setIfInBounds_toArray, List.set_cons_zero, List.set_cons_succ]
     refine U_one 10 (by kernel_rfl) rfl rfl (fun K hK => ?_)
     go_simp
     refine hK _ _ (fun _ => hS15) ?_
     clear hK K
     try simp only [Act.put, List.setIfInBounds_toArray, List.set_cons_zero, List.set_cons_succ]
     refine U_one 11 (by kernel_rfl) rfl rfl (fun K hK => ?_)
     go_simp
     refine hK _ _ (fun h => absurd h (by decide)) ?_
     clear hK K
     try simp only [Act.put, List.setIfInBounds_toArray, List.set_cons_zero, List.set_cons_succ]
     refine U_done (by kernel_rfl) ?_ _
     simp only [Calm, Exit.then]
     clear hS hS14 hSA hS15 hcu hfz
     go_wp2_with fail
     go_roundw
     case rel => exact ⟨k + 1, _, _, _, by go_num, by omega, by rw [HLS.out]; exact HS15.out⟩
     case measure => simp [intOf]; omega
    ·obtain rfl : m = k := by omega
     have hd : decide ((m : Int) < m) = false := by simp
     have HST := Lib.hid S
     have HL0 := Lib.hid (show (13 + 4 * m) = 13 + 4 * m + 4 * 0 from rfl)
     clear S HS hk hkn i0 hi0 hz0 hz1 hz2
     obtain ⟨i0, hi0, hz0, hz1, hz2⟩ := info_parts info_oop
     have HWL := Lib.hid (show ((List.range m).map (fun i => word4 bs (13 + 4 * i))).length = m from by rw [List.length_map, List.length_range])
     generalize hW : ((List.range m).map (fun i => word4 bs (13 + 4 * i))) = wsF at *
     have HWF := Lib.hid hW
     clear hW
     go_wp2_with fail
     go_loopw [8] (fun i wr => ∃ (k : Nat) (vr : Value) (A6 : Option Addr) (c6 : Nat), i = .int .i64 k ∧ k ≤ 64 ∧ OlS w wr w.heap.size xg A6 c6 (bs.drop (13 + 4 * m + 4 * k)) (.int .u32 (la : Nat)) vw vr wsF ((List.range k).map (fun i => word4 bs (13 + 4 * m + 4 * i)))) (fun i _ => 64 - (intOf i).toNat)
     case atStart => exact ⟨0, _, _, _, rfl, Nat.zero_le _, HST.out⟩
     case round =>
      clear HST
      obtain ⟨k, vr, A6, c6, rfl, hk, S⟩ := hrel
      have HS := Lib.hid S
      by_cases hkn : k < 64
      ·have hd : decide ((k : Int) < (64 : Int)) = true := by simp; omega
       have hkni : (k : Int) < (64 : Int) := by omega
       have HWD := Lib.hid (fun (W : World) (S : RdD W w.heap.size w.heap.size A6 c6 (bs.drop (13 + 4 * m + 4 * k)) false) => rwordD_any S (by rw [List.length_drop]; omega))
       have HTH := Lib.hid (fun (v : Nat) (b' : List Nat) (bad' : Bool) (D : Rdd false (rdW (bs.drop (13 + 4 * m + 4 * k))) v b' bad') => word_there (b := bs) (i := 13 + 4 * m + 4 * k) (by have := HNM.out; omega) D)
       have HLS := Lib.hid (show ((List.range (k + 1)).map (fun i => word4 bs (13 + 4 * m + 4 * i))) = ((List.range k).map (fun i => word4 bs (13 + 4 * m + 4 * i))) ++ [word4 bs (13 + 4 * m + 4 * k)] from by rw [List.range_succ, List.map_append]; rfl)
       have hpl : ((List.range k).map (fun i => word4 bs (13 + 4 * m + 4 * i))).length ≤ 9000000 := by rw [List.length_map, List.length_range]; omega
       clear S
       generalize ((List.range k).map (fun i => word4 bs (13 + 4 * m + 4 * i))) = pk at *
       generalize word4 bs (13 + 4 * m + 4 * k) = x at *
       go_upto_region 13 with fail
       refine wp_region_U 11 (fun w' => w'.cell? ⟨xg, 5, none⟩ = some vr ∧ True) (by kernel_rfl) ?_
       have HSq := Lib.hid (HS.out.below (⟨rfl, rfl, rfl, Nat.le_refl _, fun _ _ => rfl⟩ : Below wr.heap.size wr wr.drew))
       clear HS
       generalize wr.drew = wq at *
       have hS : wq.cell? ⟨xg, 5, none⟩ = some vr ∧ True := ⟨HSq.out.box.cell 5, trivial⟩
       refine U_readC 0 [9, 10, 11] (v := (.pointer (some ⟨xg, 0, none⟩))) rfl (by kernel_rfl) (fun _ _ _ h => h) hS (by kernel_rfl) (fun w' hw' => by obtain ⟨h0, h1⟩ := hw'; go_simp) ?_
       try simp only [Act.put, List.setIfInBounds_toArray, List.set_cons_zero, List.set_cons_succ]
       refine U_readC 1 [2, 3, 4, 8, 11] (v := (.pointer (some ⟨xg, 0, none⟩))) rfl (by kernel_rfl) (fun _ _ _ h => h) hS (by kernel_rfl) (fun w' hw' => by obtain ⟨h0, h1⟩ := hw'; go_simp) ?_
       try simp only [Act.put, List.setIfInBounds_toArray, List.set_cons_zero, List.set_cons_succ]
       refine U_readC 2 [3, 4, 8, 11] (v := (.pointer (some ⟨xg, 0, none⟩))) rfl (by kernel_rfl) (fun _ _ _ h => h) hS (by kernel_rfl) (fun w' hw' => by obtain ⟨h0, h1⟩ := hw'; go_simp) ?_
       try simp only [Act.put, List.setIfInBounds_toArray, List.set_cons_zero, List.set_cons_succ]
       refine U_readC 3 [4, 8, 11] (v := (.pointer (some ⟨xg, 5, none⟩))) rfl (by kernel_rfl) (fun _ _ _ h => h) hS (by kernel_rfl) (fun w' hw' => by obtain ⟨h0, h1⟩ := hw'; go_simp) ?_
       try simp only [Act.put, List.setIfInBounds_toArray, List.set_cons_zero, List.set_cons_succ]
       refine U_readC 4 [8, 11] (v := vr) rfl (by kernel_rfl) (fun _ _ _ h => h) hS (by kernel_rfl) (fun w' hw' => by obtain ⟨h0, h1⟩ := hw'; go_simp) ?_
       try simp only [Act.put, List.setIfInBounds_toArray, List.set_cons_zero, List.set_cons_succ]
       refine U_readC 5 [6, 7, 8, 11] (v := (.pointer (some ⟨w.heap.size, 0, none⟩))) rfl (by kernel_rfl) (fun _ _ _ h => h) hS (by kernel_rfl) (fun w' hw' => by obtain ⟨h0, h1⟩ := hw'; go_simp) ?_
       try simp only [Act.put, List.setIfInBounds_toArray, List.set_cons_zero, List.set_cons_succ]
       refine U_one 6 (by kernel_rfl) rfl rfl (fun K hK => ?_)
       go_simp
       refine (HWD.out _ HSq.out.rd).mono ?_
       rintro e w13 ⟨x2, A7, c7, b7, d7, rfl, hx7, R7, F7, D7, t7, e7⟩
       obtain ⟨rfl, rfl, rfl⟩ := HTH.out _ _ _ D7
       have HS14 := Lib.hid (HSq.out.read R7 F7)
       have hS14 : w13.cell? ⟨xg, 5, none⟩ = some vr ∧ True := ⟨HS14.out.box.cell 5, trivial⟩
       clear HSq R7 F7 D7 e7 HWD HTH
       refine hK _ _ (fun _ => hS14) ?_
       clear hK K
       try simp only [Act.put, List.setIfInBounds_toArray, List.set_cons_zero, List.set_cons_succ]
       refine U_one 7 (by kernel_rfl) rfl rfl (fun K hK => ?_)
       go_simp
       have HSA := Lib.hid (HS14.out.below ((Below.refl _ _).alloc (Nat.le_refl _) (.cells #[.int .u32 (x2 : Nat)] 72)))
       have hSA : (w13.alloc (.cells #[.int .u32 (x2 : Nat)] 72)).cell? ⟨xg, 5, none⟩ = some vr ∧ True := ⟨HSA.out.box.cell 5, trivial⟩
       refine hK _ _ (fun _ => hSA) ?_
       clear hK K
       try simp only [Act.put, List.setIfInBounds_toArray, List.set_cons_zero, List.set_cons_succ]
       refine U_one 8 (by kernel_rfl) rfl rfl (fun K hK => ?_)
       refine wp_append_any _ (.tmp 60) (.tmp 63) _ rfl (xg + 1) 72 i0 _ 1 4 Tryz.underlying45 hi0 hz0 hz1 hz2 rfl (by omega) vr pk.length (u32s pk) rfl HSA.out.ro (w13.heap.size + 1) (some ⟨w13.heap.size, 0, none⟩) 1 1 (u32s [x2]) rfl ⟨rfl, fun _ => ⟨_, rfl, by simp, cell_one_new _ _ _⟩⟩ (one_u32s _) (by simp only [maxLen]; omega) (by omega) (by have := HSA.out.box.lt; omega) ?_
       intro v15 w15 hown15 hg15 hat15
       obtain ⟨g15, c15, rfl, -, -, -⟩ := Row.of_any hown15 (by omega)
       have HS15 := Lib.hid (HSA.out.appR (ys := [x2]) rfl hown15 hg15)
       have hfz := (HSA.out.roomR hg15).frozen 5
       have hcu := (HSA.out.roomR hg15).cell 5
       have hS15 : w15.cell? ⟨xg, 5, none⟩ = some vr ∧ True := ⟨hcu, trivial⟩
       clear hown15 hg15 hat15 HSA HS14
       refine hK _ _ (fun _ => hS15) ?_
       clear hK K
       try simp only [Act.put, List.setIfInBounds_toArray, List.set_cons_zero, List.set_cons_succ]
       refine U_one 9 (by kernel_rfl) rfl rfl (fun K hK => ?_)
       go_simp
       refine hK _ _ (fun _ => hS15) ?_
       clear hK K
       try simp only [Act.put, List.setIfInBounds_toArray, List.set_cons_zero, List.set_cons_succ]
       refine U_one 10 (by kernel_rfl) rfl rfl (fun K hK => ?_)
       go_simp
       refine hK _ _ (fun _ => hS15) ?_
       clear hK K
       try simp only [Act.put, List.setIfInBounds_toArray, List.set_cons_zero, List.set_cons_succ]
       refine U_one 11 (by kernel_rfl) rfl rfl (fun K hK => ?_)
       go_simp
       refine hK _ _ (fun h => absurd h (by decide)) ?_
       clear hK K
       try simp only [Act.put, List.setIfInBounds_toArray, List.set_cons_zero, List.set_cons_succ]
       refine U_done (by kernel_rfl) ?_ _
       simp only [Calm, Exit.then]
       clear hS hS14 hSA hS15 hcu hfz
       go_wp2_with fail
       go_roundw
       case rel => exact ⟨k + 1, _, _, _, by go_num, by omega, by rw [HLS.out]; exact HS15.out⟩
       case measure => simp [intOf]; omega
      ·obtain rfl : k = 64 := by omega
       have hd : decide ((64 : Int) < 64) = false := by decide
       have hw4 : IntKind.i64.wrap ((n : Int) - 4) = (n : Int) - 4 := IntWalk.i64_in _ (by omega)
       have e4 : ((n - 4 : Nat) : Int) = (n : Int) - 4 := by omega
       have hsl : ∀ w : World, (Instr.slice 22 (.slice A n c) none (some (.int .i64 ((n : Int) - 4))) none).run Tryz.prog w = .ok (.slice (tailA A c 0) (n - 4) c) w := fun w => by
        have h := slice_head w A n c (n - 4) (by omega)
        rw [e4] at h
        exact h
       have h8t : ∀ x ∈ bs.take (n - 4), x < 256 := fun x hx => H8.out x (List.mem_of_mem_take hx)
       obtain ⟨hs1, hs2⟩ := sumN_eq h8t
       have HSM := Lib.hid (fun (W : World) (h : Below w.heap.size w W) => (refSum_any (tailA A c 0) (n - 4) c w.heap.size (bs.take (n - 4)) W (by omega) (HBS.out W h) h8t).mono fun e w' ⟨h1, h2⟩ => show e = Ending.returned (.int .u32 ((sumN (bs.take (n - 4)) : Nat) : Int)) ∧ W = w' from ⟨by rw [h1, hs1], h2⟩)
       have HWD := Lib.hid (fun (W : World) (S : RdD W w.heap.size w.heap.size A6 c6 (bs.drop (13 + 4 * m + 4 * 64)) false) => rwordD_any S (by rw [List.length_drop]; omega))
       have HTH := Lib.hid (fun (v : Nat) (b' : List Nat) (bad' : Bool) (D : Rdd false (rdW (bs.drop (13 + 4 * m + 4 * 64))) v b' bad') => word_there (b := bs) (i := 13 + 4 * m + 4 * 64) (by have := HNM.out; omega) D)
       have HEN := Lib.hid (show 13 + 4 * m + 4 * 64 = n - 4 from by have := HNM.out; omega)
       have HLEN := Lib.hid (show bs.length = 273 + 4 * word4 bs 9 from by rw [← HM9.out, hbl]; exact HNM.out)
       have HST := Lib.hid S
       have HRS := Lib.hid (show ((List.range 64).map (fun i => word4 bs (13 + 4 * m + 4 * i))) = (List.range 64).map (fun i => word4 bs (13 + 4 * word4 bs 9 + 4 * i)) from by rw [← HM9.out])
       have HWF2 := Lib.hid (show wsF = (List.range (word4 bs 9)).map (fun i => word4 bs (13 + 4 * i)) from by rw [← HM9.out]; exact HWF.out.symm)
       clear S HS hk hkn hs1 h8t e4
       generalize ((List.range 64).map (fun i => word4 bs (13 + 4 * m + 4 * i))) = rsF at *
       obtain ⟨su, hsu⟩ : ∃ s, s = sumN (bs.take (n - 4)) := ⟨_, rfl⟩
       have HSU := Lib.hid hsu
       have hsu32 : su < 4294967296 := by rw [hsu]; first | exact hs2 | exact hs2 _ | omega
       rw [← hsu] at HSM
       clear hsu hs2
       go_upto_region 14 with fail
       refine wp_region_U 8 (fun w' => True ∧ True) (by kernel_rfl) ?_
       have HSq := Lib.hid (HST.out.below (⟨rfl, rfl, rfl, Nat.le_refl _, fun _ _ => rfl⟩ : Below wr.heap.size wr wr.drew))
       clear HST
       generalize wr.drew = wq at *
       have hS : True ∧ True := ⟨trivial, trivial⟩
       refine U_readC 0 [1, 8] (v := (.pointer (some ⟨w.heap.size, 0, none⟩))) rfl (by kernel_rfl) (fun _ _ _ h => h) hS (by kernel_rfl) (fun w' hw' => by obtain ⟨h0, h1⟩ := hw'; go_simp) ?_
       try simp only [Act.put, List.setIfInBounds_toArray, List.set_cons_zero, List.set_cons_succ]
       refine U_readC 2 [6, 7, 8] (v := (.slice A n c)) rfl (by kernel_rfl) (fun _ _ _ h => h) hS (by kernel_rfl) (fun w' hw' => by obtain ⟨h0, h1⟩ := hw'; go_simp) ?_
       try simp only [Act.put, List.setIfInBounds_toArray, List.set_cons_zero, List.set_cons_succ]
       refine U_readC 3 [4, 5, 6, 7, 8] (v := (.slice A n c)) rfl (by kernel_rfl) (fun _ _ _ h => h) hS (by kernel_rfl) (fun w' hw' => by obtain ⟨h0, h1⟩ := hw'; go_simp) ?_
       try simp only [Act.put, List.setIfInBounds_toArray, List.set_cons_zero, List.set_cons_succ]
       refine U_readC 4 [5, 6, 7, 8] (v := (.int .i64 (n : Int))) rfl (by kernel_rfl) (fun _ _ _ h => h) hS (by kernel_rfl) (fun w' hw' => by obtain ⟨h0, h1⟩ := hw'; go_simp) ?_
       try simp only [Act.put, List.setIfInBounds_toArray, List.set_cons_zero, List.set_cons_succ]
       refine U_readC 5 [6, 7, 8] (v := (.int .i64 ((n : Int) - 4))) rfl (by kernel_rfl) (fun _ _ _ h => h) hS (by kernel_rfl) (fun w' hw' => by obtain ⟨h0, h1⟩ := hw'; go_simp) ?_
       try simp only [Act.put, List.setIfInBounds_toArray, List.set_cons_zero, List.set_cons_succ]
       refine U_readC 6 [7, 8] (v := (.slice (tailA A c 0) (n - 4) c)) rfl (by kernel_rfl) (fun _ _ _ h => h) hS (by kernel_rfl) (fun w' hw' => by obtain ⟨h0, h1⟩ := hw'; go_simp) ?_
       try simp only [Act.put, List.setIfInBounds_toArray, List.set_cons_zero, List.set_cons_succ]
       refine U_one 1 (by kernel_rfl) rfl rfl (fun K hK => ?_)
       go_simp
       refine (HWD.out _ HSq.out.rd).mono ?_
       rintro e w13 ⟨x2, A7, c7, b7, d7, rfl, hx7, R7, F7, D7, t7, e7⟩
       obtain ⟨rfl, hx2, rfl⟩ := HTH.out _ _ _ D7
       have HX2 := Lib.hid hx2
       have HS14 := Lib.hid (HSq.out.read R7 F7)
       clear HSq R7 F7 D7 e7 HWD HTH hx2
       refine hK _ _ (fun _ => hS) ?_
       clear hK K
       try simp only [Act.put, List.setIfInBounds_toArray, List.set_cons_zero, List.set_cons_succ]
       refine U_one 7 (by kernel_rfl) rfl rfl (fun K hK => ?_)
       go_simp
       refine (HSM.out _ HS14.out.fr).mono ?_
       rintro e w14 ⟨rfl, rfl⟩
       refine hK _ _ (fun _ => hS) ?_
       clear hK K
       try simp only [Act.put, List.setIfInBounds_toArray, List.set_cons_zero, List.set_cons_succ]
       refine U_one 8 (by kernel_rfl) rfl rfl (fun K hK => ?_)
       go_simp
       refine hK _ _ (fun h => absurd h (by decide)) ?_
       clear hK K
       try simp only [Act.put, List.setIfInBounds_toArray, List.set_cons_zero, List.set_cons_succ]
       refine U_done (by kernel_rfl) ?_ _
       simp only [Calm, Exit.then]
       clear hS HSM
       by_cases hss : x2 = su
       ·have hne : ((x2 : Int) != (su : Int)) = false := by simp; omega
        have hni : (x2 : Int) = (su : Int) := by omega
        have HOK := Lib.hid (old_ok HLEN.out (by rw [hbl, ← HEN.out, ← HX2.out, hss, HSU.out, HEN.out]))
        have q2 := HS14.out.box.cell 2
        have y2 := HS14.out.box.frozen 2
        have HFN := Lib.hid (HS14.out.fin HOK.out HWF2.out HRS.out HLA.out.symm)
        rw [HWL.out] at HFN
        clear HS14 HOK hss
        go_wp2_with fail
        go_ret2
        exact HFN.out
       ·have hne : ((x2 : Int) != (su : Int)) = true := by simp; omega
        have hni : ¬ ((x2 : Int) = (su : Int)) := by omega
        have HFN := Lib.hid (OlderP.err HS14.out.fr (old_sum HLEN.out (by rw [hbl, ← HEN.out, ← HX2.out, HEN.out, ← HSU.out]; omega)))
        clear HS14 hss
        go_wp2_with fail
        go_ret2
        exact HFN.out
end
end Go.Proofs.YthadjmhipckelaaGreatDoor
