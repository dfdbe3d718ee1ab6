import Derived.Test.YthadjmhipckelaaGreatDoorJILay
set_option linter.unusedVariables false
set_option linter.unusedSimpArgs false
namespace Go.Proofs.YthadjmhipckelaaGreatDoor
section
open Go.RowKit
attribute [local go_sem] Oper.semAt_some
def NewP (bs : List Nat) (size : Nat) (w : World) (e : Ending) (w' : World) : Prop :=
 Below w.heap.size w w' ∧ match newM bs with
  | .error E => e = .returned (.tuple #[rdV 0 0 (.slice none 0 0) (.slice none 0 0), .int .i64 (E : Nat)])
  | .ok i => if size < placeT i.ts then e = .returned (.tuple #[rdV 0 0 (.slice none 0 0) (.slice none 0 0), .int .i64 4])
    else if i.wrong = true then e = .returned (.tuple #[rdV 0 0 (.slice none 0 0) (.slice none 0 0), .int .i64 145])
    else ∃ (A1 A2 : Option Addr) (c1 c2 : Nat), e = .returned (.tuple #[rdV 2 i.last (.slice A1 i.words.length c1) (.slice A2 i.roots.length c2), .int .i64 0]) ∧
     Reads w' w'.heap.size 1 A1 i.words.length (u32s i.words) ∧ Reads w' w'.heap.size 1 A2 i.roots.length (u32s i.roots) ∧ ∀ a, A1 = some a ∨ A2 = some a → w.heap.size ≤ a.block
theorem NewP.err {bs : List Nat} {size E : Nat} {w w' : World} (hb : Below w.heap.size w w') (h : newM bs = .error E) : NewP bs size w (.returned (.tuple #[.agg #[.int .i64 0, .int .i64 0, .int .u32 0, .slice none 0 0, .slice none 0 0], .int .i64 (E : Nat)])) w' :=
 ⟨hb, by rw [h]; rfl⟩
structure PnS (w0 W : World) (L b4 b8 gp cp last : Nat) (vs : List Value) (ps : List (List Nat)) : Prop where
 res : Blk W b4 47 #[.int .i64 0, .int .i64 0, .int .u32 0, .slice none 0 0, .slice none 0 0]
 box : Blk W b8 47 #[.int .i64 2, .int .i64 0, .int .u32 last, .slice none 0 0, .slice none 0 0]
 row : Row W gp 22 cp vs
 pay : PayV W L vs ps
 fr : Below w0.heap.size w0 W
 h4 : w0.heap.size ≤ b4
 h8 : w0.heap.size ≤ b8
 hp : w0.heap.size ≤ gp
 hL : w0.heap.size ≤ L
section
variable {w0 W W' : World} {L b4 b8 gp cp last rg : Nat} {vs : List Value} {ps : List (List Nat)}
theorem PnS.read (S : PnS w0 W L b4 b8 gp cp last vs ps) (F : Fr1 rg W W') (h1 : b4 ≠ rg) (h2 : b8 ≠ rg) (h3 : gp ≠ rg) (h4 : L ≤ rg) (h5 : L ≤ W.heap.size) : PnS w0 W' L b4 b8 gp cp last vs ps :=
 ⟨S.res.fr1 F h1, S.box.fr1 F h2, S.row.same (F.same _ S.row.lt h3), S.pay.below (F.below h4 h5), ⟨F.os.trans S.fr.os, F.tape.trans S.fr.tape, F.output.trans S.fr.output, Nat.le_trans S.fr.size F.size, fun k hk => (F.same k (Nat.lt_of_lt_of_le hk S.fr.size) (by have := S.hL; omega)).trans (S.fr.block k hk)⟩, S.h4, S.h8, S.hp, S.hL⟩
theorem PnS.below (S : PnS w0 W L b4 b8 gp cp last vs ps) (h : Below W.heap.size W W') (h5 : L ≤ W.heap.size) : PnS w0 W' L b4 b8 gp cp last vs ps :=
 ⟨S.res.below h S.res.lt, S.box.below h S.box.lt, S.row.below h, S.pay.below (h.mono h5), below_top S.fr h, S.h4, S.h8, S.hp, S.hL⟩
theorem PnS.spares (S : PnS w0 W L b4 b8 gp cp last vs ps) (hs : Spares w0) : Spares W := hs.below S.fr
end
theorem PnS.setLast {w0 W : World} {L b4 b8 gp cp last : Nat} {vs : List Value} {ps : List (List Nat)} (S : PnS w0 W L b4 b8 gp cp last vs ps) (hLb : L ≤ b8) (v : Nat) : PnS w0 (W.setCell ⟨b8, 2, none⟩ (.int .u32 v)) L b4 b8 gp cp v vs ps := by
 have hfar : ∀ k, k ≠ b8 → (W.setCell ⟨b8, 2, none⟩ (.int .u32 v)).heap[k]? = W.heap[k]? := fun k h => Below.heap_setCell W ⟨b8, 2, none⟩ (.int .u32 v) k h
 have n48 : b4 ≠ b8 := fun e => by
  have h1 := S.res
  have h2 := S.box
  unfold Blk at h1 h2
  rw [e, h2] at h1
  injection h1 with h1
  injection h1 with h1 _
  simp at h1
 exact ⟨S.res.same (hfar _ n48), S.box.set_ 2 _, S.row.same (hfar _ (S.row.ne_blk S.box (by decide))), S.pay.below (Below.setCell (Below.refl _ _) (p := ⟨b8, 2, none⟩) hLb _), S.fr.setCell (p := ⟨b8, 2, none⟩) S.h8 _, S.h4, S.h8, S.hp, S.hL⟩
theorem partsM_err {bs : List Nat} {ps : List (List Nat)} (h : rdSecs [72, 79, 82, 90] bs = .ok (ps, [])) (hp : partsM (ps.getD 0 []) (ps.getD 1 []) (ps.getD 2 []) (ps.getD 3 []) = none) : newM bs = .error 143 := by
 unfold newM
 rw [h]
 simp only [ne_eq, not_true_eq_false, if_false, hp]
theorem partsM_ok {bs : List Nat} {ps : List (List Nat)} {i : Img} (h : rdSecs [72, 79, 82, 90] bs = .ok (ps, [])) (hp : partsM (ps.getD 0 []) (ps.getD 1 []) (ps.getD 2 []) (ps.getD 3 []) = some i) : newM bs = .ok i := by
 unfold newM
 rw [h]
 simp only [ne_eq, not_true_eq_false, if_false, hp]
def WrN (w : World) (B : Nat) (v : Value) (us : List Wr) : Prop := ∀ u ∈ us, Reads w w.heap.size 1 u.A u.fs.length (u32s u.fs) ∧ ∀ a, u.A = some a → B ≤ a.block ∧ (0 < u.fs.length → v.ownBlock ≠ some a.block)
theorem WrN.read {w w' : World} {B : Nat} {v : Value} {us : List Wr} (N : WrN w B v us) (hsz : w.heap.size ≤ w'.heap.size) (hk : ∀ q, q < w.heap.size → B ≤ q → w'.heap[q]? = w.heap[q]?) : WrN w' B v us := fun u hu => by
 obtain ⟨h1, h2⟩ := N u hu
 refine ⟨⟨h1.1, fun hn => ?_⟩, h2⟩
 obtain ⟨a, ha, hb, hc⟩ := h1.2 hn
 exact ⟨a, ha, by omega, fun j x hx => (World.cell?_of_block (a := a.add j) (by rw [block_of_add]; exact hk a.block hb (h2 a ha).1)).trans (hc j x hx)⟩
theorem reads_wr (w : World) (u : Wr) : Reads (w.alloc (.cells u.cells.toArray 132)) (w.heap.size + 1) 8 (some ⟨w.heap.size, 0, none⟩) 1 u.cells := by
 refine ⟨rfl, fun _ => ⟨_, rfl, by simp, fun j v hv => ?_⟩⟩
 rw [WideShapes.add_plain, Nat.zero_add]
 refine ((Blk.new w _ _).cell j).trans ?_
 rw [← hv]
 simp
theorem WrN.snoc {w9 w10 : World} {Bo lo : Nat} {v v10 : Value} {us : List Wr} {u : Wr} {o : Obj} (N : WrN w9 Bo v us) (hrx : Reads w9 w9.heap.size 1 u.A u.fs.length (u32s u.fs)) (hnx : ∀ a, u.A = some a → lo ≤ a.block) (hlo : Bo ≤ lo) (hol : ∀ q, v.ownBlock = some q → q < lo) {b12 : Nat} (hb : lo ≤ b12)
 (hg : (w9.alloc o).grownBy w10 v.ownBlock) (hat : v10.ownBlock = v.ownBlock ∨ v10.ownBlock = some (w9.alloc o).heap.size) : WrN w10 Bo v10 (us ++ [u]) := by
 have hs : ∀ q, q < w9.heap.size → v.ownBlock ≠ some q → w10.heap[q]? = w9.heap[q]? := fun q h1 h2 => (hg.block q (by simp; omega) (fun e => h2 (by first | exact e | exact e.symm))).trans (Below.heap_alloc w9 o q h1)
 have hsz : w9.heap.size ≤ w10.heap.size := Nat.le_trans (by simp) hg.size
 have key : ∀ x : Wr, Reads w9 w9.heap.size 1 x.A x.fs.length (u32s x.fs) → (∀ a, x.A = some a → Bo ≤ a.block ∧ (0 < x.fs.length → v.ownBlock ≠ some a.block)) → Reads w10 w10.heap.size 1 x.A x.fs.length (u32s x.fs) ∧ ∀ a, x.A = some a → Bo ≤ a.block ∧ (0 < x.fs.length → v10.ownBlock ≠ some a.block) := fun x h1 h2 => by
  refine ⟨⟨h1.1, fun hn => ?_⟩, fun a ha => ⟨(h2 a ha).1, fun hn e => ?_⟩⟩
  ·obtain ⟨a, ha, hbk, hc⟩ := h1.2 hn
   exact ⟨a, ha, by omega, fun j y hy => (World.cell?_of_block (a := a.add j) (by rw [block_of_add]; exact hs a.block hbk ((h2 a ha).2 hn))).trans (hc j y hy)⟩
  ·obtain ⟨a', ha', hbk, _⟩ := h1.2 hn
   rw [ha] at ha'
   injection ha' with ha'
   subst ha'
   rcases hat with e2 | e2
   ·exact (h2 a ha).2 hn (e2 ▸ e)
   ·rw [e2] at e
    injection e with e
    simp at e
    omega
 intro x hx
 rcases List.mem_append.1 hx with hx | hx
 ·obtain ⟨h1, h2⟩ := N x hx
  exact key x h1 h2
 ·rcases List.mem_singleton.1 hx with rfl
  exact key x hrx (fun a ha => ⟨Nat.le_trans hlo (hnx a ha), fun _ e => by have := hol _ e; have := hnx a ha; omega⟩)
theorem PnS.low {w0 W W' : World} {L b4 b8 gp cp last B : Nat} {vs : List Value} {ps : List (List Nat)} (S : PnS w0 W L b4 b8 gp cp last vs ps) (h1 : W'.os = W.os) (h2 : W'.tape = W.tape) (h3 : W'.output = W.output) (h4 : W.heap.size ≤ W'.heap.size) (hk : ∀ q, q < B → W'.heap[q]? = W.heap[q]?)
 (k4 : b4 < B) (k8 : b8 < B) (kp : gp < B) (kL : L ≤ B) : PnS w0 W' L b4 b8 gp cp last vs ps :=
 ⟨S.res.same (hk _ k4), S.box.same (hk _ k8), S.row.same (hk _ kp), ⟨S.pay.1, fun i p hp => by
   obtain ⟨A, c, a1, a2, a3, a4⟩ := S.pay.2 i p hp
   exact ⟨A, c, a1, a2, a3.keep (fun q hq => World.cell?_of_block (hk q.block (by omega))), a4⟩⟩, ⟨h1.trans S.fr.os, h2.trans S.fr.tape, h3.trans S.fr.output, Nat.le_trans S.fr.size h4, fun q hq => (hk q (by have := S.hL; omega)).trans (S.fr.block q hq)⟩, S.h4, S.h8, S.hp, S.hL⟩
theorem RdAt.low {w w' : World} {L rg c B : Nat} {A : Option Addr} {bs : List Nat} {bad : Bool} (R : RdAt w L rg A c bs bad) (hk : ∀ q, q < B → w'.heap[q]? = w.heap[q]?) (h : rg < B) : RdAt w' L rg A c bs bad :=
 ⟨R.box.same (hk _ h), R.cap, R.rd.keep (fun q hq => World.cell?_of_block (hk q.block (by have := R.far; omega))), R.far, R.b8⟩
theorem rdK_step {p2 b' b10 rts : List Nat} {k n10 : Nat} {bad d10 : Bool} (h : (bad = false → rdK k p2 = some (rts, b')) ∧ ((∃ q, rdK k p2 = some q) → bad = false)) (D : Rdd bad (rdNum b') n10 b10 d10) :
 (d10 = false → rdK (k + 1) p2 = some (rts ++ [n10], b10)) ∧ ((∃ q, rdK (k + 1) p2 = some q) → d10 = false) := by
 refine ⟨fun e => ?_, fun ⟨q, hq⟩ => ?_⟩
 ·obtain ⟨e1, e2⟩ := D.1 e
  rw [rdK_snoc _ _ _ _ (h.1 e1), e2]
 ·have hk : ∃ q, rdK k p2 = some q := by
   cases hh : rdK k p2 with
   | some q => exact ⟨q, rfl⟩
   | none => rw [rdK_stop (k + 1) k p2 hh (by omega)] at hq; cases hq
  have hb := h.2 hk
  rw [rdK_snoc _ _ _ _ (h.1 hb)] at hq
  cases hn : rdNum b' with
  | none => rw [hn] at hq; cases hq
  | some r => exact D.2 hb ⟨r, hn⟩
theorem own_sameI' {w w' : World} {base s n : Nat} {e : TypeId} {v : Value} {xs : List Value} (h : w.ownsRow base e s v n xs) (hs : ∀ k, v.ownBlock = some k → w'.heap[k]? = w.heap[k]?) : w'.ownsRow base e s v n xs := own_sameI h hs
theorem head_err {p0 p1 p2 p3 q4 q6 : List Nat} {la many : Nat} {d4 d6 : Bool} (D4 : Rdd false (rdNum p0) la q4 d4) (D6 : Rdd d4 (rdNum q4) many q6 d6) (h : d6 = true ∨ q6 ≠ []) : partsM p0 p1 p2 p3 = none := by
 unfold partsM
 cases d4 with
 | true =>
   have h1 : rdNum p0 = none := by
    cases hh : rdNum p0 with
    | none => rfl
    | some q => have := D4.2 rfl ⟨q, hh⟩; cases this
   rw [h1]
 | false =>
   rw [(D4.1 rfl).2]
   simp only
   cases d6 with
   | true =>
     have h1 : rdNum q4 = none := by
      cases hh : rdNum q4 with
      | none => rfl
      | some q => have := D6.2 rfl ⟨q, hh⟩; cases this
     rw [h1]
   | false =>
     rw [(D6.1 rfl).2]
     simp only
     rcases h with h | h
     ·cases h
     ·rw [if_pos h]
theorem rows_lay {w : World} {base n : Nat} {v : Value} {us : List Wr} (O : w.ownsRow base 132 8 v n (wrL us)) (hul : us.length = n) :
 ∃ A c g, v = .slice A us.length c ∧ base ≤ g ∧ (0 < us.length → A = some ⟨g, 0, none⟩ ∧ Wrs w g us ∧ v.ownBlock = some g) ∧ (us.length = 0 → g = base) := by
 by_cases h0 : 0 < n
 ·obtain ⟨g, c, rfl, h1, h2⟩ := own_wrs O hul h0
  exact ⟨_, c, g, by rw [hul], h2, fun _ => ⟨rfl, h1, rfl⟩, fun h => by omega⟩
 ·have hn : n = 0 := by omega
  rcases O.2 with ⟨rfl, _⟩ | ⟨g, cap, cur, rfl, _⟩
  ·exact ⟨none, 0, base, by rw [hul, hn], Nat.le_refl _, fun h => by omega, fun _ => rfl⟩
  ·exact ⟨some ⟨g, 0, none⟩, cap, base, by rw [hul], Nat.le_refl _, fun h => by omega, fun _ => rfl⟩
theorem parts_end {p0 p1 p2 p3 q4 bs' b' rts : List Nat} {ts : List Th} {la many : Nat} {bad : Bool} (h0 : rdNum p0 = some (la, q4)) (h1 : rdNum q4 = some (many, [])) (h2 : rdObjs many p1 = some (ts, bs'))
 (K : (bad = false → rdK 64 p2 = some (rts, b')) ∧ ((∃ q, rdK 64 p2 = some q) → bad = false)) :
 ((bs' ≠ [] ∨ bad = true ∨ b' ≠ [] ∨ p3 ≠ []) → partsM p0 p1 p2 p3 = none) ∧ (bs' = [] → bad = false → b' = [] → p3 = [] → partsM p0 p1 p2 p3 = some ⟨ts, rts, la⟩) := by
 have e : partsM p0 p1 p2 p3 = if bs' ≠ [] then none else match rdK 64 p2 with
  | none => none
  | some (rts, q2) => if q2 ≠ [] ∨ p3 ≠ [] then none else some ⟨ts, rts, la⟩ := by
  unfold partsM
  rw [h0]
  simp only
  rw [h1]
  simp only
  rw [if_neg (by simp), h2]
  rfl
 rw [e]
 refine ⟨fun h => ?_, fun a b c d => ?_⟩
 ·by_cases hb : bs' = []
  ·rw [if_neg (by simpa using hb)]
   cases bad with
   | true =>
     cases hr : rdK 64 p2 with
     | none => rfl
     | some q => have := K.2 ⟨q, hr⟩; cases this
   | false =>
     rw [K.1 rfl]
     simp only
     rw [if_pos]
     rcases h with h | h | h
     ·exact absurd hb h
     ·cases h
     ·exact h
  ·rw [if_pos hb]
 ·subst a b
  rw [if_neg (by simp), K.1 rfl]
  simp only
  rw [if_neg]
  rintro (h | h)
  ·exact h c
  ·exact h d
theorem NewP.of {bs : List Nat} {size : Nat} {w w' : World} {e : Ending} {i : Img} (hb : Below w.heap.size w w') (h : newM bs = .ok i)
 (hc : if size < placeT i.ts then e = .returned (.tuple #[rdV 0 0 (.slice none 0 0) (.slice none 0 0), .int .i64 4])
   else if i.wrong = true then e = .returned (.tuple #[rdV 0 0 (.slice none 0 0) (.slice none 0 0), .int .i64 145])
   else ∃ (A1 A2 : Option Addr) (c1 c2 : Nat), e = .returned (.tuple #[rdV 2 i.last (.slice A1 i.words.length c1) (.slice A2 i.roots.length c2), .int .i64 0]) ∧
    Reads w' w'.heap.size 1 A1 i.words.length (u32s i.words) ∧ Reads w' w'.heap.size 1 A2 i.roots.length (u32s i.roots) ∧ ∀ a, A1 = some a ∨ A2 = some a → w.heap.size ≤ a.block) : NewP bs size w e w' :=
 ⟨hb, by rw [h]; exact hc⟩
theorem rdSec_err {t : Nat} {b : List Nat} {E : Nat} (h : rdSec t b = .error E) : E ≠ 0 := by
 unfold rdSec at h
 split at h
 ·cases h; decide
 ·split at h
  ·cases h; decide
  ·split at h
   ·cases h; decide
   ·split at h
    ·cases h; decide
    ·split at h
     ·cases h
     ·cases h; decide
theorem rdSecs_err : ∀ {ts b : List Nat} {E : Nat}, rdSecs ts b = .error E → E ≠ 0
 | [], b, E, h => by cases h
 | t :: ts, b, E, h => by
   unfold rdSecs at h
   split at h
   ·rename_i e he
    cases h
    exact rdSec_err he
   ·split at h
    ·rename_i he
     cases h
     exact rdSecs_err he
    ·cases h
theorem rdSec_len {t : Nat} {b p r : List Nat} (h : rdSec t b = .ok (p, r)) : p.length + r.length ≤ b.length := by
 unfold rdSec at h
 split at h
 ·cases h
 ·rename_i x b1
  split at h
  ·cases h
  ·split at h
   ·cases h
   ·rename_i n b2 hn
    obtain ⟨_, h2, _⟩ := rdNum_lt hn
    split at h
    ·cases h
    ·split at h
     ·cases h
      simp only [List.length_take, List.length_drop, List.length_cons]
      omega
     ·cases h
theorem rdSecs_len1 : ∀ {ts b : List Nat} {ps : List (List Nat)} {r : List Nat}, rdSecs ts b = .ok (ps, r) → ∀ p ∈ ps, p.length ≤ b.length
 | [], b, ps, r, h => by cases h; exact fun p hp => by cases hp
 | t :: ts, b, ps, r, h => by
   unfold rdSecs at h
   split at h
   ·cases h
   ·rename_i p q hq
    split at h
    ·cases h
    ·rename_i ps' r' h2
     cases h
     have h3 := rdSec_len hq
     have h4 := rdSecs_len1 h2
     intro p' hp'
     rcases List.mem_cons.1 hp' with rfl | hp'
     ·omega
     ·have := h4 p' hp'; omega
theorem rdSecs_len {b : List Nat} {p0 p1 p2 p3 r : List Nat} (h : rdSecs [72, 79, 82, 90] b = .ok ([p0, p1, p2, p3], r)) (_ : ∀ x ∈ b, x < 256) : p0.length ≤ b.length ∧ p1.length ≤ b.length ∧ p2.length ≤ b.length := by
 have h1 := rdSecs_len1 h
 exact ⟨h1 p0 (by simp), h1 p1 (by simp), h1 p2 (by simp)⟩
set_option maxRecDepth 100000 in
set_option maxHeartbeats 8000000 in
theorem parseNew_any {w : World} {A : Option Addr} {n c : Nat} {bs : List Nat} {size : Nat} (hs : Spares w) (hr : Reads w w.heap.size 1 A n (u8c bs)) (hc : n ≤ c) (hn : n ≤ 9000000) (h8 : ∀ x ∈ bs, x < 256) (hsize : size ≤ 1048576) :
 Calls Tryz.prog 33 #[.slice A n c, .int .i64 size] w (NewP bs size w) := by
 have hbl : bs.length = n := by have := hr.1; rw [u8c_len] at this; omega
 have hb0 := (Below.refl w.heap.size w).alloc (Nat.le_refl _) (.cells #[.int .i64 0, .int .i64 0, .int .u32 0, .slice none 0 0, .slice none 0 0] 47)
 have HSC := Lib.hid (sections_any (w := w.alloc (.cells #[.int .i64 0, .int .i64 0, .int .u32 0, .slice none 0 0, .slice none 0 0] 47)) (c := c) ((hr.below hb0).more hb0.size) hc hn h8)
 have HB0 := Lib.hid hb0
 have HB4 := Lib.hid (Blk.new w 47 #[.int .i64 0, .int .i64 0, .int .u32 0, .slice none 0 0, .slice none 0 0])
 have HSP := Lib.hid hs
 have hsz0 : (w.alloc (.cells #[.int .i64 0, .int .i64 0, .int .u32 0, .slice none 0 0, .slice none 0 0] 47)).heap.size = w.heap.size + 1 := by simp
 clear hr hb0 hs
 go_enter Tryz.func33, Tryz.ntmps33
 go_wp2_with fail
 generalize w.alloc (.cells #[.int .i64 0, .int .i64 0, .int .u32 0, .slice none 0 0, .slice none 0 0] 47) = W0 at *
 refine HSC.out.mono ?_
 rintro e w1 ⟨hb1, hm⟩
 have HF1 := Lib.hid (below_top HB0.out hb1)
 have HZ1 := Lib.hid (HB4.out.below hb1 HB4.out.lt)
 clear HSC
 cases hsec : rdSecs [72, 79, 82, 90] bs with
 | error E =>
   rw [hsec] at hm
   simp only at hm
   subst hm
   have hE : E ≠ 0 := rdSecs_err hsec
   have he : ((E : Int) != 0) = true := by simp; omega
   have HNM := Lib.hid (show newM bs = .error E from by unfold newM; rw [hsec])
   clear hsec hE HB0 HB4 hb1
   have z0 := HZ1.out.frozen 0
   have z1 := HZ1.out.frozen 1
   have z2 := HZ1.out.frozen 2
   have z3 := HZ1.out.frozen 3
   have z4 := HZ1.out.frozen 4
   have d0 := HZ1.out.cell 0
   have d1 := HZ1.out.cell 1
   have d2 := HZ1.out.cell 2
   have d3 := HZ1.out.cell 3
   have d4 := HZ1.out.cell 4
   have HZ5 := Lib.hid (HZ1.out.setAll5 (.int .i64 0) (.int .i64 0) (.int .u32 0) (.slice none 0 0) (.slice none 0 0))
   have HFB := Lib.hid (below5 HF1.out (g := w.heap.size) (by omega) (.int .i64 0) (.int .i64 0) (.int .u32 0) (.slice none 0 0) (.slice none 0 0))
   go_wp2_with fail
   generalize (((((w1.setCell ⟨w.heap.size, 0, none⟩ (.int .i64 0)).setCell ⟨w.heap.size, 1, none⟩ (.int .i64 0)).setCell ⟨w.heap.size, 2, none⟩ (.int .u32 0)).setCell ⟨w.heap.size, 3, none⟩ (.slice none 0 0)).setCell ⟨w.heap.size, 4, none⟩ (.slice none 0 0)) = WF at *
   clear z0 d0 z1 d1 z2 d2 z3 d3 z4 d4
   have f0 := HZ5.out.cell 0
   have f1 := HZ5.out.cell 1
   have f2 := HZ5.out.cell 2
   have f3 := HZ5.out.cell 3
   have f4 := HZ5.out.cell 4
   refine bodyPost_ret (v := .tuple #[.agg #[.int .i64 0, .int .i64 0, .int .u32 0, .slice none 0 0, .slice none 0 0], .int .i64 (E : Nat)]) (by simp [results, Tryz.results33, go_sem, f0, f1, f2, f3, f4]) rfl ?_
   exact NewP.err HFB.out HNM.out
 | ok q =>
   obtain ⟨ps, rest⟩ := q
   rw [hsec] at hm
   simp only at hm
   by_cases hrest : rest = []
   ·subst hrest
    rw [if_pos rfl] at hm
    obtain ⟨vp, vs, rfl, hown, hpay, hpl⟩ := hm
    obtain ⟨gp, cp, rfl, hrow, -, hgp⟩ := Row.of_any hown (by omega)
    match ps, hpl with
    | [p0, p1, p2, p3], _ =>
      obtain ⟨A0, c0, v0, k0, r0, y0⟩ := hpay.2 0 p0 rfl
      obtain ⟨A1, c1, v1, k1, r1, y1⟩ := hpay.2 1 p1 rfl
      obtain ⟨A2, c2, v2, k2, r2, y2⟩ := hpay.2 2 p2 rfl
      obtain ⟨A3, c3, v3, k3, r3, y3⟩ := hpay.2 3 p3 rfl
      have hpb := rdSecs_len hsec h8
      have hL1 : W0.heap.size ≤ w1.heap.size := hb1.size
      have hb2 : Below w1.heap.size w1 (w1.alloc (.cells #[.int .i64 2, .int .i64 0, .int .u32 0, .slice none 0 0, .slice none 0 0] 47)) := (Below.refl _ _).alloc (Nat.le_refl _) _
      have HP2 := Lib.hid (show PnS w (w1.alloc (.cells #[.int .i64 2, .int .i64 0, .int .u32 0, .slice none 0 0, .slice none 0 0] 47)) W0.heap.size w.heap.size w1.heap.size gp cp 0 vs [p0, p1, p2, p3] from
       ⟨HZ1.out.below hb2 HZ1.out.lt, Blk.new w1 _ _, hrow.below hb2, hpay.below (hb2.mono hL1), below_top HF1.out hb2, Nat.le_refl _, by omega, by omega, by omega⟩)
      have HV := Lib.hid (show vs[0]? = some (.slice A0 p0.length c0) ∧ vs[1]? = some (.slice A1 p1.length c1) ∧ vs[2]? = some (.slice A2 p2.length c2) ∧ vs[3]? = some (.slice A3 p3.length c3) from ⟨v0, v1, v2, v3⟩)
      have HK := Lib.hid (show p0.length ≤ c0 ∧ p1.length ≤ c1 ∧ p2.length ≤ c2 ∧ p3.length ≤ c3 from ⟨k0, k1, k2, k3⟩)
      have HY := Lib.hid (show (∀ x ∈ p0, x < 256) ∧ (∀ x ∈ p1, x < 256) ∧ (∀ x ∈ p2, x < 256) from ⟨y0, y1, y2⟩)
      have HRD := Lib.hid (fun (W' : World) (h : PayV W' W0.heap.size vs [p0, p1, p2, p3]) => show Reads W' W0.heap.size 1 A0 p0.length (u8c p0) ∧ Reads W' W0.heap.size 1 A1 p1.length (u8c p1) ∧ Reads W' W0.heap.size 1 A2 p2.length (u8c p2) from by
       obtain ⟨a0, d0, e0, _, f0, _⟩ := h.2 0 p0 rfl
       obtain ⟨a1, d1, e1, _, f1, _⟩ := h.2 1 p1 rfl
       obtain ⟨a2, d2, e2, _, f2, _⟩ := h.2 2 p2 rfl
       rw [v0] at e0; rw [v1] at e1; rw [v2] at e2
       injection e0 with e0; injection e1 with e1; injection e2 with e2
       injection e0 with e0 _ _; injection e1 with e1 _ _; injection e2 with e2 _ _
       exact ⟨by rw [e0]; exact f0, by rw [e1]; exact f1, by rw [e2]; exact f2⟩)
      have HER := Lib.hid (show partsM p0 p1 p2 p3 = none → newM bs = .error 143 from fun h => partsM_err hsec h)
      have HOKM := Lib.hid (fun i => show partsM p0 p1 p2 p3 = some i → newM bs = .ok i from fun h => partsM_ok hsec h)
      clear v0 v1 v2 v3 k0 k1 k2 k3 y0 y1 y2 y3 r0 r1 r2 r3 hsec hown hpay hrow HZ1 HF1 HB0 HB4 hb1 hb2
      go_upto_region 5 with fail
      generalize w1.alloc (.cells #[.int .i64 2, .int .i64 0, .int .u32 0, .slice none 0 0, .slice none 0 0] 47) = W2 at *
      have hb8 : w1.heap.size < W2.heap.size := HP2.out.box.lt
      generalize hb8g : w1.heap.size = b8 at *
      clear hb8g
      generalize hLg : W0.heap.size = L at *
      have hLw : w.heap.size < L := by omega
      clear hLg hsz0
      have q0 := HP2.out.row.cell HV.out.1
      have hLW : L ≤ W2.heap.size := by omega
      have hgW : gp < W2.heap.size := HP2.out.row.lt
      have h4W : w.heap.size < W2.heap.size := HP2.out.res.lt
      have hb3 : Below W2.heap.size W2 (W2.alloc (.cells #[.slice A0 p0.length c0, .bool false] 129)) := (Below.refl _ _).alloc (Nat.le_refl _) _
      have HR3 := Lib.hid (show RdAt (W2.alloc (.cells #[.slice A0 p0.length c0, .bool false] 129)) L W2.heap.size A0 c0 p0 false from
       ⟨Blk.new W2 _ _, HK.out.1, ((HRD.out W2 HP2.out.pay).1).below (hb3.mono hLW), hLW, HY.out.1⟩)
      have HP3 := Lib.hid (HP2.out.below hb3 hLW)
      clear HP2 hb3
      go_upto_region 6 with fail
      clear q0
      have hW23 : W2.heap.size < (W2.alloc (.cells #[.slice A0 p0.length c0, .bool false] 129)).heap.size := by simp
      generalize W2.alloc (.cells #[.slice A0 p0.length c0, .bool false] 129) = W3 at *
      generalize W2.heap.size = g1 at *
      have HN := Lib.hid (rnumberI_any HR3.out (by omega))
      go_wp2_with fail
      refine HN.out.mono ?_
      rintro e w4 ⟨la, A4, c4, q4, d4, rfl, hla, R4, F4, D4, e4, he4⟩
      have HD4 := Lib.hid D4
      have HP4 := Lib.hid (HP3.out.read F4 (by omega) (by omega) (by omega) hLW (by omega))
      have hl4 : q4.length ≤ 9000000 := by have := hpb.1; rw [he4, List.length_append] at this; omega
      have HR4 := Lib.hid R4
      have hg4 : g1 < w4.heap.size := R4.box.lt
      clear HN R4 F4 D4 he4 HR3 HP3
      have c2 := HP4.out.box.cell 2
      have y2 := HP4.out.box.frozen 2
      have HP5 := Lib.hid (HP4.out.setLast hL1 la)
      have HR5 := Lib.hid (HR4.out.set (g := b8) (i := 2) (v := .int .u32 la) (by omega) hL1)
      clear HP4 HR4
      go_upto_region 7 with fail
      clear c2 y2
      have hg5 : g1 < (w4.setCell ⟨b8, 2, none⟩ (.int .u32 (la : Int))).heap.size := by simp [World.setCell]; exact hg4
      generalize w4.setCell ⟨b8, 2, none⟩ (.int .u32 (la : Int)) = W5 at *
      have HN := Lib.hid (rnumberI_any HR5.out hl4)
      go_wp2_with fail
      refine HN.out.mono ?_
      rintro e w6 ⟨many, A6, c6, q6, d6, rfl, hmany, R6, F6, D6, e6, he6⟩
      have HD6 := Lib.hid D6
      have HP6 := Lib.hid (HP5.out.read F6 (by omega) (by omega) (by omega) hLW (by omega))
      have HR6 := Lib.hid R6
      have r0 := R6.box.cell 0
      have r1 := R6.box.cell 1
      clear HN R6 F6 D6 he6 HR5 HP5
      cases d6 with
      | true =>
        have HNM := Lib.hid (show newM bs = .error 143 from HER.out (head_err HD4.out HD6.out (.inl rfl)))
        have HZ6 := Lib.hid HP6.out.res
        have HF6 := Lib.hid HP6.out.fr
        clear HP6 HR6 HER HOKM HRD
        have z0 := HZ6.out.frozen 0
        have z1 := HZ6.out.frozen 1
        have z2 := HZ6.out.frozen 2
        have z3 := HZ6.out.frozen 3
        have z4 := HZ6.out.frozen 4
        have d0 := HZ6.out.cell 0
        have d1 := HZ6.out.cell 1
        have d2 := HZ6.out.cell 2
        have d3 := HZ6.out.cell 3
        have d4 := HZ6.out.cell 4
        have HZ5 := Lib.hid (HZ6.out.setAll5 (.int .i64 0) (.int .i64 0) (.int .u32 0) (.slice none 0 0) (.slice none 0 0))
        have HFB := Lib.hid (below5 HF6.out (g := w.heap.size) (by omega) (.int .i64 0) (.int .i64 0) (.int .u32 0) (.slice none 0 0) (.slice none 0 0))
        go_wp2_with fail
        generalize (((((w6.setCell ⟨w.heap.size, 0, none⟩ (.int .i64 0)).setCell ⟨w.heap.size, 1, none⟩ (.int .i64 0)).setCell ⟨w.heap.size, 2, none⟩ (.int .u32 0)).setCell ⟨w.heap.size, 3, none⟩ (.slice none 0 0)).setCell ⟨w.heap.size, 4, none⟩ (.slice none 0 0)) = WF at *
        clear z0 d0 z1 d1 z2 d2 z3 d3 z4 d4
        have f0 := HZ5.out.cell 0
        have f1 := HZ5.out.cell 1
        have f2 := HZ5.out.cell 2
        have f3 := HZ5.out.cell 3
        have f4 := HZ5.out.cell 4
        refine bodyPost_ret (v := .tuple #[.agg #[.int .i64 0, .int .i64 0, .int .u32 0, .slice none 0 0, .slice none 0 0], .int .i64 143]) (by simp [results, Tryz.results33, go_sem, f0, f1, f2, f3, f4]) rfl ?_
        exact NewP.err HFB.out HNM.out
      | false =>
        obtain ⟨hd4, h6⟩ := HD6.out.1 rfl
        obtain ⟨_, h4⟩ := HD4.out.1 hd4
        have r0' : w6.cell? ⟨g1, 0, none⟩ = some (.slice A6 q6.length c6) := r0
        obtain ⟨lq, hlq⟩ : ∃ l, l = q6.length := ⟨_, rfl⟩
        rw [← hlq] at r0'
        have HLQ := Lib.hid hlq
        clear hlq r0
        by_cases hq6 : lq = 0
        ·have hd0 : decide (0 < (lq : Int)) = false := decide_eq_false (by omega)
         have hq0 : q6 = [] := List.eq_nil_of_length_eq_zero (by rw [← HLQ.out]; exact hq6)
         have HH1 := Lib.hid (show rdNum p0 = some (la, q4) ∧ rdNum q4 = some (many, []) from ⟨h4, by rw [h6, hq0]⟩)
         clear h4 h6 hd4 HD4 HD6 hq0
         go_upto_region 10 with fail
         clear r0' r1 HR6 HLQ
         have hLW6 : L ≤ w6.heap.size := by have := HP6.out.row.lt; omega
         have hgW6 : gp < w6.heap.size := HP6.out.row.lt
         have h4W6 : w.heap.size < w6.heap.size := HP6.out.res.lt
         have h8W6 : b8 < w6.heap.size := HP6.out.box.lt
         have q1 := HP6.out.row.cell HV.out.2.1
         have hb7 : Below w6.heap.size w6 (w6.alloc (.cells #[.slice A1 p1.length c1, .bool false] 129)) := (Below.refl _ _).alloc (Nat.le_refl _) _
         have HR7 := Lib.hid (show RdAt (w6.alloc (.cells #[.slice A1 p1.length c1, .bool false] 129)) L w6.heap.size A1 c1 p1 false from
          ⟨Blk.new w6 _ _, HK.out.2.1, ((HRD.out w6 HP6.out.pay).2.1).below (hb7.mono hLW6), hLW6, HY.out.2.1⟩)
         have HP7 := Lib.hid (HP6.out.below hb7 hLW6)
         clear HP6 hb7
         go_upto_region 11 with fail
         clear q1
         have hW67 : w6.heap.size < (w6.alloc (.cells #[.slice A1 p1.length c1, .bool false] 129)).heap.size := by simp
         generalize w6.alloc (.cells #[.slice A1 p1.length c1, .bool false] 129) = W7 at *
         generalize w6.heap.size = g2 at *
         have hsp : 0 < L := by have := World.block_lt_of_cell? _ _ (HSP.out 0 (by omega)); omega
         obtain ⟨i0, hi0, hz0, hz1, hz2⟩ := info_parts info_wr
         go_wp2_with fail
         go_loopw [11, 54] (fun v i wr => ∃ (k : Nat) (us : List Wr) (A' : Option Addr) (c' : Nat) (bs' : List Nat), i = .int .u32 k ∧ k ≤ many ∧ PnS w wr L w.heap.size b8 gp cp la vs [p0, p1, p2, p3] ∧ RdAt wr L g2 A' c' bs' false ∧ wr.ownsRow W7.heap.size 132 8 v k (wrL us) ∧ WrN wr W7.heap.size v us ∧ rdObjs k p1 = some (us.map Wr.th, bs') ∧ W7.heap.size ≤ wr.heap.size) (fun _ i _ => many - (intOf i).toNat)
         case atStart => exact ⟨0, [], A1, c1, p1, rfl, Nat.zero_le _, HP7.out, HR7.out, ⟨rfl, .inl ⟨rfl, rfl⟩⟩, fun u hu => (by cases hu), rfl, Nat.le_refl _⟩
         case round =>
          clear HP7 HR7
          obtain ⟨k, us, A', c', bs', rfl, hk, P, R, O, N, K, hW⟩ := hrel
          obtain ⟨hkl, hkok, hkb, dk, hdk⟩ := rdObjs_ok _ _ _ _ K HY.out.2.1
          have hul : us.length = k := by rw [List.length_map] at hkl; exact hkl
          have hbl : bs'.length ≤ 9000000 := by omega
          have hkn9 : k ≤ 2250000 := by omega
          have HUL := Lib.hid hul
          have HKO := Lib.hid hkok
          have HKB := Lib.hid hkb
          clear hdk hul hkl hkok hkb
          have HP := Lib.hid P
          have HR := Lib.hid R
          have HO := Lib.hid O
          have HN := Lib.hid N
          have HK2 := Lib.hid K
          by_cases hkm : k < many
          ·have hd : decide ((k : Int) < (many : Int)) = true := by simp; omega
           have HOB := Lib.hid (objectR_any R hbl (P.spares HSP.out) hsp)
           clear P R O N K
           go_wp2_with fail
           refine HOB.out.mono ?_
           rintro e w8 ⟨v8, A8, c8, bs8, bad8, rfl, hv8, R8, F8, hbad, hgood⟩
           have HFS := Lib.hid F8.size
           have HOL := Lib.hid (show ∀ q, u11.ownBlock = some q → q < wr.heap.size from fun q hq => (HO.out.lt q hq).2)
           have HP8 := Lib.hid (HP.out.read F8 (by omega) (by omega) (by omega) hLW6 (by omega))
           have HO8 := Lib.hid (own_sameI' HO.out (fun q hq => F8.same q (HO.out.lt q hq).2 (by have := (HO.out.lt q hq).1; omega)))
           have HN8 := Lib.hid (HN.out.read (w' := w8) F8.size (fun q h1 h2 => F8.same q h1 (by omega)))
           have hW8 : W7.heap.size ≤ w8.heap.size := Nat.le_trans hW F8.size
           clear HOB HP HO HN
           have rr1 := R8.box.cell 1
           have HR8 := Lib.hid R8
           clear R8 F8
           cases bad8 with
           | true =>
             obtain ⟨x8, Af, nf, cf, rfl⟩ := hv8
             have hno := hbad rfl
             have HNM := Lib.hid (show newM bs = .error 143 from HER.out (by
              have h1 := rdObjs_snoc _ _ _ _ HK2.out
              rw [hno] at h1
              unfold partsM
              rw [HH1.out.1]; simp only
              rw [HH1.out.2]; simp only
              rw [if_neg (by simp), rdObjs_stop many (k + 1) p1 h1 (by omega)]))
             clear hbad hgood hno HER HOKM HRD HK2 HN8 HO8 HR
             unfold wrV wrC
             have hb9 : Below w8.heap.size w8 (w8.alloc (.cells #[.int .i64 x8.size, .int .i64 x8.fmt, .int .i64 x8.spare, .int .u32 0, .int .u32 x8.ser, .int .u32 x8.cls, .slice Af nf cf, .int .i64 ((0 : Nat) : Int)] 132)) := (Below.refl _ _).alloc (Nat.le_refl _) _
             have HP9 := Lib.hid (HP8.out.below hb9 (by omega))
             have rr1 := (HR8.out.below hb9).box.cell 1
             clear hb9 HP8 HR8
             go_upto_region 15 with fail
             generalize w8.alloc (.cells #[.int .i64 x8.size, .int .i64 x8.fmt, .int .i64 x8.spare, .int .u32 0, .int .u32 x8.ser, .int .u32 x8.cls, .slice Af nf cf, .int .i64 ((0 : Nat) : Int)] 132) = w9 at *
             have HZ9 := Lib.hid HP9.out.res
             have HF9 := Lib.hid HP9.out.fr
             clear HP9
             have z0 := HZ9.out.frozen 0
             have z1 := HZ9.out.frozen 1
             have z2 := HZ9.out.frozen 2
             have z3 := HZ9.out.frozen 3
             have z4 := HZ9.out.frozen 4
             have d0 := HZ9.out.cell 0
             have d1 := HZ9.out.cell 1
             have d2 := HZ9.out.cell 2
             have d3 := HZ9.out.cell 3
             have d4 := HZ9.out.cell 4
             have HZ5 := Lib.hid (HZ9.out.setAll5 (.int .i64 0) (.int .i64 0) (.int .u32 0) (.slice none 0 0) (.slice none 0 0))
             have HFB := Lib.hid (below5 HF9.out (g := w.heap.size) (by omega) (.int .i64 0) (.int .i64 0) (.int .u32 0) (.slice none 0 0) (.slice none 0 0))
             go_wp2_with fail
             generalize (((((w9.setCell ⟨w.heap.size, 0, none⟩ (.int .i64 0)).setCell ⟨w.heap.size, 1, none⟩ (.int .i64 0)).setCell ⟨w.heap.size, 2, none⟩ (.int .u32 0)).setCell ⟨w.heap.size, 3, none⟩ (.slice none 0 0)).setCell ⟨w.heap.size, 4, none⟩ (.slice none 0 0)) = WF at *
             clear z0 d0 z1 d1 z2 d2 z3 d3 z4 d4
             have f0 := HZ5.out.cell 0
             have f1 := HZ5.out.cell 1
             have f2 := HZ5.out.cell 2
             have f3 := HZ5.out.cell 3
             have f4 := HZ5.out.cell 4
             refine bodyPost_ret (v := .tuple #[.agg #[.int .i64 0, .int .i64 0, .int .u32 0, .slice none 0 0, .slice none 0 0], .int .i64 143]) (by simp [results, Tryz.results33, go_sem, f0, f1, f2, f3, f4]) rfl ?_
             exact NewP.err HFB.out HNM.out
           | false =>
             obtain ⟨t, hobj, Ax, cx, rfl, hrx, hnx⟩ := hgood rfl
             have HOBJ := Lib.hid hobj
             clear hv8 hbad hgood hobj
             unfold wrV wrC
             have hb9 : Below w8.heap.size w8 (w8.alloc (.cells #[.int .i64 t.x.size, .int .i64 t.x.fmt, .int .i64 t.x.spare, .int .u32 0, .int .u32 t.x.ser, .int .u32 t.x.cls, .slice Ax t.fs.length cx, .int .i64 ((0 : Nat) : Int)] 132)) := (Below.refl _ _).alloc (Nat.le_refl _) _
             have B9 := Blk.new w8 132 #[.int .i64 t.x.size, .int .i64 t.x.fmt, .int .i64 t.x.spare, .int .u32 0, .int .u32 t.x.ser, .int .u32 t.x.cls, .slice Ax t.fs.length cx, .int .i64 ((0 : Nat) : Int)]
             have HP9 := Lib.hid (HP8.out.below hb9 (by omega))
             have HR9 := Lib.hid (HR8.out.below hb9)
             have HO9 := Lib.hid (own_sameI' HO8.out (fun q hq => hb9.block q (HO8.out.lt q hq).2))
             have HN9 := Lib.hid (HN8.out.read hb9.size (fun q h1 _ => hb9.block q h1))
             have hrx9 := (hrx.below hb9).more hb9.size
             have HNX := Lib.hid (show ∀ a, Ax = some a → wr.heap.size ≤ a.block from hnx)
             have HRX := Lib.hid hrx9
             have hW9 : W7.heap.size ≤ (w8.alloc (.cells #[.int .i64 t.x.size, .int .i64 t.x.fmt, .int .i64 t.x.spare, .int .u32 0, .int .u32 t.x.ser, .int .u32 t.x.cls, .slice Ax t.fs.length cx, .int .i64 ((0 : Nat) : Int)] 132)).heap.size := Nat.le_trans hW8 hb9.size
             have hwr9 : wr.heap.size ≤ w8.heap.size := HFS.out
             have rr1 := HR9.out.box.cell 1
             clear hb9 HP8 HR8 HO8 HN8 hrx hnx hrx9 HR hW8
             go_upto_region 15 with fail
             generalize w8.alloc (.cells #[.int .i64 t.x.size, .int .i64 t.x.fmt, .int .i64 t.x.spare, .int .u32 0, .int .u32 t.x.ser, .int .u32 t.x.cls, .slice Ax t.fs.length cx, .int .i64 ((0 : Nat) : Int)] 132) = w9 at *
             generalize w8.heap.size = b12 at *
             have o0 := B9.cell 0
             have o1 := B9.cell 1
             have o2 := B9.cell 2
             have o3 := B9.cell 3
             have o4 := B9.cell 4
             have o5 := B9.cell 5
             have o6 := B9.cell 6
             have o7 := B9.cell 7
             clear B9
             have hbA : Below w9.heap.size w9 (w9.alloc (.cells #[.int .i64 t.x.size, .int .i64 t.x.fmt, .int .i64 t.x.spare, .int .u32 0, .int .u32 t.x.ser, .int .u32 t.x.cls, .slice Ax t.fs.length cx, .int .i64 0] 132)) := (Below.refl _ _).alloc (Nat.le_refl _) _
             have HOA := Lib.hid (own_sameI' HO9.out (fun q hq => hbA.block q (HO9.out.lt q hq).2))
             go_wp2_with (at_builtin; refine wpList_append_any _ rfl (.tmp 63) (.tmp 65) _ rfl W7.heap.size 132 i0 _ 8 72 Tryz.underlying130 hi0 hz0 hz1 hz2 rfl (by omega) u11 k (wrL us) rfl HOA.out (w9.heap.size + 1) (some ⟨w9.heap.size, 0, none⟩) 1 1 (Wr.cells ⟨t.x, Ax, cx, t.fs, 0⟩) rfl (reads_wr w9 ⟨t.x, Ax, cx, t.fs, 0⟩) (wr_one _) (by simp only [maxLen]; omega) (by omega) (by simp; omega) ?_; intro v10 w10 hown10 hg10 hat10)
             have hlow : ∀ q, q < W7.heap.size → w10.heap[q]? = w9.heap[q]? := fun q hq => (hg10.block q (by simp; omega) (fun e => by have := (HOA.out.lt q (by first | exact e | exact e.symm)).1; omega)).trans (hbA.block q (by omega))
             have hszA : w9.heap.size ≤ w10.heap.size := Nat.le_trans hbA.size hg10.size
             have HP11 := Lib.hid (HP9.out.low (hg10.os.trans hbA.os) (hg10.tape.trans hbA.tape) (hg10.output.trans hbA.output) hszA hlow (by omega) (by omega) (by omega) (by omega))
             have HR11 := Lib.hid (HR9.out.low (w' := w10) hlow (by omega))
             have HN11 := Lib.hid (HN9.out.snoc (u := (⟨t.x, Ax, cx, t.fs, 0⟩ : Wr)) (lo := wr.heap.size) HRX.out HNX.out hW HOL.out hwr9 hg10 hat10)
             have HK11 := Lib.hid (show rdObjs (k + 1) p1 = some ((us ++ [(⟨t.x, Ax, cx, t.fs, 0⟩ : Wr)]).map Wr.th, bs8) from by
              have h1 := rdObjs_snoc _ _ _ _ HK2.out
              rw [HOBJ.out] at h1
              rw [h1, List.map_append]
              rfl)
             rw [← wrL_snoc] at hown10
             have HO11 := Lib.hid hown10
             have hW11 : W7.heap.size ≤ w10.heap.size := Nat.le_trans hW9 hszA
             clear hown10 hg10 hat10 hlow hszA HP9 HR9 HO9 HN9 HOA hbA HRX HNX HOL
             go_roundw
             case rel => exact ⟨k + 1, us ++ [(⟨t.x, Ax, cx, t.fs, 0⟩ : Wr)], A8, c8, bs8, by go_num, by omega, HP11.out, HR11.out, HO11.out, HN11.out, HK11.out, hW11⟩
             case measure => simp [intOf]; omega
          ·obtain rfl : many = k := by omega
           have hd : decide ((many : Int) < (many : Int)) = false := by simp
           have rr0 : wr.cell? ⟨g2, 0, none⟩ = some (.slice A' bs'.length c') := R.box.cell 0
           obtain ⟨lb, hlb⟩ : ∃ l, l = bs'.length := ⟨_, rfl⟩
           rw [← hlb] at rr0
           have HLB := Lib.hid hlb
           have q2 := P.row.cell HV.out.2.2.1
           have hLW9 : L ≤ wr.heap.size := by omega
           have hb9 : Below wr.heap.size wr (wr.alloc (.cells #[.slice A2 p2.length c2, .bool false] 129)) := (Below.refl _ _).alloc (Nat.le_refl _) _
           have HR9 := Lib.hid (show RdAt (wr.alloc (.cells #[.slice A2 p2.length c2, .bool false] 129)) L wr.heap.size A2 c2 p2 false from
            ⟨Blk.new wr _ _, HK.out.2.2.1, ((HRD.out wr P.pay).2.2).below (hb9.mono hLW9), hLW9, HY.out.2.2⟩)
           have HP9 := Lib.hid (P.below hb9 hLW9)
           have HO9 := Lib.hid (own_sameI' O (fun q hq => hb9.block q (O.lt q hq).2))
           have HNB := Lib.hid (show ∀ u ∈ us, Reads (wr.alloc (.cells #[.slice A2 p2.length c2, .bool false] 129)) wr.heap.size 1 u.A u.fs.length (u32s u.fs) ∧ (0 < u.fs.length → ∀ a, u.A = some a → u11.ownBlock ≠ some a.block) from
            fun u hu => ⟨(N u hu).1.keep (fun q hq => World.cell?_of_block (hb9.block q.block hq)), fun h0 a ha => ((N u hu).2 a ha).2 h0⟩)
           have HOL9 := Lib.hid (show ∀ q, u11.ownBlock = some q → q < wr.heap.size from fun q hq => (O.lt q hq).2)
           have hW9 : W7.heap.size ≤ (wr.alloc (.cells #[.slice A2 p2.length c2, .bool false] 129)).heap.size := by simp; omega
           have hg39 : wr.heap.size < (wr.alloc (.cells #[.slice A2 p2.length c2, .bool false] 129)).heap.size := by simp
           clear P R O N K HP HR HO HN hlb hb9 hk hkm i0 hi0 hz0 hz1 hz2
           go_upto_region 21 with fail
           generalize wr.alloc (.cells #[.slice A2 p2.length c2, .bool false] 129) = W9 at *
           have hWw : W7.heap.size ≤ wr.heap.size := hW
           clear q2 rr0 hd hW
           generalize wr.heap.size = g3 at *
           obtain ⟨i0, hi0, hz0, hz1, hz2⟩ := info_parts info_u32
           go_wp2_with fail
           go_loopw [14, 79] (fun r i wr => ∃ (k : Nat) (rts : List Nat) (A' : Option Addr) (c' : Nat) (b' : List Nat) (bad : Bool), i = .int .i64 k ∧ k ≤ 64 ∧ Fr1 g3 W9 wr ∧ RdAt wr L g3 A' c' b' bad ∧ wr.ownsRow W9.heap.size 32 1 r k (u32s rts) ∧ (∀ x ∈ rts, x < 4294967296) ∧ (bad = false → rdK k p2 = some (rts, b')) ∧ ((∃ q, rdK k p2 = some q) → bad = false) ∧ b'.length ≤ 9000000) (fun _ i _ => 64 - (intOf i).toNat)
           case atStart => exact ⟨0, [], A2, c2, p2, false, rfl, by omega, Fr1.refl _ _, HR9.out, ⟨rfl, .inl ⟨rfl, rfl⟩⟩, fun _ h => (by cases h), fun _ => rfl, fun _ => rfl, by have := hpb.2.2; omega⟩
           case round =>
            clear HR9
            obtain ⟨k, rts, A', c', b', bad, rfl, hk, F, R, O, h32, K1, K2, hbl⟩ := hrel
            have HF := Lib.hid F
            have HR := Lib.hid R
            have HO := Lib.hid O
            have H32 := Lib.hid h32
            have HK1 := Lib.hid (And.intro K1 K2)
            clear F R O h32 K1 K2
            by_cases hk64 : k < 64
            ·have hd : decide ((k : Int) < 64) = true := by simp; omega
             have HNB := Lib.hid (rnumberI_any HR.out hbl)
             go_wp2_with fail
             refine HNB.out.mono ?_
             rintro e w10 ⟨n10, A10, c10, b10, d10, rfl, hn10, R10, F10, D10, e10, he10⟩
             have hl10 : b10.length ≤ 9000000 := by rw [he10, List.length_append] at hbl; omega
             have HF10 := Lib.hid (HF.out.trans F10)
             have HO10 := Lib.hid (own_sameI HO.out (fun q hq => F10.same q (HO.out.lt q hq).2 (by have := (HO.out.lt q hq).1; omega)))
             have HR10 := Lib.hid R10
             have HK10 := Lib.hid (rdK_step HK1.out D10)
             have h32' : ∀ x ∈ rts ++ [n10], x < 4294967296 := fun x hx => by
              rcases List.mem_append.1 hx with h | h
              ·exact H32.out x h
              ·rcases List.mem_singleton.1 h with rfl; exact hn10
             have H32' := Lib.hid h32'
             have hW910 : W9.heap.size ≤ w10.heap.size := HF10.out.size
             clear HNB R10 F10 D10 he10 HF HO HR HK1 H32 h32'
             have hbA : Below w10.heap.size w10 (w10.alloc (.cells #[.int .u32 (n10 : Nat)] 32)) := (Below.refl _ _).alloc (Nat.le_refl _) _
             have HOA := Lib.hid (own_sameI HO10.out (fun q hq => hbA.block q (HO10.out.lt q hq).2))
             go_wp2_with (at_builtin; refine wpList_append_any _ rfl (.tmp 81) (.tmp 84) _ rfl W9.heap.size 32 i0 _ 1 4 Tryz.underlying44 hi0 hz0 hz1 hz2 rfl (by omega) u14 k (u32s rts) rfl HOA.out (w10.heap.size + 1) (some ⟨w10.heap.size, 0, none⟩) 1 1 (u32s [n10]) rfl ⟨rfl, fun _ => ⟨_, rfl, by simp, cell_one_new _ _ _⟩⟩ (one_u32s _) (by simp only [maxLen]; omega) (by omega) (by simp; omega) ?_; intro v12 w12 hown12 hg12 hat12)
             have hlow : ∀ q, q < W9.heap.size → w12.heap[q]? = w10.heap[q]? := fun q hq => (hg12.block q (by simp; omega) (fun e => by have := (HOA.out.lt q (by first | exact e | exact e.symm)).1; omega)).trans (hbA.block q (by omega))
             have hszA : w10.heap.size ≤ w12.heap.size := Nat.le_trans hbA.size hg12.size
             have HR12 := Lib.hid (HR10.out.low (w' := w12) hlow (by omega))
             have HF12 := Lib.hid (show Fr1 g3 W9 w12 from ⟨(hg12.os.trans hbA.os).trans HF10.out.os, (hg12.tape.trans hbA.tape).trans HF10.out.tape, (hg12.output.trans hbA.output).trans HF10.out.output, Nat.le_trans HF10.out.size hszA, fun q h1 h2 => (hlow q h1).trans (HF10.out.same q h1 h2)⟩)
             have e12 : u32s rts ++ u32s [n10] = u32s (rts ++ [n10]) := by unfold u32s; rw [List.map_append]
             rw [e12] at hown12
             have HO12 := Lib.hid hown12
             clear hown12 hg12 hat12 hlow hszA HOA hbA e12 HO10 HF10 HR10
             go_roundw
             case rel => exact ⟨k + 1, rts ++ [n10], A10, c10, b10, d10, by go_num, by omega, HF12.out, HR12.out, HO12.out, H32'.out, HK10.out.1, HK10.out.2, hl10⟩
             case measure => simp [intOf]; omega
            ·obtain rfl : k = 64 := by omega
             have hd : decide ((64 : Int) < 64) = false := by decide
             have hLW10 : L ≤ W9.heap.size := by omega
             have HP10 := Lib.hid (HP9.out.read HF.out (by omega) (by omega) (by omega) hLW9 hLW10)
             have rr0 : wr.cell? ⟨g3, 0, none⟩ = some (.slice A' b'.length c') := HR.out.box.cell 0
             have rr1 : wr.cell? ⟨g3, 1, none⟩ = some (.bool bad) := HR.out.box.cell 1
             have q3 := HP10.out.row.cell HV.out.2.2.2
             obtain ⟨l2, hl2⟩ : ∃ l, l = b'.length := ⟨_, rfl⟩
             obtain ⟨l3, hl3⟩ : ∃ l, l = p3.length := ⟨_, rfl⟩
             rw [← hl2] at rr0
             rw [← hl3] at q3
             have HL2 := Lib.hid hl2
             have HL3 := Lib.hid hl3
             clear hl2 hl3
             have HNE := Lib.hid (show (0 < lb ∨ bad = true ∨ 0 < l2 ∨ 0 < l3) → newM bs = .error 143 from fun h => HER.out ((parts_end HH1.out.1 HH1.out.2 HK2.out HK1.out).1 (by
              rcases h with h | h | h | h
              ·left; intro e; rw [HLB.out, e] at h; exact absurd h (by simp)
              ·exact .inr (.inl h)
              ·right; right; left; intro e; rw [HL2.out, e] at h; exact absurd h (by simp)
              ·right; right; right; intro e; rw [HL3.out, e] at h; exact absurd h (by simp))))
             have HNG := Lib.hid (show lb = 0 → bad = false → l2 = 0 → l3 = 0 → newM bs = .ok ⟨us.map Wr.th, rts, la⟩ from fun a b c d => HOKM.out _ ((parts_end HH1.out.1 HH1.out.2 HK2.out HK1.out).2 (List.eq_nil_of_length_eq_zero (by rw [← HLB.out]; exact a)) b (List.eq_nil_of_length_eq_zero (by rw [← HL2.out]; exact c)) (List.eq_nil_of_length_eq_zero (by rw [← HL3.out]; exact d))))
             clear HER HOKM HRD hbl hk HP9 hk64
             by_cases hlb0 : lb = 0
             ·have hd1 : decide (0 < (lb : Int)) = false := decide_eq_false (by omega)
              cases bad with
              | true =>
                have HNM := Lib.hid (show newM bs = .error 143 from HNE.out (.inr (.inl rfl)))
                have HZX := Lib.hid HP10.out.res
                have HFX := Lib.hid HP10.out.fr
                clear HP10 HNE HNG HNB HOL9 HO9 HO HF HR H32 HK1 HK2 HLB HL2 HL3 HKO HUL HH1
                have z0 := HZX.out.frozen 0
                have z1 := HZX.out.frozen 1
                have z2 := HZX.out.frozen 2
                have z3 := HZX.out.frozen 3
                have z4 := HZX.out.frozen 4
                have d0 := HZX.out.cell 0
                have d1 := HZX.out.cell 1
                have d2 := HZX.out.cell 2
                have d3 := HZX.out.cell 3
                have d4 := HZX.out.cell 4
                have HZ5 := Lib.hid (HZX.out.setAll5 (.int .i64 0) (.int .i64 0) (.int .u32 0) (.slice none 0 0) (.slice none 0 0))
                have HFB := Lib.hid (below5 HFX.out (g := w.heap.size) (by omega) (.int .i64 0) (.int .i64 0) (.int .u32 0) (.slice none 0 0) (.slice none 0 0))
                go_wp2_with fail
                generalize (((((wr.setCell ⟨w.heap.size, 0, none⟩ (.int .i64 0)).setCell ⟨w.heap.size, 1, none⟩ (.int .i64 0)).setCell ⟨w.heap.size, 2, none⟩ (.int .u32 0)).setCell ⟨w.heap.size, 3, none⟩ (.slice none 0 0)).setCell ⟨w.heap.size, 4, none⟩ (.slice none 0 0)) = WF at *
                clear z0 d0 z1 d1 z2 d2 z3 d3 z4 d4
                have f0 := HZ5.out.cell 0
                have f1 := HZ5.out.cell 1
                have f2 := HZ5.out.cell 2
                have f3 := HZ5.out.cell 3
                have f4 := HZ5.out.cell 4
                refine bodyPost_ret (v := .tuple #[.agg #[.int .i64 0, .int .i64 0, .int .u32 0, .slice none 0 0, .slice none 0 0], .int .i64 143]) (by simp [results, Tryz.results33, go_sem, f0, f1, f2, f3, f4]) rfl ?_
                exact NewP.err HFB.out HNM.out
              | false =>
                by_cases hl20 : l2 = 0
                ·have hd2 : decide (0 < (l2 : Int)) = false := decide_eq_false (by omega)
                 by_cases hl30 : l3 = 0
                 ·have hd3 : decide (0 < (l3 : Int)) = false := decide_eq_false (by omega)
                  have HIM := Lib.hid (HNG.out hlb0 rfl hl20 hl30)
                  have hO : wr.ownsRow W7.heap.size 132 8 u11 many (wrL us) := own_sameI' HO9.out (fun q hq => HF.out.same q (HO9.out.lt q hq).2 (by have := HOL9.out q hq; omega))
                  obtain ⟨Ao, co, go, hv11, hgo, hgo1, hgo2⟩ := rows_lay hO HUL.out
                  obtain ⟨Ar, cr, hv14, hrr⟩ := own_sliceI HO.out
                  have hgo3 : go ≤ g3 := by
                   rcases Nat.eq_zero_or_pos us.length with h | h
                   ·have := hgo2 h; omega
                   ·exact Nat.le_of_lt (HOL9.out go (hgo1 h).2.2)
                  have hszW : W9.heap.size ≤ wr.heap.size := HF.out.size
                  have HAR := Lib.hid (show ∀ a, Ar = some a → a.block ≠ go from fun a ha e => by have := (HO.out.lt a.block (by rw [hv14, ha]; rfl)).1; omega)
                  have HWB := Lib.hid (show WrB wr wr.heap.size go us from fun u hu => ⟨((HNB.out u hu).1.keep (fun q hq => World.cell?_of_block (HF.out.same q.block (by omega) (by omega)))).more (by omega), fun h0 a ha e => by
                   rcases Nat.eq_zero_or_pos us.length with h | h
                   ·rw [List.length_eq_zero_iff.1 h] at hu; cases hu
                   ·exact (HNB.out u hu).2 h0 a ha (by rw [(hgo1 h).2.2, e])⟩)
                  have hul9 : us.length ≤ 9000000 := by rw [HUL.out]; omega
                  have HLY := Lib.hid (ilay_any (w := wr) (Bg := L) (g := go) (c := co) (nr := 64) (cr := cr) (last := la) (size := size) (A := Ao) (Ar := Ar) (us := us) (rts := rts) (HP10.out.spares HSP.out) hsp (by omega) (by omega) (fun h => ⟨(hgo1 h).1, (hgo1 h).2.1⟩) hul9 HKO.out HWB.out hrr HAR.out H32.out rfl hsize hla)
                  have hbgo : L ≤ go := by omega
                  have n4 : w.heap.size ≠ go := by omega
                  have n8 : b8 ≠ go := by omega
                  have np : gp ≠ go := by omega
                  have hLwr : L ≤ wr.heap.size := by omega
                  have h4wr : w.heap.size < wr.heap.size := by omega
                  subst hv11 hv14
                  have e0 := HP10.out.box.cell 0
                  have e1 := HP10.out.box.cell 1
                  have e2 := HP10.out.box.cell 2
                  have e3 := HP10.out.box.cell 3
                  have e4 := HP10.out.box.cell 4
                  clear HNE HNG HNB HOL9 HO9 HO HF HR H32 HK1 HK2 HLB HL2 HL3 HKO HUL HH1 hO hrr HAR HWB hgo1 hgo2
                  go_wp2_with fail
                  unfold rdV at HLY
                  refine HLY.out.mono ?_
                  rintro e wz ⟨FL, hcase⟩
                  have HP12 := HP10.out.read FL n4 n8 np hbgo hLwr
                  have HZX := Lib.hid HP12.res
                  have HFX := Lib.hid HP12.fr
                  have hszz : wr.heap.size ≤ wz.heap.size := FL.size
                  clear HP12 HP10 HLY FL
                  by_cases h1 : size < placeT (us.map Wr.th)
                  ·rw [if_pos h1] at hcase
                   unfold rdV at hcase
                   subst hcase
                   have HC1 := Lib.hid h1
                   clear h1
                   have z0 := HZX.out.frozen 0
                   have z1 := HZX.out.frozen 1
                   have z2 := HZX.out.frozen 2
                   have z3 := HZX.out.frozen 3
                   have z4 := HZX.out.frozen 4
                   have d0 := HZX.out.cell 0
                   have d1 := HZX.out.cell 1
                   have d2 := HZX.out.cell 2
                   have d3 := HZX.out.cell 3
                   have d4 := HZX.out.cell 4
                   have HZ5 := Lib.hid (HZX.out.setAll5 (.int .i64 0) (.int .i64 0) (.int .u32 0) (.slice none 0 0) (.slice none 0 0))
                   have HFB := Lib.hid (below5 HFX.out (g := w.heap.size) (by omega) (.int .i64 0) (.int .i64 0) (.int .u32 0) (.slice none 0 0) (.slice none 0 0))
                   go_wp2_with fail
                   generalize (((((wz.setCell ⟨w.heap.size, 0, none⟩ (.int .i64 0)).setCell ⟨w.heap.size, 1, none⟩ (.int .i64 0)).setCell ⟨w.heap.size, 2, none⟩ (.int .u32 0)).setCell ⟨w.heap.size, 3, none⟩ (.slice none 0 0)).setCell ⟨w.heap.size, 4, none⟩ (.slice none 0 0)) = WF at *
                   clear z0 d0 z1 d1 z2 d2 z3 d3 z4 d4
                   have f0 := HZ5.out.cell 0
                   have f1 := HZ5.out.cell 1
                   have f2 := HZ5.out.cell 2
                   have f3 := HZ5.out.cell 3
                   have f4 := HZ5.out.cell 4
                   refine bodyPost_ret (v := .tuple #[.agg #[.int .i64 0, .int .i64 0, .int .u32 0, .slice none 0 0, .slice none 0 0], .int .i64 4]) (by simp [results, Tryz.results33, go_sem, f0, f1, f2, f3, f4]) rfl ?_
                   exact NewP.of HFB.out HIM.out (by rw [if_pos HC1.out]; rfl)
                  ·rw [if_neg h1] at hcase
                   have HC1 := Lib.hid (show ¬ size < placeT (⟨us.map Wr.th, rts, la⟩ : Img).ts from h1)
                   clear h1
                   generalize (⟨us.map Wr.th, rts, la⟩ : Img) = im at *
                   by_cases h2 : im.wrong = true
                   ·rw [if_pos h2] at hcase
                    unfold rdV at hcase
                    subst hcase
                    have HC2 := Lib.hid h2
                    clear h2
                    have z0 := HZX.out.frozen 0
                    have z1 := HZX.out.frozen 1
                    have z2 := HZX.out.frozen 2
                    have z3 := HZX.out.frozen 3
                    have z4 := HZX.out.frozen 4
                    have d0 := HZX.out.cell 0
                    have d1 := HZX.out.cell 1
                    have d2 := HZX.out.cell 2
                    have d3 := HZX.out.cell 3
                    have d4 := HZX.out.cell 4
                    have HZ5 := Lib.hid (HZX.out.setAll5 (.int .i64 0) (.int .i64 0) (.int .u32 0) (.slice none 0 0) (.slice none 0 0))
                    have HFB := Lib.hid (below5 HFX.out (g := w.heap.size) (by omega) (.int .i64 0) (.int .i64 0) (.int .u32 0) (.slice none 0 0) (.slice none 0 0))
                    go_wp2_with fail
                    generalize (((((wz.setCell ⟨w.heap.size, 0, none⟩ (.int .i64 0)).setCell ⟨w.heap.size, 1, none⟩ (.int .i64 0)).setCell ⟨w.heap.size, 2, none⟩ (.int .u32 0)).setCell ⟨w.heap.size, 3, none⟩ (.slice none 0 0)).setCell ⟨w.heap.size, 4, none⟩ (.slice none 0 0)) = WF at *
                    clear z0 d0 z1 d1 z2 d2 z3 d3 z4 d4
                    have f0 := HZ5.out.cell 0
                    have f1 := HZ5.out.cell 1
                    have f2 := HZ5.out.cell 2
                    have f3 := HZ5.out.cell 3
                    have f4 := HZ5.out.cell 4
                    refine bodyPost_ret (v := .tuple #[.agg #[.int .i64 0, .int .i64 0, .int .u32 0, .slice none 0 0, .slice none 0 0], .int .i64 145]) (by simp [results, Tryz.results33, go_sem, f0, f1, f2, f3, f4]) rfl ?_
                    exact NewP.of HFB.out HIM.out (by rw [if_neg HC1.out, if_pos HC2.out]; rfl)
                   ·rw [if_neg h2] at hcase
                    obtain ⟨A1, A2, c1, c2, hcase, hr1, hr2, hnw⟩ := hcase
                    unfold rdV at hcase
                    subst hcase
                    have HC2 := Lib.hid h2
                    clear h2
                    have HX1 := Lib.hid (reads5 (g := w.heap.size) hr1 (fun _ a ha e => by have := hnw a (.inl ha); omega) (.int .i64 2) (.int .i64 0) (.int .u32 im.last) (.slice A1 im.words.length c1) (.slice A2 im.roots.length c2))
                    have HX2 := Lib.hid (reads5 (g := w.heap.size) hr2 (fun _ a ha e => by have := hnw a (.inr ha); omega) (.int .i64 2) (.int .i64 0) (.int .u32 im.last) (.slice A1 im.words.length c1) (.slice A2 im.roots.length c2))
                    have HNW := Lib.hid (show ∀ a, A1 = some a ∨ A2 = some a → w.heap.size ≤ a.block from fun a ha => Nat.le_trans (Nat.le_of_lt h4wr) (hnw a ha))
                    clear hr1 hr2 hnw
                    have z0 := HZX.out.frozen 0
                    have z1 := HZX.out.frozen 1
                    have z2 := HZX.out.frozen 2
                    have z3 := HZX.out.frozen 3
                    have z4 := HZX.out.frozen 4
                    have d0 := HZX.out.cell 0
                    have d1 := HZX.out.cell 1
                    have d2 := HZX.out.cell 2
                    have d3 := HZX.out.cell 3
                    have d4 := HZX.out.cell 4
                    have HZ5 := Lib.hid (HZX.out.setAll5 (.int .i64 2) (.int .i64 0) (.int .u32 im.last) (.slice A1 im.words.length c1) (.slice A2 im.roots.length c2))
                    have HFB := Lib.hid (below5 HFX.out (g := w.heap.size) (by omega) (.int .i64 2) (.int .i64 0) (.int .u32 im.last) (.slice A1 im.words.length c1) (.slice A2 im.roots.length c2))
                    go_wp2_with fail
                    generalize (((((wz.setCell ⟨w.heap.size, 0, none⟩ (.int .i64 2)).setCell ⟨w.heap.size, 1, none⟩ (.int .i64 0)).setCell ⟨w.heap.size, 2, none⟩ (.int .u32 im.last)).setCell ⟨w.heap.size, 3, none⟩ (.slice A1 im.words.length c1)).setCell ⟨w.heap.size, 4, none⟩ (.slice A2 im.roots.length c2)) = WF at *
                    clear z0 d0 z1 d1 z2 d2 z3 d3 z4 d4
                    have f0 := HZ5.out.cell 0
                    have f1 := HZ5.out.cell 1
                    have f2 := HZ5.out.cell 2
                    have f3 := HZ5.out.cell 3
                    have f4 := HZ5.out.cell 4
                    refine bodyPost_ret (v := .tuple #[.agg #[.int .i64 2, .int .i64 0, .int .u32 im.last, .slice A1 im.words.length c1, .slice A2 im.roots.length c2], .int .i64 0]) (by simp [results, Tryz.results33, go_sem, f0, f1, f2, f3, f4]) rfl ?_
                    exact NewP.of HFB.out HIM.out (by rw [if_neg HC1.out, if_neg HC2.out]; exact ⟨A1, A2, c1, c2, rfl, HX1.out, HX2.out, HNW.out⟩)
                 ·have hd3 : decide (0 < (l3 : Int)) = true := decide_eq_true (by omega)
                  have hl3p : 0 < l3 := by omega
                  have HNM := Lib.hid (show newM bs = .error 143 from HNE.out (.inr (.inr (.inr hl3p))))
                  have HZX := Lib.hid HP10.out.res
                  have HFX := Lib.hid HP10.out.fr
                  clear HP10 HNE HNG HNB HOL9 HO9 HO HF HR H32 HK1 HK2 HLB HL2 HL3 HKO HUL HH1
                  have z0 := HZX.out.frozen 0
                  have z1 := HZX.out.frozen 1
                  have z2 := HZX.out.frozen 2
                  have z3 := HZX.out.frozen 3
                  have z4 := HZX.out.frozen 4
                  have d0 := HZX.out.cell 0
                  have d1 := HZX.out.cell 1
                  have d2 := HZX.out.cell 2
                  have d3 := HZX.out.cell 3
                  have d4 := HZX.out.cell 4
                  have HZ5 := Lib.hid (HZX.out.setAll5 (.int .i64 0) (.int .i64 0) (.int .u32 0) (.slice none 0 0) (.slice none 0 0))
                  have HFB := Lib.hid (below5 HFX.out (g := w.heap.size) (by omega) (.int .i64 0) (.int .i64 0) (.int .u32 0) (.slice none 0 0) (.slice none 0 0))
                  go_wp2_with fail
                  generalize (((((wr.setCell ⟨w.heap.size, 0, none⟩ (.int .i64 0)).setCell ⟨w.heap.size, 1, none⟩ (.int .i64 0)).setCell ⟨w.heap.size, 2, none⟩ (.int .u32 0)).setCell ⟨w.heap.size, 3, none⟩ (.slice none 0 0)).setCell ⟨w.heap.size, 4, none⟩ (.slice none 0 0)) = WF at *
                  clear z0 d0 z1 d1 z2 d2 z3 d3 z4 d4
                  have f0 := HZ5.out.cell 0
                  have f1 := HZ5.out.cell 1
                  have f2 := HZ5.out.cell 2
                  have f3 := HZ5.out.cell 3
                  have f4 := HZ5.out.cell 4
                  refine bodyPost_ret (v := .tuple #[.agg #[.int .i64 0, .int .i64 0, .int .u32 0, .slice none 0 0, .slice none 0 0], .int .i64 143]) (by simp [results, Tryz.results33, go_sem, f0, f1, f2, f3, f4]) rfl ?_
                  exact NewP.err HFB.out HNM.out
                ·have hd2 : decide (0 < (l2 : Int)) = true := decide_eq_true (by omega)
                 have hl2p : 0 < l2 := by omega
                 have HNM := Lib.hid (show newM bs = .error 143 from HNE.out (.inr (.inr (.inl hl2p))))
                 have HZX := Lib.hid HP10.out.res
                 have HFX := Lib.hid HP10.out.fr
                 clear HP10 HNE HNG HNB HOL9 HO9 HO HF HR H32 HK1 HK2 HLB HL2 HL3 HKO HUL HH1
                 have z0 := HZX.out.frozen 0
                 have z1 := HZX.out.frozen 1
                 have z2 := HZX.out.frozen 2
                 have z3 := HZX.out.frozen 3
                 have z4 := HZX.out.frozen 4
                 have d0 := HZX.out.cell 0
                 have d1 := HZX.out.cell 1
                 have d2 := HZX.out.cell 2
                 have d3 := HZX.out.cell 3
                 have d4 := HZX.out.cell 4
                 have HZ5 := Lib.hid (HZX.out.setAll5 (.int .i64 0) (.int .i64 0) (.int .u32 0) (.slice none 0 0) (.slice none 0 0))
                 have HFB := Lib.hid (below5 HFX.out (g := w.heap.size) (by omega) (.int .i64 0) (.int .i64 0) (.int .u32 0) (.slice none 0 0) (.slice none 0 0))
                 go_wp2_with fail
                 generalize (((((wr.setCell ⟨w.heap.size, 0, none⟩ (.int .i64 0)).setCell ⟨w.heap.size, 1, none⟩ (.int .i64 0)).setCell ⟨w.heap.size, 2, none⟩ (.int .u32 0)).setCell ⟨w.heap.size, 3, none⟩ (.slice none 0 0)).setCell ⟨w.heap.size, 4, none⟩ (.slice none 0 0)) = WF at *
                 clear z0 d0 z1 d1 z2 d2 z3 d3 z4 d4
                 have f0 := HZ5.out.cell 0
                 have f1 := HZ5.out.cell 1
                 have f2 := HZ5.out.cell 2
                 have f3 := HZ5.out.cell 3
                 have f4 := HZ5.out.cell 4
                 refine bodyPost_ret (v := .tuple #[.agg #[.int .i64 0, .int .i64 0, .int .u32 0, .slice none 0 0, .slice none 0 0], .int .i64 143]) (by simp [results, Tryz.results33, go_sem, f0, f1, f2, f3, f4]) rfl ?_
                 exact NewP.err HFB.out HNM.out
             ·have hd1 : decide (0 < (lb : Int)) = true := decide_eq_true (by omega)
              have hlbp : 0 < lb := by omega
              have HNM := Lib.hid (show newM bs = .error 143 from HNE.out (.inl hlbp))
              have HZX := Lib.hid HP10.out.res
              have HFX := Lib.hid HP10.out.fr
              clear HP10 HNE HNG HNB HOL9 HO9 HO HF HR H32 HK1 HK2 HLB HL2 HL3 HKO HUL HH1
              have z0 := HZX.out.frozen 0
              have z1 := HZX.out.frozen 1
              have z2 := HZX.out.frozen 2
              have z3 := HZX.out.frozen 3
              have z4 := HZX.out.frozen 4
              have d0 := HZX.out.cell 0
              have d1 := HZX.out.cell 1
              have d2 := HZX.out.cell 2
              have d3 := HZX.out.cell 3
              have d4 := HZX.out.cell 4
              have HZ5 := Lib.hid (HZX.out.setAll5 (.int .i64 0) (.int .i64 0) (.int .u32 0) (.slice none 0 0) (.slice none 0 0))
              have HFB := Lib.hid (below5 HFX.out (g := w.heap.size) (by omega) (.int .i64 0) (.int .i64 0) (.int .u32 0) (.slice none 0 0) (.slice none 0 0))
              go_wp2_with fail
              generalize (((((wr.setCell ⟨w.heap.size, 0, none⟩ (.int .i64 0)).setCell ⟨w.heap.size, 1, none⟩ (.int .i64 0)).setCell ⟨w.heap.size, 2, none⟩ (.int .u32 0)).setCell ⟨w.heap.size, 3, none⟩ (.slice none 0 0)).setCell ⟨w.heap.size, 4, none⟩ (.slice none 0 0)) = WF at *
              clear z0 d0 z1 d1 z2 d2 z3 d3 z4 d4
              have f0 := HZ5.out.cell 0
              have f1 := HZ5.out.cell 1
              have f2 := HZ5.out.cell 2
              have f3 := HZ5.out.cell 3
              have f4 := HZ5.out.cell 4
              refine bodyPost_ret (v := .tuple #[.agg #[.int .i64 0, .int .i64 0, .int .u32 0, .slice none 0 0, .slice none 0 0], .int .i64 143]) (by simp [results, Tryz.results33, go_sem, f0, f1, f2, f3, f4]) rfl ?_
              exact NewP.err HFB.out HNM.out
        ·have hd0 : decide (0 < (lq : Int)) = true := decide_eq_true (by omega)
         have hlp : 0 < lq := by omega
         have HNM := Lib.hid (show newM bs = .error 143 from HER.out (head_err HD4.out HD6.out (.inr (fun e => hq6 (by rw [HLQ.out, e]; rfl)))))
         have HZ6 := Lib.hid HP6.out.res
         have HF6 := Lib.hid HP6.out.fr
         clear HP6 HR6 HER HOKM HRD h4 h6 hq6
         have z0 := HZ6.out.frozen 0
         have z1 := HZ6.out.frozen 1
         have z2 := HZ6.out.frozen 2
         have z3 := HZ6.out.frozen 3
         have z4 := HZ6.out.frozen 4
         have d0 := HZ6.out.cell 0
         have d1 := HZ6.out.cell 1
         have d2 := HZ6.out.cell 2
         have d3 := HZ6.out.cell 3
         have d4 := HZ6.out.cell 4
         have HZ5 := Lib.hid (HZ6.out.setAll5 (.int .i64 0) (.int .i64 0) (.int .u32 0) (.slice none 0 0) (.slice none 0 0))
         have HFB := Lib.hid (below5 HF6.out (g := w.heap.size) (by omega) (.int .i64 0) (.int .i64 0) (.int .u32 0) (.slice none 0 0) (.slice none 0 0))
         go_wp2_with fail
         generalize (((((w6.setCell ⟨w.heap.size, 0, none⟩ (.int .i64 0)).setCell ⟨w.heap.size, 1, none⟩ (.int .i64 0)).setCell ⟨w.heap.size, 2, none⟩ (.int .u32 0)).setCell ⟨w.heap.size, 3, none⟩ (.slice none 0 0)).setCell ⟨w.heap.size, 4, none⟩ (.slice none 0 0)) = WF at *
         clear z0 d0 z1 d1 z2 d2 z3 d3 z4 d4
         have f0 := HZ5.out.cell 0
         have f1 := HZ5.out.cell 1
         have f2 := HZ5.out.cell 2
         have f3 := HZ5.out.cell 3
         have f4 := HZ5.out.cell 4
         refine bodyPost_ret (v := .tuple #[.agg #[.int .i64 0, .int .i64 0, .int .u32 0, .slice none 0 0, .slice none 0 0], .int .i64 143]) (by simp [results, Tryz.results33, go_sem, f0, f1, f2, f3, f4]) rfl ?_
         exact NewP.err HFB.out HNM.out
   ·rw [if_neg hrest] at hm
    subst hm
    have HNM := Lib.hid (show newM bs = .error 143 from by unfold newM; rw [hsec]; simp only; rw [if_pos hrest])
    clear hsec hrest HB0 HB4 hb1
    have z0 := HZ1.out.frozen 0
    have z1 := HZ1.out.frozen 1
    have z2 := HZ1.out.frozen 2
    have z3 := HZ1.out.frozen 3
    have z4 := HZ1.out.frozen 4
    have d0 := HZ1.out.cell 0
    have d1 := HZ1.out.cell 1
    have d2 := HZ1.out.cell 2
    have d3 := HZ1.out.cell 3
    have d4 := HZ1.out.cell 4
    have HZ5 := Lib.hid (HZ1.out.setAll5 (.int .i64 0) (.int .i64 0) (.int .u32 0) (.slice none 0 0) (.slice none 0 0))
    have HFB := Lib.hid (below5 HF1.out (g := w.heap.size) (by omega) (.int .i64 0) (.int .i64 0) (.int .u32 0) (.slice none 0 0) (.slice none 0 0))
    go_wp2_with fail
    generalize (((((w1.setCell ⟨w.heap.size, 0, none⟩ (.int .i64 0)).setCell ⟨w.heap.size, 1, none⟩ (.int .i64 0)).setCell ⟨w.heap.size, 2, none⟩ (.int .u32 0)).setCell ⟨w.heap.size, 3, none⟩ (.slice none 0 0)).setCell ⟨w.heap.size, 4, none⟩ (.slice none 0 0)) = WF at *
    clear z0 d0 z1 d1 z2 d2 z3 d3 z4 d4
    have f0 := HZ5.out.cell 0
    have f1 := HZ5.out.cell 1
    have f2 := HZ5.out.cell 2
    have f3 := HZ5.out.cell 3
    have f4 := HZ5.out.cell 4
    refine bodyPost_ret (v := .tuple #[.agg #[.int .i64 0, .int .i64 0, .int .u32 0, .slice none 0 0, .slice none 0 0], .int .i64 143]) (by simp [results, Tryz.results33, go_sem, f0, f1, f2, f3, f4]) rfl ?_
    exact NewP.err HFB.out HNM.out
end
end Go.Proofs.YthadjmhipckelaaGreatDoor
