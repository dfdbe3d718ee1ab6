import Derived.Test.YtlkahgagmfhdaaaGreatDoorJIHead
import Derived.Test.YtlkahgagmfhdaaaGreatDoorJAlloc
import Derived.Test.YtlkahgagmfhdaaaGreatDoorJUntil
import Derived.Test.YtlkahgagmfhdaaaGreatDoorJMem
import Derived.Test.YtlkahgagmfhdaaaGreatDoorJAll
import Derived.Test.YtlkahgagmfhdaaaGreatDoorJLook
import Derived.Lib.SlBytesConst
set_option linter.unusedVariables false
set_option linter.unusedSimpArgs false
set_option linter.unusedSectionVars false
namespace Go.Proofs.YtlkahgagmfhdaaaGreatDoor
section
open Go.RowKit
attribute [local go_sem] Oper.semAt_some
theorem Blk.fr1 {w w' : World} {g rg : Nat} {t : TypeId} {c : Array Value} (b : Blk w g t c) (F : Fr1 rg w w') (h : g ≠ rg) : Blk w' g t c := b.same (F.same g b.lt h)
theorem RdAt.set {w : World} {L rg c g i : Nat} {A : Option Addr} {bs : List Nat} {bad : Bool} {v : Value} (R : RdAt w L rg A c bs bad) (h : g ≠ rg) (hL : L ≤ g) : RdAt (w.setCell ⟨g, i, none⟩ v) L rg A c bs bad :=
 ⟨R.box.same (Below.heap_setCell w ⟨g, i, none⟩ v rg h.symm), R.cap, R.rd.below (Below.setCell (Below.refl _ _) (p := ⟨g, i, none⟩) hL v), R.far, R.b8⟩
def wrC (x : Hd) (vf : Value) (at_ : Nat) : Array Value := #[.int .i64 x.size, .int .i64 x.fmt, .int .i64 x.spare, .int .u32 0, .int .u32 x.ser, .int .u32 x.cls, vf, .int .i64 at_]
def wrV (x : Hd) (vf : Value) (at_ : Nat) : Value := .agg (wrC x vf at_)
def ThV (lo : Nat) (w : World) (t : Th) (v : Value) : Prop := ∃ (A : Option Addr) (c : Nat), v = wrV t.x (.slice A t.fs.length c) 0 ∧ Reads w w.heap.size 1 A t.fs.length (u32s t.fs) ∧ ∀ a, A = some a → lo ≤ a.block
def ObjP (L rg : Nat) (bs : List Nat) (w : World) (e : Ending) (w' : World) : Prop :=
 ∃ v A c bs' bad', e = .returned v ∧ (∃ (x : Hd) (Af : Option Addr) (nf cf : Nat), v = wrV x (.slice Af nf cf) 0) ∧ RdAt w' L rg A c bs' bad' ∧ Fr1 rg w w' ∧ (bad' = true → rdObj bs = none) ∧ (bad' = false → ∃ t, rdObj bs = some (t, bs') ∧ ThV w.heap.size w' t v)
theorem Blk.setAll8 {w : World} {g : Nat} {t : TypeId} {a b c d e f k l : Value} (h : Blk w g t #[a, b, c, d, e, f, k, l]) (x0 x1 x2 x3 x4 x5 x6 x7 : Value) :
 Blk ((((((((w.setCell ⟨g, 0, none⟩ x0).setCell ⟨g, 1, none⟩ x1).setCell ⟨g, 2, none⟩ x2).setCell ⟨g, 3, none⟩ x3).setCell ⟨g, 4, none⟩ x4).setCell ⟨g, 5, none⟩ x5).setCell ⟨g, 6, none⟩ x6).setCell ⟨g, 7, none⟩ x7) g t #[x0, x1, x2, x3, x4, x5, x6, x7] := by
 have hh := (((((((h.set_ 0 x0).set_ 1 x1).set_ 2 x2).set_ 3 x3).set_ 4 x4).set_ 5 x5).set_ 6 x6).set_ 7 x7
 simp only [List.setIfInBounds_toArray, List.set_cons_zero, List.set_cons_succ] at hh
 exact hh
theorem Fr1.setAll8 {w w' : World} {g rg : Nat} (F : Fr1 rg w w') (hg : w.heap.size ≤ g) (x0 x1 x2 x3 x4 x5 x6 x7 : Value) :
 Fr1 rg w ((((((((w'.setCell ⟨g, 0, none⟩ x0).setCell ⟨g, 1, none⟩ x1).setCell ⟨g, 2, none⟩ x2).setCell ⟨g, 3, none⟩ x3).setCell ⟨g, 4, none⟩ x4).setCell ⟨g, 5, none⟩ x5).setCell ⟨g, 6, none⟩ x6).setCell ⟨g, 7, none⟩ x7) := by
 have h1 : ∀ (W : World) (i : Nat) (v : Value), Fr1 rg w W → Fr1 rg w (W.setCell ⟨g, i, none⟩ v) := fun W i v F => ⟨F.os, F.tape, F.output, by have := F.size; simp [World.setCell]; exact this, fun k hk hne => (Below.heap_setCell W ⟨g, i, none⟩ v k (by show k ≠ g; omega)).trans (F.same k hk hne)⟩
 exact h1 _ _ _ (h1 _ _ _ (h1 _ _ _ (h1 _ _ _ (h1 _ _ _ (h1 _ _ _ (h1 _ _ _ (h1 _ _ _ F)))))))
theorem reads8 {w : World} {g n : Nat} {A : Option Addr} {xs : List Value} (h : Reads w w.heap.size 1 A n xs) (hne : 0 < n → ∀ a, A = some a → a.block ≠ g) (x0 x1 x2 x3 x4 x5 x6 x7 : Value) :
 Reads ((((((((w.setCell ⟨g, 0, none⟩ x0).setCell ⟨g, 1, none⟩ x1).setCell ⟨g, 2, none⟩ x2).setCell ⟨g, 3, none⟩ x3).setCell ⟨g, 4, none⟩ x4).setCell ⟨g, 5, none⟩ x5).setCell ⟨g, 6, none⟩ x6).setCell ⟨g, 7, none⟩ x7) ((((((((w.setCell ⟨g, 0, none⟩ x0).setCell ⟨g, 1, none⟩ x1).setCell ⟨g, 2, none⟩ x2).setCell ⟨g, 3, none⟩ x3).setCell ⟨g, 4, none⟩ x4).setCell ⟨g, 5, none⟩ x5).setCell ⟨g, 6, none⟩ x6).setCell ⟨g, 7, none⟩ x7).heap.size 1 A n xs := by
 have h1 : ∀ (W : World) (i : Nat) (v : Value), Reads W W.heap.size 1 A n xs → Reads (W.setCell ⟨g, i, none⟩ v) (W.setCell ⟨g, i, none⟩ v).heap.size 1 A n xs := fun W i v h => by
  have hsz : (W.setCell ⟨g, i, none⟩ v).heap.size = W.heap.size := by simp [World.setCell]
  rw [hsz]
  refine ⟨h.1, fun hn => ?_⟩
  obtain ⟨a, ha, hb, hc⟩ := h.2 hn
  exact ⟨a, ha, hb, fun j u hu => (World.cell?_of_block (a := a.add j) (Below.heap_setCell W ⟨g, i, none⟩ v _ (by show (a.add j).block ≠ g; rw [block_of_add]; exact hne hn a ha))).trans (hc j u hu)⟩
 exact h1 _ _ _ (h1 _ _ _ (h1 _ _ _ (h1 _ _ _ (h1 _ _ _ (h1 _ _ _ (h1 _ _ _ (h1 _ _ _ h)))))))
theorem reads1 {w : World} {g i n : Nat} {v : Value} {A : Option Addr} {xs : List Value} (h : Reads w w.heap.size 1 A n xs) (hne : 0 < n → ∀ a, A = some a → a.block ≠ g) : Reads (w.setCell ⟨g, i, none⟩ v) (w.setCell ⟨g, i, none⟩ v).heap.size 1 A n xs := by
 have hsz : (w.setCell ⟨g, i, none⟩ v).heap.size = w.heap.size := by simp [World.setCell]
 rw [hsz]
 refine ⟨h.1, fun hn => ?_⟩
 obtain ⟨a, ha, hb, hc⟩ := h.2 hn
 exact ⟨a, ha, hb, fun j u hu => (World.cell?_of_block (a := a.add j) (Below.heap_setCell w ⟨g, i, none⟩ v _ (by show (a.add j).block ≠ g; rw [block_of_add]; exact hne hn a ha))).trans (hc j u hu)⟩
structure OrS (L rg : Nat) (w0 w : World) (b2 b3 : Nat) (cs : Array Value) (A : Option Addr) (c : Nat) (bs : List Nat) (bad : Bool) : Prop where
 rd : RdAt w L rg A c bs bad
 fr : Fr1 rg w0 w
 res : Blk w b2 303 #[.int .i64 0, .int .i64 0, .int .i64 0, .int .u32 0, .int .u32 0, .int .u32 0, .slice none 0 0, .int .i64 0]
 box : Blk w b3 303 cs
 h2 : w0.heap.size ≤ b2
 h3 : w0.heap.size ≤ b3
 ne : b2 ≠ b3
 hrg : rg < w0.heap.size
section
variable {L rg b2 b3 c c' : Nat} {w0 w w' : World} {cs : Array Value} {A A' : Option Addr} {bs bs' : List Nat} {bad bad' : Bool}
theorem OrS.read (S : OrS L rg w0 w b2 b3 cs A c bs bad) (R : RdAt w' L rg A' c' bs' bad') (F : Fr1 rg w w') : OrS L rg w0 w' b2 b3 cs A' c' bs' bad' :=
 ⟨R, S.fr.trans F, S.res.fr1 F (by have := S.h2; have := S.hrg; omega), S.box.fr1 F (by have := S.h3; have := S.hrg; omega), S.h2, S.h3, S.ne, S.hrg⟩
theorem OrS.below (S : OrS L rg w0 w b2 b3 cs A c bs bad) (h : Below w.heap.size w w') : OrS L rg w0 w' b2 b3 cs A c bs bad := S.read (S.rd.below h) (Fr1.of_below h)
theorem OrS.set (S : OrS L rg w0 w b2 b3 cs A c bs bad) (i : Nat) (v : Value) : OrS L rg w0 (w.setCell ⟨b3, i, none⟩ v) b2 b3 (cs.setIfInBounds i v) A c bs bad :=
 ⟨S.rd.set (by have := S.h3; have := S.hrg; omega) (by have := S.h3; have := S.hrg; have := S.rd.far; omega), ⟨S.fr.os, S.fr.tape, S.fr.output, by have := S.fr.size; simp [World.setCell]; exact this, fun k hk hne => (Below.heap_setCell w ⟨b3, i, none⟩ v k (by show k ≠ b3; have := S.h3; omega)).trans (S.fr.same k hk hne)⟩, S.res.same (Below.heap_setCell w ⟨b3, i, none⟩ v b2 S.ne), S.box.set_ i v, S.h2, S.h3, S.ne, S.hrg⟩
theorem OrS.bad_ (S : OrS L rg w0 w b2 b3 cs A c bs bad) : OrS L rg w0 (w.setCell ⟨rg, 1, none⟩ (.bool true)) b2 b3 cs A c bs true :=
 S.read ⟨S.rd.box.set_ 1 _, S.rd.cap, S.rd.rd.below (Below.setCell (Below.refl _ _) (p := ⟨rg, 1, none⟩) S.rd.far _), S.rd.far, S.rd.b8⟩ (Fr1.set _ _ _ _)
theorem OrS.fin (S : OrS L rg w0 w b2 b3 cs A c bs bad) (x0 x1 x2 x3 x4 x5 x6 x7 : Value) :
 Blk ((((((((w.setCell ⟨b2, 0, none⟩ x0).setCell ⟨b2, 1, none⟩ x1).setCell ⟨b2, 2, none⟩ x2).setCell ⟨b2, 3, none⟩ x3).setCell ⟨b2, 4, none⟩ x4).setCell ⟨b2, 5, none⟩ x5).setCell ⟨b2, 6, none⟩ x6).setCell ⟨b2, 7, none⟩ x7) b2 303 #[x0, x1, x2, x3, x4, x5, x6, x7] ∧
 RdAt ((((((((w.setCell ⟨b2, 0, none⟩ x0).setCell ⟨b2, 1, none⟩ x1).setCell ⟨b2, 2, none⟩ x2).setCell ⟨b2, 3, none⟩ x3).setCell ⟨b2, 4, none⟩ x4).setCell ⟨b2, 5, none⟩ x5).setCell ⟨b2, 6, none⟩ x6).setCell ⟨b2, 7, none⟩ x7) L rg A c bs bad ∧
 Fr1 rg w0 ((((((((w.setCell ⟨b2, 0, none⟩ x0).setCell ⟨b2, 1, none⟩ x1).setCell ⟨b2, 2, none⟩ x2).setCell ⟨b2, 3, none⟩ x3).setCell ⟨b2, 4, none⟩ x4).setCell ⟨b2, 5, none⟩ x5).setCell ⟨b2, 6, none⟩ x6).setCell ⟨b2, 7, none⟩ x7) := by
 have h1 : b2 ≠ rg := by have := S.h2; have := S.hrg; omega
 have h2 : L ≤ b2 := by have := S.h2; have := S.hrg; have := S.rd.far; omega
 exact ⟨S.res.setAll8 _ _ _ _ _ _ _ _, (((((((S.rd.set h1 h2).set h1 h2).set h1 h2).set h1 h2).set h1 h2).set h1 h2).set h1 h2).set h1 h2, S.fr.setAll8 S.h2 _ _ _ _ _ _ _ _⟩
theorem OrS.spares (S : OrS L rg w0 w b2 b3 cs A c bs bad) (hs : Spares w0) (hsp : 0 < L) : Spares w := fun i hi =>
 (World.cell?_of_block (a := ⟨0, i, none⟩) (S.fr.same 0 (by have := S.hrg; have := S.rd.far; omega) (by have := S.rd.far; omega))).trans (hs i hi)
end
theorem hd_of {bs bs1 bs2 bs3 bs4 : List Nat} {c1 k n s : Nat} {d1 d2 d3 d4 : Bool} (D1 : Rdd false (rdNum bs) c1 bs1 d1) (D2 : Rdd d1 (rdB bs1) k bs2 d2) (D3 : Rdd d2 (rdNum bs2) n bs3 d3) (D4 : Rdd d3 (rdNum bs3) s bs4 d4) :
 (d4 = true → rdHd bs = none) ∧ (d4 = false → rdHd bs = if okB ⟨n, k % 16, k / 16, c1, s⟩ then some (⟨n, k % 16, k / 16, c1, s⟩, bs4) else none) := by
 unfold rdHd
 cases d1 with
 | true =>
   have h1 : rdNum bs = none := by
    cases hh : rdNum bs with
    | none => rfl
    | some p => have := D1.2 rfl ⟨p, hh⟩; cases this
   rw [h1]
   refine ⟨fun _ => rfl, fun e => ?_⟩
   obtain ⟨e3, _⟩ := D4.1 e
   obtain ⟨e2, _⟩ := D3.1 e3
   obtain ⟨e1, _⟩ := D2.1 e2
   cases e1
 | false =>
   rw [(D1.1 rfl).2]
   simp only
   cases bs1 with
   | nil =>
     refine ⟨fun _ => rfl, fun e => ?_⟩
     obtain ⟨e3, _⟩ := D4.1 e
     obtain ⟨e2, _⟩ := D3.1 e3
     obtain ⟨_, e1⟩ := D2.1 e2
     cases e1
   | cons q t =>
     obtain rfl : d2 = false := D2.2 rfl ⟨_, rfl⟩
     obtain ⟨_, hq⟩ := D2.1 rfl
     injection hq with hq
     injection hq with h1 h2
     subst h1 h2
     simp only
     cases d3 with
     | true =>
       have h1 : rdNum t = none := by
        cases hh : rdNum t with
        | none => rfl
        | some p => have := D3.2 rfl ⟨p, hh⟩; cases this
       rw [h1]
       refine ⟨fun _ => rfl, fun e => ?_⟩
       obtain ⟨e3, _⟩ := D4.1 e
       cases e3
     | false =>
       rw [(D3.1 rfl).2]
       simp only
       cases d4 with
       | true =>
         have h1 : rdNum bs3 = none := by
          cases hh : rdNum bs3 with
          | none => rfl
          | some p => have := D4.2 rfl ⟨p, hh⟩; cases this
         rw [h1]
         exact ⟨fun _ => rfl, fun e => by cases e⟩
       | false =>
         rw [(D4.1 rfl).2]
         exact ⟨fun e => (by cases e), fun _ => rfl⟩
theorem rdObj_hd {bs bs4 : List Nat} {x : Hd} (h : rdHd bs = some (x, bs4)) : rdObj bs = rdFs x bs4 := by unfold rdObj; rw [h]
theorem rdObj_no {bs : List Nat} (h : rdHd bs = none) : rdObj bs = none := by unfold rdObj; rw [h]
theorem u8_low4 (x : Nat) (hx : x < 256) : bits .and .u8 (x : Int) 15 = ((x % 16 : Nat) : Int) := by
 have h := u8_and_nat x 15 hx (by omega)
 rw [show x &&& 15 = x % 16 from Nat.and_two_pow_sub_one_eq_mod x 4] at h
 exact h
set_option maxRecDepth 100000 in
set_option maxHeartbeats 8000000 in
theorem objectR_any {w : World} {L rg c : Nat} {A : Option Addr} {bs : List Nat} (R : RdAt w L rg A c bs false) (hn : bs.length ≤ 9000000) (hs : Spares w) (hsp : 0 < L) :
 Calls Tryz.prog 198 #[.pointer (some ⟨rg, 0, none⟩)] w (ObjP L rg bs w) := by
 have HR := Lib.hid R
 have hrg := R.box.lt
 have hLr := R.far
 clear R
 go_enter Tryz.func198, Tryz.ntmps198
 go_wp2_with fail
 have b2 := Blk.new w 303 #[.int .i64 0, .int .i64 0, .int .i64 0, .int .u32 0, .int .u32 0, .int .u32 0, .slice none 0 0, .int .i64 0]
 have hb0 := (Below.refl w.heap.size w).alloc (Nat.le_refl _) (.cells #[.int .i64 0, .int .i64 0, .int .i64 0, .int .u32 0, .int .u32 0, .int .u32 0, .slice none 0 0, .int .i64 0] 303)
 have HN1 := Lib.hid (rnumberI_any (HR.out.below hb0) hn)
 have hsz0 : (w.alloc (.cells #[.int .i64 0, .int .i64 0, .int .i64 0, .int .u32 0, .int .u32 0, .int .u32 0, .slice none 0 0, .int .i64 0] 303)).heap.size = w.heap.size + 1 := by simp
 have HB0 := Lib.hid hb0
 have HB2 := Lib.hid b2
 clear hb0 b2 HR
 generalize w.alloc (.cells #[.int .i64 0, .int .i64 0, .int .i64 0, .int .u32 0, .int .u32 0, .int .u32 0, .slice none 0 0, .int .i64 0] 303) = W0 at *
 refine HN1.out.mono ?_
 rintro e w1 ⟨c1, A1, k1, bs1, d1, rfl, hc1, R1, F1, D1, e1, he1⟩
 have HD1 := Lib.hid D1
 have hl1 : bs1.length ≤ 9000000 := by rw [he1, List.length_append] at hn; omega
 have hsz1 : w.heap.size + 1 ≤ w1.heap.size := by rw [← hsz0]; exact F1.size
 have S1 : OrS L rg w (w1.alloc (.cells (wrC ⟨0, 0, 0, c1, 0⟩ (.slice none 0 0) 0) 303)) w.heap.size w1.heap.size (wrC ⟨0, 0, 0, c1, 0⟩ (.slice none 0 0) 0) A1 k1 bs1 d1 :=
  ⟨R1.below ((Below.refl _ _).alloc (Nat.le_refl _) _), (Fr1.of_below HB0.out |>.trans F1).trans (Fr1.of_below ((Below.refl _ _).alloc (Nat.le_refl _) _)), ((HB2.out.fr1 F1 (by omega)).alloc _), Blk.new w1 _ _, Nat.le_refl _, by omega, by omega, hrg⟩
 have HS := Lib.hid S1
 clear S1 R1 F1 D1 HN1 HB0 HB2 he1 e1
 unfold wrC at HS
 go_upto_region 2 with fail
 generalize w1.alloc (.cells #[.int .i64 ((0 : Nat) : Int), .int .i64 ((0 : Nat) : Int), .int .i64 ((0 : Nat) : Int), .int .u32 0, .int .u32 ((0 : Nat) : Int), .int .u32 (c1 : Nat), .slice none 0 0, .int .i64 ((0 : Nat) : Int)] 303) = W1 at *
 generalize w1.heap.size = b3 at *
 have HBY := Lib.hid (rbyteI_any HS.out.rd hl1)
 go_wp2_with fail
 refine HBY.out.mono ?_
 rintro e w2 ⟨k, A2, k2, bs2, d2, rfl, hk8, R2, F2, D2, e2, he2⟩
 have HD2 := Lib.hid D2
 have HS2 := Lib.hid (HS.out.read R2 F2)
 have hl2 : bs2.length ≤ 9000000 := by rw [he2, List.length_append] at hl1; omega
 clear HBY R2 F2 D2 HS he2 e2
 have hlow := u8_low4 k hk8
 have q1 := HS2.out.box.cell 1
 have q2 := HS2.out.box.cell 2
 have y1 := HS2.out.box.frozen 1
 have y2 := HS2.out.box.frozen 2
 have HS3 := Lib.hid ((HS2.out.set 1 (.int .i64 ((k % 16 : Nat) : Int))).set 2 (.int .i64 ((k / 16 : Nat) : Int)))
 clear HS2
 go_upto_region 4 with fail
 have ek1 : ((k % 16 : Nat) : Int) = (k : Int) % 16 := by omega
 have ek2 : ((k / 16 : Nat) : Int) = (k : Int) / 16 := by omega
 have HS4 := Lib.hid (show OrS L rg w ((w2.setCell ⟨b3, 1, none⟩ (.int .i64 ((k : Int) % 16))).setCell ⟨b3, 2, none⟩ (.int .i64 ((k : Int) / 16))) w.heap.size b3 (wrC ⟨0, k % 16, k / 16, c1, 0⟩ (.slice none 0 0) 0) A2 k2 bs2 d2 from by
  have h := HS3.out
  rw [ek1, ek2] at h
  unfold wrC
  rw [show ((⟨0, k % 16, k / 16, c1, 0⟩ : Hd).fmt : Int) = (k : Int) % 16 from ek1, show ((⟨0, k % 16, k / 16, c1, 0⟩ : Hd).spare : Int) = (k : Int) / 16 from ek2]
  exact h)
 generalize (w2.setCell ⟨b3, 1, none⟩ (.int .i64 ((k : Int) % 16))).setCell ⟨b3, 2, none⟩ (.int .i64 ((k : Int) / 16)) = W3 at *
 have hfm : k % 16 < 16 := Nat.mod_lt _ (by omega)
 have hsp' : k / 16 < 16 := by omega
 clear HS3 q1 q2 y1 y2 hlow
 have HN3 := Lib.hid (rnumberI_any HS4.out.rd hl2)
 go_wp2_with fail
 refine HN3.out.mono ?_
 rintro e w3 ⟨n, A3, k3, bs3, d3, rfl, hn3, R3, F3, D3, e3, he3⟩
 have HD3 := Lib.hid D3
 have HS5 := Lib.hid (HS4.out.read R3 F3)
 have hl3 : bs3.length ≤ 9000000 := by rw [he3, List.length_append] at hl2; omega
 clear HN3 R3 F3 D3 HS4 he3 e3
 have HN4 := Lib.hid (rnumberI_any HS5.out.rd hl3)
 go_wp2_with fail
 refine HN4.out.mono ?_
 rintro e w4 ⟨s, A4, k4, bs4, d4, rfl, hs4, R4, F4, D4, e4, he4⟩
 have HD4 := Lib.hid (hd_of HD1.out HD2.out HD3.out D4)
 have HS6 := Lib.hid (HS5.out.read R4 F4)
 have hl4 : bs4.length ≤ 9000000 := by rw [he4, List.length_append] at hl3; omega
 clear HN4 R4 F4 D4 HS5 he4 e4 HD1 HD2 HD3
 have q4 := HS6.out.box.cell 4
 have y4 := HS6.out.box.frozen 4
 unfold wrC at q4
 have HS7 := Lib.hid (show OrS L rg w (w4.setCell ⟨b3, 4, none⟩ (.int .u32 (s : Nat))) w.heap.size b3 (wrC ⟨0, k % 16, k / 16, c1, s⟩ (.slice none 0 0) 0) A4 k4 bs4 d4 from HS6.out.set 4 (.int .u32 (s : Nat)))
 clear HS6
 go_upto_region 6 with fail
 generalize w4.setCell ⟨b3, 4, none⟩ (.int .u32 (s : Int)) = W5 at *
 clear q4 y4
 generalize hfmg : k % 16 = fm at *
 generalize hspg : k / 16 = sp at *
 clear hfmg hspg ek1 ek2
 by_cases hbig : 65535 < n
 ·have hbi : (65535 : Int) < (n : Int) := by omega
  have hdb : decide ((65535 : Int) < (n : Int)) = true := by simp; omega
  have HNO := Lib.hid (show rdObj bs = none from rdObj_no (by
   cases d4 with
   | true => exact HD4.out.1 rfl
   | false => rw [HD4.out.2 rfl, okB_size hbig]; rfl))
  have y1 := HS7.out.rd.box.frozen 1
  have q1 := HS7.out.rd.box.cell 1
  have HS8 := Lib.hid (HS7.out.bad_)
  clear HS7
  go_upto_region 8 with fail
  generalize W5.setCell ⟨rg, 1, none⟩ (.bool true) = W6 at *
  clear y1 q1
  have y1 := HS8.out.box.frozen 0
  have q1 := HS8.out.box.cell 0
  unfold wrC at q1
  have HS9 := Lib.hid (show OrS L rg w (W6.setCell ⟨b3, 0, none⟩ (.int .i64 (n : Nat))) w.heap.size b3 (wrC ⟨n, fm, sp, c1, s⟩ (.slice none 0 0) 0) A4 k4 bs4 true from HS8.out.set 0 (.int .i64 (n : Nat)))
  clear HS8
  go_upto_region 9 with fail
  generalize W6.setCell ⟨b3, 0, none⟩ (.int .i64 (n : Int)) = W7 at *
  clear y1 q1
  have q0 := HS9.out.box.cell 0
  have q1 := HS9.out.box.cell 1
  have q2 := HS9.out.box.cell 2
  have q3 := HS9.out.box.cell 3
  have q4 := HS9.out.box.cell 4
  unfold wrC at q0 q1 q2 q3 q4
  have HPK := Lib.hid (PackNo_any ⟨n, fm, sp, 0, s⟩ hn3 hfm hsp' (show (0 : Nat) < 4294967296 by omega) hs4 (okB_size hbig) W7 (HS9.out.spares hs hsp))
  go_wp2_with fail
  refine HPK.out.mono ?_
  rintro e w8 ⟨rfl, hb8⟩
  have HS10 := Lib.hid ((HS9.out.below hb8).below ((Below.refl _ _).alloc (Nat.le_refl _) (.cells #[.int .u32 0, .int .u32 0, .int .u32 0] 248)))
  clear HPK HS9 hb8 q0 q1 q2 q3 q4
  go_upto_region 10 with fail
  generalize w8.alloc (.cells #[.int .u32 0, .int .u32 0, .int .u32 0] 248) = W8 at *
  have y1 := HS10.out.rd.box.frozen 1
  have q1 := HS10.out.rd.box.cell 1
  have HS11 := Lib.hid (HS10.out.bad_)
  clear HS10
  go_upto_region 12 with fail
  generalize W8.setCell ⟨rg, 1, none⟩ (.bool true) = W9 at *
  clear y1 q1
  have q0 := HS11.out.box.cell 0
  have q1 := HS11.out.box.cell 1
  have q2 := HS11.out.box.cell 2
  have q3 := HS11.out.box.cell 3
  have q4 := HS11.out.box.cell 4
  have q5 := HS11.out.box.cell 5
  have q6 := HS11.out.box.cell 6
  have q7 := HS11.out.box.cell 7
  unfold wrC at q0 q1 q2 q3 q4 q5 q6 q7
  have z0 := HS11.out.res.frozen 0
  have z1 := HS11.out.res.frozen 1
  have z2 := HS11.out.res.frozen 2
  have z3 := HS11.out.res.frozen 3
  have z4 := HS11.out.res.frozen 4
  have z5 := HS11.out.res.frozen 5
  have z6 := HS11.out.res.frozen 6
  have z7 := HS11.out.res.frozen 7
  have d0 := HS11.out.res.cell 0
  have d1 := HS11.out.res.cell 1
  have d2 := HS11.out.res.cell 2
  have d3 := HS11.out.res.cell 3
  have d4 := HS11.out.res.cell 4
  have d5 := HS11.out.res.cell 5
  have d6 := HS11.out.res.cell 6
  have d7 := HS11.out.res.cell 7
  have r1 := HS11.out.rd.box.cell 1
  obtain ⟨BF, RF, FF⟩ := HS11.out.fin (.int .i64 n) (.int .i64 fm) (.int .i64 sp) (.int .u32 0) (.int .u32 s) (.int .u32 c1) (.slice none 0 0) (.int .i64 0)
  have HBF := Lib.hid BF
  have HRF := Lib.hid RF
  have HFF := Lib.hid FF
  clear BF RF FF
  go_wp2_with fail
  generalize ((((((((W9.setCell ⟨w.heap.size, 0, none⟩ (.int .i64 (n : Int))).setCell ⟨w.heap.size, 1, none⟩ (.int .i64 (fm : Int))).setCell ⟨w.heap.size, 2, none⟩ (.int .i64 (sp : Int))).setCell ⟨w.heap.size, 3, none⟩ (.int .u32 0)).setCell ⟨w.heap.size, 4, none⟩ (.int .u32 (s : Int))).setCell ⟨w.heap.size, 5, none⟩ (.int .u32 (c1 : Int))).setCell ⟨w.heap.size, 6, none⟩ (.slice none 0 0)).setCell ⟨w.heap.size, 7, none⟩ (.int .i64 0)) = WF at *
  clear q0 z0 d0 q1 z1 d1 q2 z2 d2 q3 z3 d3 q4 z4 d4 q5 z5 d5 q6 z6 d6 q7 z7 d7
  have f0 := HBF.out.cell 0
  have f1 := HBF.out.cell 1
  have f2 := HBF.out.cell 2
  have f3 := HBF.out.cell 3
  have f4 := HBF.out.cell 4
  have f5 := HBF.out.cell 5
  have f6 := HBF.out.cell 6
  have f7 := HBF.out.cell 7
  refine bodyPost_ret (v := wrV ⟨n, fm, sp, c1, s⟩ (.slice none 0 0) 0) (by simp [results, Tryz.results198, go_sem, wrV, wrC, f0, f1, f2, f3, f4, f5, f6, f7]) rfl ?_
  exact ⟨_, _, _, _, true, rfl, ⟨_, _, _, _, rfl⟩, HRF.out, HFF.out, fun _ => HNO.out, fun h => by cases h⟩
 ·have hbi : ¬ (65535 : Int) < (n : Int) := by omega
  have hdb : decide ((65535 : Int) < (n : Int)) = false := by simp; omega
  go_upto_region 8 with fail
  have y1 := HS7.out.box.frozen 0
  have q1 := HS7.out.box.cell 0
  unfold wrC at q1
  have HS9 := Lib.hid (show OrS L rg w (W5.setCell ⟨b3, 0, none⟩ (.int .i64 (n : Nat))) w.heap.size b3 (wrC ⟨n, fm, sp, c1, s⟩ (.slice none 0 0) 0) A4 k4 bs4 d4 from HS7.out.set 0 (.int .i64 (n : Nat)))
  clear HS7
  go_upto_region 9 with fail
  generalize W5.setCell ⟨b3, 0, none⟩ (.int .i64 (n : Int)) = W7 at *
  clear y1 q1
  by_cases hok : okB ⟨n, fm, sp, c1, s⟩ = true
  ·skip
   obtain ⟨hfit, hmay⟩ := okB_fit hok hc1 hs4
   have HMAY := Lib.hid hmay
   have hfit0 : (⟨n, fm, sp, 0, s⟩ : Hd).Fit := ⟨hfit.size, hfit.fmt, hfit.spare, show (0 : Nat) < 4294967296 by omega, hs4⟩
   have hmay0 : (⟨n, fm, sp, 0, s⟩ : Hd).may = true := hmay
   have HPK := Lib.hid (Pack_any ⟨n, fm, sp, 0, s⟩ hfit0 hmay0 W7 (HS9.out.spares hs hsp))
   clear hmay hmay0
   have q0 := HS9.out.box.cell 0
   have q1 := HS9.out.box.cell 1
   have q2 := HS9.out.box.cell 2
   have q3 := HS9.out.box.cell 3
   have q4 := HS9.out.box.cell 4
   unfold wrC at q0 q1 q2 q3 q4
   go_wp2_with fail
   refine HPK.out.mono ?_
   rintro e w8 ⟨rfl, hb8⟩
   rw [show (⟨n, fm, sp, 0, s⟩ : Hd).packed = .agg #[.int .u32 (⟨n, fm, sp, 0, s⟩ : Hd).w0, .int .u32 ((0 : Nat) : Int), .int .u32 (s : Nat)] from rfl]
   generalize (⟨n, fm, sp, 0, s⟩ : Hd).w0 = w0v at *
   have HS10 := Lib.hid ((HS9.out.below hb8).below ((Below.refl _ _).alloc (Nat.le_refl _) (.cells #[.int .u32 (w0v : Nat), .int .u32 0, .int .u32 (s : Nat)] 248)))
   clear HPK HS9 hb8 q0 q1 q2 q3 q4
   go_upto_region 10 with fail
   generalize w8.alloc (.cells #[.int .u32 (w0v : Int), .int .u32 0, .int .u32 (s : Int)] 248) = W8 at *
   have r1 := HS10.out.rd.box.cell 1
   cases d4 with
   | true =>
     have HNO := Lib.hid (show rdObj bs = none from rdObj_no (HD4.out.1 rfl))
     clear HD4 r1
     have q0 := HS10.out.box.cell 0
     have q1 := HS10.out.box.cell 1
     have q2 := HS10.out.box.cell 2
     have q3 := HS10.out.box.cell 3
     have q4 := HS10.out.box.cell 4
     have q5 := HS10.out.box.cell 5
     have q6 := HS10.out.box.cell 6
     have q7 := HS10.out.box.cell 7
     unfold wrC at q0 q1 q2 q3 q4 q5 q6 q7
     have z0 := HS10.out.res.frozen 0
     have z1 := HS10.out.res.frozen 1
     have z2 := HS10.out.res.frozen 2
     have z3 := HS10.out.res.frozen 3
     have z4 := HS10.out.res.frozen 4
     have z5 := HS10.out.res.frozen 5
     have z6 := HS10.out.res.frozen 6
     have z7 := HS10.out.res.frozen 7
     have d0 := HS10.out.res.cell 0
     have d1 := HS10.out.res.cell 1
     have d2 := HS10.out.res.cell 2
     have d3 := HS10.out.res.cell 3
     have d4 := HS10.out.res.cell 4
     have d5 := HS10.out.res.cell 5
     have d6 := HS10.out.res.cell 6
     have d7 := HS10.out.res.cell 7
     have r1 := HS10.out.rd.box.cell 1
     obtain ⟨BF, RF, FF⟩ := HS10.out.fin (.int .i64 n) (.int .i64 fm) (.int .i64 sp) (.int .u32 0) (.int .u32 s) (.int .u32 c1) (.slice none 0 0) (.int .i64 0)
     have HBF := Lib.hid BF
     have HRF := Lib.hid RF
     have HFF := Lib.hid FF
     clear BF RF FF
     go_wp2_with fail
     generalize ((((((((W8.setCell ⟨w.heap.size, 0, none⟩ (.int .i64 (n : Int))).setCell ⟨w.heap.size, 1, none⟩ (.int .i64 (fm : Int))).setCell ⟨w.heap.size, 2, none⟩ (.int .i64 (sp : Int))).setCell ⟨w.heap.size, 3, none⟩ (.int .u32 0)).setCell ⟨w.heap.size, 4, none⟩ (.int .u32 (s : Int))).setCell ⟨w.heap.size, 5, none⟩ (.int .u32 (c1 : Int))).setCell ⟨w.heap.size, 6, none⟩ (.slice none 0 0)).setCell ⟨w.heap.size, 7, none⟩ (.int .i64 0)) = WF at *
     clear q0 z0 d0 q1 z1 d1 q2 z2 d2 q3 z3 d3 q4 z4 d4 q5 z5 d5 q6 z6 d6 q7 z7 d7
     have f0 := HBF.out.cell 0
     have f1 := HBF.out.cell 1
     have f2 := HBF.out.cell 2
     have f3 := HBF.out.cell 3
     have f4 := HBF.out.cell 4
     have f5 := HBF.out.cell 5
     have f6 := HBF.out.cell 6
     have f7 := HBF.out.cell 7
     refine bodyPost_ret (v := wrV ⟨n, fm, sp, c1, s⟩ (.slice none 0 0) 0) (by simp [results, Tryz.results198, go_sem, wrV, wrC, f0, f1, f2, f3, f4, f5, f6, f7]) rfl ?_
     exact ⟨_, _, _, _, true, rfl, ⟨_, _, _, _, rfl⟩, HRF.out, HFF.out, fun _ => HNO.out, fun h => by cases h⟩
   | false =>
     have HRD := Lib.hid (show rdObj bs = rdFs ⟨n, fm, sp, c1, s⟩ bs4 from rdObj_hd (by rw [HD4.out.2 rfl, if_pos hok]))
     clear HD4
     go_upto_region 14 with fail
     clear r1
     have q0 := HS10.out.box.cell 0
     have q1 := HS10.out.box.cell 1
     have q2 := HS10.out.box.cell 2
     have q3 := HS10.out.box.cell 3
     have q4 := HS10.out.box.cell 4
     have q5 := HS10.out.box.cell 5
     have q6 := HS10.out.box.cell 6
     have q7 := HS10.out.box.cell 7
     unfold wrC at q0 q1 q2 q3 q4 q5 q6 q7
     by_cases h2 : fm = 2
     ·have hd2 : ((fm : Int) == 2) = true := by simp; omega
      have hsp4 : sp < 4 := hfit.spare
      have hnl : n < 16777216 := hfit.size
      have hm0 : sp ≤ 4 * n := by have := HMAY.out; unfold Hd.may at this; simp at this; omega
      have hn65 : n ≤ 65535 := by have := HMAY.out; unfold Hd.may at this; simp at this; omega
      have HFM := Lib.hid h2
      have HBY := Lib.hid (rbytesI_any HS10.out.rd hl4 (4 * n - sp) (by omega))
      clear h2
      go_wp2_with fail
      rw [show (4 * (n : Int) - (sp : Int)) = ((4 * n - sp : Nat) : Int) by omega]
      refine HBY.out.mono ?_
      rintro e w9 ⟨F9, (⟨hle, rfl, R9⟩ | ⟨hlt, rfl, R9⟩)⟩
      ·have HS12 := Lib.hid (HS10.out.read R9 F9)
       have hb39 : b3 < w9.heap.size := HS12.out.box.lt
       have hb29 : w.heap.size < w9.heap.size := HS12.out.res.lt
       have hLw : L ≤ w9.heap.size := by have := HS12.out.rd.box.lt; have := HS12.out.rd.far; omega
       have HPB := Lib.hid (packBytes_any (w := w9) (tailA A4 k4 0) (4 * n - sp) k4 L (bs4.take (4 * n - sp)) (by omega) ((reads_head (k := 4 * n - sp) (c := k4) HS10.out.rd.rd (by omega)).below (F9.below HS10.out.rd.far (by have := HS10.out.rd.box.lt; have := HS10.out.rd.far; omega))) hLw (fun x hx => HS10.out.rd.b8 x (List.mem_of_mem_take hx)))
       have HRF1 := Lib.hid (show rdObj bs = some (⟨⟨n, fm, sp, c1, s⟩, packM (bs4.take (4 * n - sp))⟩, bs4.drop (4 * n - sp)) from by
        rw [HRD.out]; unfold rdFs; rw [if_pos HFM.out, if_pos hle])
       unfold PackedB at HPB
       generalize packM (bs4.take (4 * n - sp)) = fs at *
       clear R9 F9 HS10 HBY q0 q1 q2 q3 q4 q5 q6 q7
       go_wp2_with fail
       refine HPB.out.mono ?_
       rintro e w10 ⟨g, rfl, hrow, hg, hb10⟩
       have HS13 := Lib.hid (HS12.out.below hb10)
       have HRW := Lib.hid (show Reads w10 w10.heap.size 1 (some ⟨g, 0, none⟩) fs.length (u32s fs) from by
        have h := hrow.reads hrow.lt
        rw [u32s_len] at h
        exact h)
       have hg3 : g ≠ b3 := by omega
       have hg2 : g ≠ w.heap.size := by omega
       have hgw : w.heap.size ≤ g := by omega
       clear HPB HS12 hrow hg hb10
       have q6 := HS13.out.box.cell 6
       have y6 := HS13.out.box.frozen 6
       unfold wrC at q6
       have HS14 := Lib.hid (show OrS L rg w (w10.setCell ⟨b3, 6, none⟩ (.slice (some ⟨g, 0, none⟩) fs.length fs.length)) w.heap.size b3 (wrC ⟨n, fm, sp, c1, s⟩ (.slice (some ⟨g, 0, none⟩) fs.length fs.length) 0) (tailA A4 k4 (4 * n - sp)) (k4 - (4 * n - sp)) (bs4.drop (4 * n - sp)) false from HS13.out.set 6 (.slice (some ⟨g, 0, none⟩) fs.length fs.length))
       have HRX := Lib.hid (reads1 (g := b3) (i := 6) (v := .slice (some ⟨g, 0, none⟩) fs.length fs.length) HRW.out (fun _ a ha => by injection ha with ha; rw [← ha]; exact hg3))
       clear HS13 HRW
       go_upto_region 17 with fail
       generalize w10.setCell ⟨b3, 6, none⟩ (.slice (some ⟨g, 0, none⟩) fs.length fs.length) = W11 at *
       clear q6 y6
       have HR8 := Lib.hid (reads8 (g := w.heap.size) HRX.out (fun _ a ha => by injection ha with ha; rw [← ha]; exact hg2) (.int .i64 n) (.int .i64 fm) (.int .i64 sp) (.int .u32 0) (.int .u32 s) (.int .u32 c1) (.slice (some ⟨g, 0, none⟩) fs.length fs.length) (.int .i64 0))
       clear HRX
       have q0 := HS14.out.box.cell 0
       have q1 := HS14.out.box.cell 1
       have q2 := HS14.out.box.cell 2
       have q3 := HS14.out.box.cell 3
       have q4 := HS14.out.box.cell 4
       have q5 := HS14.out.box.cell 5
       have q6 := HS14.out.box.cell 6
       have q7 := HS14.out.box.cell 7
       unfold wrC at q0 q1 q2 q3 q4 q5 q6 q7
       have z0 := HS14.out.res.frozen 0
       have z1 := HS14.out.res.frozen 1
       have z2 := HS14.out.res.frozen 2
       have z3 := HS14.out.res.frozen 3
       have z4 := HS14.out.res.frozen 4
       have z5 := HS14.out.res.frozen 5
       have z6 := HS14.out.res.frozen 6
       have z7 := HS14.out.res.frozen 7
       have d0 := HS14.out.res.cell 0
       have d1 := HS14.out.res.cell 1
       have d2 := HS14.out.res.cell 2
       have d3 := HS14.out.res.cell 3
       have d4 := HS14.out.res.cell 4
       have d5 := HS14.out.res.cell 5
       have d6 := HS14.out.res.cell 6
       have d7 := HS14.out.res.cell 7
       have r1 := HS14.out.rd.box.cell 1
       obtain ⟨BF, RF, FF⟩ := HS14.out.fin (.int .i64 n) (.int .i64 fm) (.int .i64 sp) (.int .u32 0) (.int .u32 s) (.int .u32 c1) (.slice (some ⟨g, 0, none⟩) fs.length fs.length) (.int .i64 0)
       have HBF := Lib.hid BF
       have HRF := Lib.hid RF
       have HFF := Lib.hid FF
       clear BF RF FF
       go_wp2_with fail
       generalize ((((((((W11.setCell ⟨w.heap.size, 0, none⟩ (.int .i64 (n : Int))).setCell ⟨w.heap.size, 1, none⟩ (.int .i64 (fm : Int))).setCell ⟨w.heap.size, 2, none⟩ (.int .i64 (sp : Int))).setCell ⟨w.heap.size, 3, none⟩ (.int .u32 0)).setCell ⟨w.heap.size, 4, none⟩ (.int .u32 (s : Int))).setCell ⟨w.heap.size, 5, none⟩ (.int .u32 (c1 : Int))).setCell ⟨w.heap.size, 6, none⟩ (.slice (some ⟨g, 0, none⟩) fs.length fs.length)).setCell ⟨w.heap.size, 7, none⟩ (.int .i64 0)) = WF at *
       clear q0 z0 d0 q1 z1 d1 q2 z2 d2 q3 z3 d3 q4 z4 d4 q5 z5 d5 q6 z6 d6 q7 z7 d7
       have f0 := HBF.out.cell 0
       have f1 := HBF.out.cell 1
       have f2 := HBF.out.cell 2
       have f3 := HBF.out.cell 3
       have f4 := HBF.out.cell 4
       have f5 := HBF.out.cell 5
       have f6 := HBF.out.cell 6
       have f7 := HBF.out.cell 7
       refine bodyPost_ret (v := wrV ⟨n, fm, sp, c1, s⟩ (.slice (some ⟨g, 0, none⟩) fs.length fs.length) 0) (by simp [results, Tryz.results198, go_sem, wrV, wrC, f0, f1, f2, f3, f4, f5, f6, f7]) rfl ?_
       exact ⟨_, _, _, _, false, rfl, ⟨_, _, _, _, rfl⟩, HRF.out, HFF.out, fun h => (by cases h), fun _ => ⟨_, HRF1.out, some ⟨g, 0, none⟩, fs.length, rfl, HR8.out, fun a ha => by injection ha with ha; rw [← ha]; exact hgw⟩⟩
      ·have HS12 := Lib.hid (HS10.out.read R9 F9)
       have hb39 : b3 < w9.heap.size := HS12.out.box.lt
       have hb29 : w.heap.size < w9.heap.size := HS12.out.res.lt
       have hLw : L ≤ w9.heap.size := by have := HS12.out.rd.box.lt; have := HS12.out.rd.far; omega
       have HPB := Lib.hid (packBytes_any (w := w9) none 0 0 L [] (by omega) Reads.none_ hLw (fun x hx => by cases hx))
       have HNO := Lib.hid (show rdObj bs = none from by
        rw [HRD.out]; unfold rdFs; rw [if_pos HFM.out, if_neg (by show ¬ 4 * n - sp ≤ bs4.length; omega)])
       unfold PackedB at HPB
       generalize packM [] = fs at *
       clear R9 F9 HS10 HBY q0 q1 q2 q3 q4 q5 q6 q7
       go_wp2_with fail
       refine HPB.out.mono ?_
       rintro e w10 ⟨g, rfl, hrow, hg, hb10⟩
       have HS13 := Lib.hid (HS12.out.below hb10)
       have HRW := Lib.hid (show Reads w10 w10.heap.size 1 (some ⟨g, 0, none⟩) fs.length (u32s fs) from by
        have h := hrow.reads hrow.lt
        rw [u32s_len] at h
        exact h)
       have hg3 : g ≠ b3 := by omega
       have hg2 : g ≠ w.heap.size := by omega
       have hgw : w.heap.size ≤ g := by omega
       clear HPB HS12 hrow hg hb10
       have q6 := HS13.out.box.cell 6
       have y6 := HS13.out.box.frozen 6
       unfold wrC at q6
       have HS14 := Lib.hid (show OrS L rg w (w10.setCell ⟨b3, 6, none⟩ (.slice (some ⟨g, 0, none⟩) fs.length fs.length)) w.heap.size b3 (wrC ⟨n, fm, sp, c1, s⟩ (.slice (some ⟨g, 0, none⟩) fs.length fs.length) 0) A4 k4 bs4 true from HS13.out.set 6 (.slice (some ⟨g, 0, none⟩) fs.length fs.length))
       have HRX := Lib.hid (reads1 (g := b3) (i := 6) (v := .slice (some ⟨g, 0, none⟩) fs.length fs.length) HRW.out (fun _ a ha => by injection ha with ha; rw [← ha]; exact hg3))
       clear HS13 HRW
       go_upto_region 17 with fail
       generalize w10.setCell ⟨b3, 6, none⟩ (.slice (some ⟨g, 0, none⟩) fs.length fs.length) = W11 at *
       clear q6 y6
       clear HRX
       have q0 := HS14.out.box.cell 0
       have q1 := HS14.out.box.cell 1
       have q2 := HS14.out.box.cell 2
       have q3 := HS14.out.box.cell 3
       have q4 := HS14.out.box.cell 4
       have q5 := HS14.out.box.cell 5
       have q6 := HS14.out.box.cell 6
       have q7 := HS14.out.box.cell 7
       unfold wrC at q0 q1 q2 q3 q4 q5 q6 q7
       have z0 := HS14.out.res.frozen 0
       have z1 := HS14.out.res.frozen 1
       have z2 := HS14.out.res.frozen 2
       have z3 := HS14.out.res.frozen 3
       have z4 := HS14.out.res.frozen 4
       have z5 := HS14.out.res.frozen 5
       have z6 := HS14.out.res.frozen 6
       have z7 := HS14.out.res.frozen 7
       have d0 := HS14.out.res.cell 0
       have d1 := HS14.out.res.cell 1
       have d2 := HS14.out.res.cell 2
       have d3 := HS14.out.res.cell 3
       have d4 := HS14.out.res.cell 4
       have d5 := HS14.out.res.cell 5
       have d6 := HS14.out.res.cell 6
       have d7 := HS14.out.res.cell 7
       have r1 := HS14.out.rd.box.cell 1
       obtain ⟨BF, RF, FF⟩ := HS14.out.fin (.int .i64 n) (.int .i64 fm) (.int .i64 sp) (.int .u32 0) (.int .u32 s) (.int .u32 c1) (.slice (some ⟨g, 0, none⟩) fs.length fs.length) (.int .i64 0)
       have HBF := Lib.hid BF
       have HRF := Lib.hid RF
       have HFF := Lib.hid FF
       clear BF RF FF
       go_wp2_with fail
       generalize ((((((((W11.setCell ⟨w.heap.size, 0, none⟩ (.int .i64 (n : Int))).setCell ⟨w.heap.size, 1, none⟩ (.int .i64 (fm : Int))).setCell ⟨w.heap.size, 2, none⟩ (.int .i64 (sp : Int))).setCell ⟨w.heap.size, 3, none⟩ (.int .u32 0)).setCell ⟨w.heap.size, 4, none⟩ (.int .u32 (s : Int))).setCell ⟨w.heap.size, 5, none⟩ (.int .u32 (c1 : Int))).setCell ⟨w.heap.size, 6, none⟩ (.slice (some ⟨g, 0, none⟩) fs.length fs.length)).setCell ⟨w.heap.size, 7, none⟩ (.int .i64 0)) = WF at *
       clear q0 z0 d0 q1 z1 d1 q2 z2 d2 q3 z3 d3 q4 z4 d4 q5 z5 d5 q6 z6 d6 q7 z7 d7
       have f0 := HBF.out.cell 0
       have f1 := HBF.out.cell 1
       have f2 := HBF.out.cell 2
       have f3 := HBF.out.cell 3
       have f4 := HBF.out.cell 4
       have f5 := HBF.out.cell 5
       have f6 := HBF.out.cell 6
       have f7 := HBF.out.cell 7
       refine bodyPost_ret (v := wrV ⟨n, fm, sp, c1, s⟩ (.slice (some ⟨g, 0, none⟩) fs.length fs.length) 0) (by simp [results, Tryz.results198, go_sem, wrV, wrC, f0, f1, f2, f3, f4, f5, f6, f7]) rfl ?_
       exact ⟨_, _, _, _, true, rfl, ⟨_, _, _, _, rfl⟩, HRF.out, HFF.out, fun _ => HNO.out, fun h => by cases h⟩
     ·have hd2 : ((fm : Int) == 2) = false := by simp; omega
      have HFM := Lib.hid h2
      have hn65 : n ≤ 65535 := by have := HMAY.out; unfold Hd.may at this; simp at this; omega
      have hb38 : b3 < W8.heap.size := HS10.out.box.lt
      have hb28 : w.heap.size < W8.heap.size := HS10.out.res.lt
      clear h2
      go_wp2_with fail
      clear q0 q1 q2 q3 q4 q5 q6 q7
      obtain ⟨i0, hi0, hz0, hz1, hz2⟩ := info_parts info_u32
      go_loopw [80] (fun i wr => ∃ (k' : Nat) (fs : List Nat) (vf : Value) (A' : Option Addr) (c' : Nat) (bs' : List Nat), i = .int .i64 k' ∧ k' ≤ n ∧ OrS L rg w wr w.heap.size b3 (wrC ⟨n, fm, sp, c1, s⟩ vf 0) A' c' bs' false ∧ wr.ownsRow W8.heap.size 32 1 vf k' (u32s fs) ∧ rdK k' bs4 = some (fs, bs') ∧ W8.heap.size ≤ wr.heap.size) (fun i _ => n - (intOf i).toNat)
      case atStart => exact ⟨0, [], .slice none 0 0, A4, k4, bs4, rfl, Nat.zero_le _, HS10.out, ⟨rfl, .inl ⟨rfl, rfl⟩⟩, rfl, Nat.le_refl _⟩
      case round =>
       clear HS10
       obtain ⟨k', fs, vf, A', c', bs', rfl, hk', S, O, K, hW8⟩ := hrel
       have HS := Lib.hid S
       have HO := Lib.hid O
       have HK := Lib.hid K
       have hfl := (rdK_len _ _ _ _ K).1
       have hbl : bs'.length ≤ 9000000 := by have := (rdK_len _ _ _ _ K).2.1; omega
       clear S O K
       by_cases hkn : k' < n
       ·have hd : decide ((k' : Int) < (n : Int)) = true := by simp; omega
        go_upto_region 20 with fail
        refine wp_region_U 7 (fun w' => w'.cell? ⟨b3, 6, none⟩ = some vf ∧ True) (by kernel_rfl) ?_
        have hbd : Below wr.heap.size wr wr.drew := ⟨rfl, rfl, rfl, Nat.le_refl _, fun _ _ => rfl⟩
        have HS5 := Lib.hid (HS.out.below hbd)
        have HO5 := Lib.hid (own_sameI HO.out (fun q hq => hbd.block q (HO.out.lt q hq).2))
        have hW5 : W8.heap.size ≤ wr.drew.heap.size := hW8
        clear hbd HS HO hW8
        generalize wr.drew = wq at *
        have hS : wq.cell? ⟨b3, 6, none⟩ = some vf ∧ True := ⟨HS5.out.box.cell 6, trivial⟩
        refine U_read 0 (v := (.pointer (some ⟨b3, 6, none⟩))) rfl (by kernel_rfl) (fun _ _ _ h => h) hS (by rfl) (fun w' hw' => by obtain ⟨h0, h1⟩ := hw'; go_simp) ?_
        try simp only [Act.put, List.setIfInBounds_toArray, List.set_cons_zero, List.set_cons_succ]
        refine U_read 1 (v := vf) rfl (by kernel_rfl) (fun _ _ _ h => h) hS (by rfl) (fun w' hw' => by obtain ⟨h0, h1⟩ := hw'; go_simp) ?_
        try simp only [Act.put, List.setIfInBounds_toArray, List.set_cons_zero, List.set_cons_succ]
        refine U_read 2 (v := (.pointer (some ⟨rg, 0, none⟩))) rfl (by kernel_rfl) (fun _ _ _ h => h) hS (by rfl) (fun w' hw' => by obtain ⟨h0, h1⟩ := hw'; go_simp) ?_
        try simp only [Act.put, List.setIfInBounds_toArray, List.set_cons_zero, List.set_cons_succ]
        refine U_one 3 (by kernel_rfl) rfl rfl (fun K hK => ?_)
        go_simp
        refine (rnumberI_any HS5.out.rd hbl).mono ?_
        rintro e w6 ⟨n6, A6, c6, bs6, bad6, rfl, hn6, R6, F6, D6, -⟩
        have HS6 := Lib.hid (HS5.out.read R6 F6)
        have HO6 := Lib.hid (own_sameI HO5.out (fun q hq => F6.same q (HO5.out.lt q hq).2 (by have := (HO5.out.lt q hq).1; omega)))
        have hW6 : W8.heap.size ≤ w6.heap.size := Nat.le_trans hW5 F6.size
        have HD6 := Lib.hid D6
        clear R6 F6 D6 HS5 HO5 hW5
        have hS6 : w6.cell? ⟨b3, 6, none⟩ = some vf ∧ True := ⟨HS6.out.box.cell 6, trivial⟩
        refine hK _ _ (fun _ => hS6) ?_
        clear hK K
        try simp only [Act.put, List.setIfInBounds_toArray, List.set_cons_zero, List.set_cons_succ]
        refine U_one 4 (by kernel_rfl) rfl rfl (fun K hK => ?_)
        go_simp
        have HS7 := Lib.hid (HS6.out.below ((Below.refl _ _).alloc (Nat.le_refl _) (.cells #[.int .u32 (n6 : Nat)] 32)))
        have HO7 := Lib.hid (own_sameI (w' := w6.alloc (.cells #[.int .u32 (n6 : Nat)] 32)) HO6.out (fun q hq => ((Below.refl w6.heap.size w6).alloc (Nat.le_refl _) (.cells #[.int .u32 (n6 : Nat)] 32)).block q (HO6.out.lt q hq).2))
        have hS7 : (w6.alloc (.cells #[.int .u32 (n6 : Nat)] 32)).cell? ⟨b3, 6, none⟩ = some vf ∧ True := ⟨HS7.out.box.cell 6, trivial⟩
        refine hK _ _ (fun _ => hS7) ?_
        clear hK K
        try simp only [Act.put, List.setIfInBounds_toArray, List.set_cons_zero, List.set_cons_succ]
        refine U_one 5 (by kernel_rfl) rfl rfl (fun K hK => ?_)
        refine wp_append_any _ (.tmp 83) (.tmp 86) _ rfl W8.heap.size 32 i0 _ 1 4 Tryz.underlying84 hi0 hz0 hz1 hz2 rfl (by omega) vf k' (u32s fs) rfl HO7.out (w6.heap.size + 1) (some ⟨w6.heap.size, 0, none⟩) 1 1 (u32s [n6]) rfl ⟨rfl, fun _ => ⟨_, rfl, by simp, cell_one_new _ _ _⟩⟩ (one_u32s _) (by simp only [maxLen]; omega) (by omega) (by simp; omega) ?_
        intro v8 w8' hown8 hg8 hat8
        obtain ⟨g8, c8, rfl, -, -, hge8⟩ := Row.of_any hown8 (by omega)
        have hsame : ∀ q, q < W8.heap.size → w8'.heap[q]? = (w6.alloc (.cells #[.int .u32 (n6 : Nat)] 32)).heap[q]? := fun q hq => hg8.block q (by simp; omega) (fun e => by have := (HO7.out.lt q (by first | exact e | exact e.symm)).1; omega)
        have HS8 := Lib.hid (show OrS L rg w w8' w.heap.size b3 (wrC ⟨n, fm, sp, c1, s⟩ vf 0) A6 c6 bs6 bad6 from
         ⟨⟨HS7.out.rd.box.same (hsame rg (by have := HS7.out.hrg; omega)), HS7.out.rd.cap, HS7.out.rd.rd.keep (fun p hp => World.cell?_of_block (hsame p.block (by have := HS7.out.rd.far; have := HS7.out.hrg; omega))), HS7.out.rd.far, HS7.out.rd.b8⟩, ⟨hg8.os.trans HS7.out.fr.os, hg8.tape.trans HS7.out.fr.tape, hg8.output.trans HS7.out.fr.output, Nat.le_trans HS7.out.fr.size hg8.size, fun q hq hne => (hsame q (by omega)).trans (HS7.out.fr.same q hq hne)⟩, HS7.out.res.same (hsame _ hb28), HS7.out.box.same (hsame _ hb38), HS7.out.h2, HS7.out.h3, HS7.out.ne, HS7.out.hrg⟩)
        have HO8 := Lib.hid hown8
        have hW8' : W8.heap.size ≤ w8'.heap.size := Nat.le_trans (by simp; omega) hg8.size
        clear hown8 hg8 hat8 hsame HS6 HO6 HS7 HO7
        have hS8 : w8'.cell? ⟨b3, 6, none⟩ = some vf ∧ True := ⟨HS8.out.box.cell 6, trivial⟩
        have hcu := hS8.1
        have hfz := HS8.out.box.frozen 6
        refine hK _ _ (fun _ => hS8) ?_
        clear hK K
        try simp only [Act.put, List.setIfInBounds_toArray, List.set_cons_zero, List.set_cons_succ]
        refine U_one 6 (by kernel_rfl) rfl rfl (fun K hK => ?_)
        go_simp
        refine hK _ _ (fun _ => hS8) ?_
        clear hK K
        try simp only [Act.put, List.setIfInBounds_toArray, List.set_cons_zero, List.set_cons_succ]
        refine U_one 7 (by kernel_rfl) rfl rfl (fun K hK => ?_)
        go_simp
        refine hK _ _ (fun h => absurd h (by decide)) ?_
        clear hK K
        try simp only [Act.put, List.setIfInBounds_toArray, List.set_cons_zero, List.set_cons_succ]
        refine U_done (by kernel_rfl) ?_ _
        simp only [Calm, Exit.then]
        have HS9 := Lib.hid (show OrS L rg w (w8'.setCell ⟨b3, 6, none⟩ (.slice (some ⟨g8, 0, none⟩) (k' + 1) c8)) w.heap.size b3 (wrC ⟨n, fm, sp, c1, s⟩ (.slice (some ⟨g8, 0, none⟩) (k' + 1) c8) 0) A6 c6 bs6 bad6 from HS8.out.set 6 (.slice (some ⟨g8, 0, none⟩) (k' + 1) c8))
        have HO9 := Lib.hid (own_sameI (w' := w8'.setCell ⟨b3, 6, none⟩ (.slice (some ⟨g8, 0, none⟩) (k' + 1) c8)) HO8.out (fun q hq => Below.heap_setCell w8' ⟨b3, 6, none⟩ (.slice (some ⟨g8, 0, none⟩) (k' + 1) c8) q (by show q ≠ b3; have := (HO8.out.lt q hq).1; omega)))
        have hW9 : W8.heap.size ≤ (w8'.setCell ⟨b3, 6, none⟩ (.slice (some ⟨g8, 0, none⟩) (k' + 1) c8)).heap.size := by simp [World.setCell]; exact hW8'
        clear HS8 HO8 hW8' hS hS6 hS7 hS8 hcu hfz
        generalize w8'.setCell ⟨b3, 6, none⟩ (.slice (some ⟨g8, 0, none⟩) (k' + 1) c8) = W9 at *
        have r1 := HS9.out.rd.box.cell 1
        cases bad6 with
        | true =>
          have HNO := Lib.hid (show rdObj bs = none from by
           rw [HRD.out]
           unfold rdFs
           rw [if_neg HFM.out]
           have h1 : rdNum bs' = none := by
            cases hh : rdNum bs' with
            | none => rfl
            | some q => have := HD6.out.2 rfl ⟨q, hh⟩; cases this
           have h2 := rdK_snoc _ _ _ _ HK.out
           rw [h1] at h2
           rw [show rdK n bs4 = none from rdK_stop n (k' + 1) bs4 h2 (by omega)])
          clear HD6 HRD HO9 HK r1
          have q0 := HS9.out.box.cell 0
          have q1 := HS9.out.box.cell 1
          have q2 := HS9.out.box.cell 2
          have q3 := HS9.out.box.cell 3
          have q4 := HS9.out.box.cell 4
          have q5 := HS9.out.box.cell 5
          have q6 := HS9.out.box.cell 6
          have q7 := HS9.out.box.cell 7
          unfold wrC at q0 q1 q2 q3 q4 q5 q6 q7
          have z0 := HS9.out.res.frozen 0
          have z1 := HS9.out.res.frozen 1
          have z2 := HS9.out.res.frozen 2
          have z3 := HS9.out.res.frozen 3
          have z4 := HS9.out.res.frozen 4
          have z5 := HS9.out.res.frozen 5
          have z6 := HS9.out.res.frozen 6
          have z7 := HS9.out.res.frozen 7
          have d0 := HS9.out.res.cell 0
          have d1 := HS9.out.res.cell 1
          have d2 := HS9.out.res.cell 2
          have d3 := HS9.out.res.cell 3
          have d4 := HS9.out.res.cell 4
          have d5 := HS9.out.res.cell 5
          have d6 := HS9.out.res.cell 6
          have d7 := HS9.out.res.cell 7
          have r1 := HS9.out.rd.box.cell 1
          obtain ⟨BF, RF, FF⟩ := HS9.out.fin (.int .i64 n) (.int .i64 fm) (.int .i64 sp) (.int .u32 0) (.int .u32 s) (.int .u32 c1) (.slice (some ⟨g8, 0, none⟩) (k' + 1) c8) (.int .i64 0)
          have HBF := Lib.hid BF
          have HRF := Lib.hid RF
          have HFF := Lib.hid FF
          clear BF RF FF
          go_wp2_with fail
          generalize ((((((((W9.setCell ⟨w.heap.size, 0, none⟩ (.int .i64 (n : Int))).setCell ⟨w.heap.size, 1, none⟩ (.int .i64 (fm : Int))).setCell ⟨w.heap.size, 2, none⟩ (.int .i64 (sp : Int))).setCell ⟨w.heap.size, 3, none⟩ (.int .u32 0)).setCell ⟨w.heap.size, 4, none⟩ (.int .u32 (s : Int))).setCell ⟨w.heap.size, 5, none⟩ (.int .u32 (c1 : Int))).setCell ⟨w.heap.size, 6, none⟩ (.slice (some ⟨g8, 0, none⟩) (k' + 1) c8)).setCell ⟨w.heap.size, 7, none⟩ (.int .i64 0)) = WF at *
          clear q0 z0 d0 q1 z1 d1 q2 z2 d2 q3 z3 d3 q4 z4 d4 q5 z5 d5 q6 z6 d6 q7 z7 d7
          have f0 := HBF.out.cell 0
          have f1 := HBF.out.cell 1
          have f2 := HBF.out.cell 2
          have f3 := HBF.out.cell 3
          have f4 := HBF.out.cell 4
          have f5 := HBF.out.cell 5
          have f6 := HBF.out.cell 6
          have f7 := HBF.out.cell 7
          refine bodyPost_ret (v := wrV ⟨n, fm, sp, c1, s⟩ (.slice (some ⟨g8, 0, none⟩) (k' + 1) c8) 0) (by simp [results, Tryz.results198, go_sem, wrV, wrC, f0, f1, f2, f3, f4, f5, f6, f7]) rfl ?_
          exact ⟨_, _, _, _, true, rfl, ⟨_, _, _, _, rfl⟩, HRF.out, HFF.out, fun _ => HNO.out, fun h => by cases h⟩
        | false =>
          have hnum := (HD6.out.1 rfl).2
          have h2 := rdK_snoc _ _ _ _ HK.out
          rw [hnum] at h2
          have HK9 := Lib.hid h2
          have e9 : u32s fs ++ u32s [n6] = u32s (fs ++ [n6]) := by unfold u32s; rw [List.map_append]
          have ho9 := HO9.out
          rw [e9] at ho9
          have HO10 := Lib.hid ho9
          clear hnum h2 HD6 HK HO9 e9 ho9
          go_wp2_with fail
          go_roundw
          case rel => exact ⟨k' + 1, fs ++ [n6], _, A6, c6, bs6, by go_num, by omega, HS9.out, HO10.out, HK9.out, hW9⟩
          case measure => simp [intOf]; omega
       ·obtain rfl : n = k' := by omega
        have hd : decide ((n : Int) < (n : Int)) = false := by simp
        obtain ⟨AF, cF, rfl, hrF⟩ := own_sliceI HO.out
        have hneF : 0 < n → ∀ a, AF = some a → a.block ≠ w.heap.size := fun _ a ha e => by have := (HO.out.lt a.block (by rw [ha]; rfl)).1; omega
        have HRF1 := Lib.hid (show rdObj bs = some (⟨⟨n, fm, sp, c1, s⟩, fs⟩, bs') from by
         rw [HRD.out]; unfold rdFs; rw [if_neg HFM.out]; rw [show rdK (⟨n, fm, sp, c1, s⟩ : Hd).size bs4 = some (fs, bs') from HK.out])
        have HR8 := Lib.hid (reads8 (g := w.heap.size) hrF hneF (.int .i64 n) (.int .i64 fm) (.int .i64 sp) (.int .u32 0) (.int .u32 s) (.int .u32 c1) (.slice AF n cF) (.int .i64 0))
        have HFL := Lib.hid hfl
        have HNW := Lib.hid (show ∀ a, AF = some a → w.heap.size ≤ a.block from fun a ha => by have := (HO.out.lt a.block (by rw [ha]; rfl)).1; omega)
        clear hrF HRD HK HO hfl hk' hkn
        have q0 := HS.out.box.cell 0
        have q1 := HS.out.box.cell 1
        have q2 := HS.out.box.cell 2
        have q3 := HS.out.box.cell 3
        have q4 := HS.out.box.cell 4
        have q5 := HS.out.box.cell 5
        have q6 := HS.out.box.cell 6
        have q7 := HS.out.box.cell 7
        unfold wrC at q0 q1 q2 q3 q4 q5 q6 q7
        have z0 := HS.out.res.frozen 0
        have z1 := HS.out.res.frozen 1
        have z2 := HS.out.res.frozen 2
        have z3 := HS.out.res.frozen 3
        have z4 := HS.out.res.frozen 4
        have z5 := HS.out.res.frozen 5
        have z6 := HS.out.res.frozen 6
        have z7 := HS.out.res.frozen 7
        have d0 := HS.out.res.cell 0
        have d1 := HS.out.res.cell 1
        have d2 := HS.out.res.cell 2
        have d3 := HS.out.res.cell 3
        have d4 := HS.out.res.cell 4
        have d5 := HS.out.res.cell 5
        have d6 := HS.out.res.cell 6
        have d7 := HS.out.res.cell 7
        have r1 := HS.out.rd.box.cell 1
        obtain ⟨BF, RF, FF⟩ := HS.out.fin (.int .i64 n) (.int .i64 fm) (.int .i64 sp) (.int .u32 0) (.int .u32 s) (.int .u32 c1) (.slice AF n cF) (.int .i64 0)
        have HBF := Lib.hid BF
        have HRF := Lib.hid RF
        have HFF := Lib.hid FF
        clear BF RF FF
        go_wp2_with fail
        generalize ((((((((wr.setCell ⟨w.heap.size, 0, none⟩ (.int .i64 (n : Int))).setCell ⟨w.heap.size, 1, none⟩ (.int .i64 (fm : Int))).setCell ⟨w.heap.size, 2, none⟩ (.int .i64 (sp : Int))).setCell ⟨w.heap.size, 3, none⟩ (.int .u32 0)).setCell ⟨w.heap.size, 4, none⟩ (.int .u32 (s : Int))).setCell ⟨w.heap.size, 5, none⟩ (.int .u32 (c1 : Int))).setCell ⟨w.heap.size, 6, none⟩ (.slice AF n cF)).setCell ⟨w.heap.size, 7, none⟩ (.int .i64 0)) = WF at *
        clear q0 z0 d0 q1 z1 d1 q2 z2 d2 q3 z3 d3 q4 z4 d4 q5 z5 d5 q6 z6 d6 q7 z7 d7
        have f0 := HBF.out.cell 0
        have f1 := HBF.out.cell 1
        have f2 := HBF.out.cell 2
        have f3 := HBF.out.cell 3
        have f4 := HBF.out.cell 4
        have f5 := HBF.out.cell 5
        have f6 := HBF.out.cell 6
        have f7 := HBF.out.cell 7
        refine bodyPost_ret (v := wrV ⟨n, fm, sp, c1, s⟩ (.slice AF n cF) 0) (by simp [results, Tryz.results198, go_sem, wrV, wrC, f0, f1, f2, f3, f4, f5, f6, f7]) rfl ?_
        exact ⟨_, _, _, _, false, rfl, ⟨_, _, _, _, rfl⟩, HRF.out, HFF.out, fun h => (by cases h), fun _ => ⟨_, HRF1.out, AF, cF, by rw [HFL.out], by rw [HFL.out]; exact HR8.out, fun a ha => HNW.out a ha⟩⟩
  ·have hno : okB ⟨n, fm, sp, c1, s⟩ = false := by simpa using hok
   have HNO := Lib.hid (show rdObj bs = none from rdObj_no (by
    cases d4 with
    | true => exact HD4.out.1 rfl
    | false => rw [HD4.out.2 rfl, hno]; rfl))
   have hno0 : okB ⟨n, fm, sp, 0, s⟩ = false := hno
   clear hno hok
   have q0 := HS9.out.box.cell 0
   have q1 := HS9.out.box.cell 1
   have q2 := HS9.out.box.cell 2
   have q3 := HS9.out.box.cell 3
   have q4 := HS9.out.box.cell 4
   unfold wrC at q0 q1 q2 q3 q4
   have HPK := Lib.hid (PackNo_any ⟨n, fm, sp, 0, s⟩ hn3 hfm hsp' (show (0 : Nat) < 4294967296 by omega) hs4 (hno0) W7 (HS9.out.spares hs hsp))
   go_wp2_with fail
   refine HPK.out.mono ?_
   rintro e w8 ⟨rfl, hb8⟩
   have HS10 := Lib.hid ((HS9.out.below hb8).below ((Below.refl _ _).alloc (Nat.le_refl _) (.cells #[.int .u32 0, .int .u32 0, .int .u32 0] 248)))
   clear HPK HS9 hb8 q0 q1 q2 q3 q4
   go_upto_region 10 with fail
   generalize w8.alloc (.cells #[.int .u32 0, .int .u32 0, .int .u32 0] 248) = W8 at *
   have y1 := HS10.out.rd.box.frozen 1
   have q1 := HS10.out.rd.box.cell 1
   have HS11 := Lib.hid (HS10.out.bad_)
   clear HS10
   go_upto_region 12 with fail
   generalize W8.setCell ⟨rg, 1, none⟩ (.bool true) = W9 at *
   clear y1 q1
   have q0 := HS11.out.box.cell 0
   have q1 := HS11.out.box.cell 1
   have q2 := HS11.out.box.cell 2
   have q3 := HS11.out.box.cell 3
   have q4 := HS11.out.box.cell 4
   have q5 := HS11.out.box.cell 5
   have q6 := HS11.out.box.cell 6
   have q7 := HS11.out.box.cell 7
   unfold wrC at q0 q1 q2 q3 q4 q5 q6 q7
   have z0 := HS11.out.res.frozen 0
   have z1 := HS11.out.res.frozen 1
   have z2 := HS11.out.res.frozen 2
   have z3 := HS11.out.res.frozen 3
   have z4 := HS11.out.res.frozen 4
   have z5 := HS11.out.res.frozen 5
   have z6 := HS11.out.res.frozen 6
   have z7 := HS11.out.res.frozen 7
   have d0 := HS11.out.res.cell 0
   have d1 := HS11.out.res.cell 1
   have d2 := HS11.out.res.cell 2
   have d3 := HS11.out.res.cell 3
   have d4 := HS11.out.res.cell 4
   have d5 := HS11.out.res.cell 5
   have d6 := HS11.out.res.cell 6
   have d7 := HS11.out.res.cell 7
   have r1 := HS11.out.rd.box.cell 1
   obtain ⟨BF, RF, FF⟩ := HS11.out.fin (.int .i64 n) (.int .i64 fm) (.int .i64 sp) (.int .u32 0) (.int .u32 s) (.int .u32 c1) (.slice none 0 0) (.int .i64 0)
   have HBF := Lib.hid BF
   have HRF := Lib.hid RF
   have HFF := Lib.hid FF
   clear BF RF FF
   go_wp2_with fail
   generalize ((((((((W9.setCell ⟨w.heap.size, 0, none⟩ (.int .i64 (n : Int))).setCell ⟨w.heap.size, 1, none⟩ (.int .i64 (fm : Int))).setCell ⟨w.heap.size, 2, none⟩ (.int .i64 (sp : Int))).setCell ⟨w.heap.size, 3, none⟩ (.int .u32 0)).setCell ⟨w.heap.size, 4, none⟩ (.int .u32 (s : Int))).setCell ⟨w.heap.size, 5, none⟩ (.int .u32 (c1 : Int))).setCell ⟨w.heap.size, 6, none⟩ (.slice none 0 0)).setCell ⟨w.heap.size, 7, none⟩ (.int .i64 0)) = WF at *
   clear q0 z0 d0 q1 z1 d1 q2 z2 d2 q3 z3 d3 q4 z4 d4 q5 z5 d5 q6 z6 d6 q7 z7 d7
   have f0 := HBF.out.cell 0
   have f1 := HBF.out.cell 1
   have f2 := HBF.out.cell 2
   have f3 := HBF.out.cell 3
   have f4 := HBF.out.cell 4
   have f5 := HBF.out.cell 5
   have f6 := HBF.out.cell 6
   have f7 := HBF.out.cell 7
   refine bodyPost_ret (v := wrV ⟨n, fm, sp, c1, s⟩ (.slice none 0 0) 0) (by simp [results, Tryz.results198, go_sem, wrV, wrC, f0, f1, f2, f3, f4, f5, f6, f7]) rfl ?_
   exact ⟨_, _, _, _, true, rfl, ⟨_, _, _, _, rfl⟩, HRF.out, HFF.out, fun _ => HNO.out, fun h => by cases h⟩
end
section
open Go.RowKit
theorem u8c_getI {l : List Nat} {k : Nat} (h : k < l.length) : (u8c l)[k]? = some (.int .u8 (l.getD k 0 : Nat)) := by
 unfold u8c
 rw [List.getElem?_map, List.getElem?_eq_getElem h, List.getD_eq_getElem?_getD, List.getElem?_eq_getElem h]
 rfl
set_option maxHeartbeats 1000000 in
theorem equal_u8 (A A' : Option Addr) (n n' c c' : Nat) (xs ys : List Nat) (w : World) (hn : n ≤ 9223372036854775807) (hn' : n' ≤ 9223372036854775807) (hr : Reads w w.heap.size 1 A n (u8c xs)) (hr' : Reads w w.heap.size 1 A' n' (u8c ys)) :
 Calls Tryz.prog 250 #[.slice A n c, .slice A' n' c'] w fun e w' => e = .returned (.bool (sameL xs ys)) ∧ ∃ m, w' = w.drewN m := by
 have hl : xs.length = n := by have := hr.1; rw [u8c_len] at this; omega
 have hl' : ys.length = n' := by have := hr'.1; rw [u8c_len] at this; omega
 have HL := Lib.hid hl; have HL' := Lib.hid hl'
 clear hl hl'
 have HR := Lib.hid hr; have HR' := Lib.hid hr'
 clear hr hr'
 by_cases hnn : n = n'
 ·subst hnn
  go_enter Tryz.func250, Tryz.ntmps250
  go_wp2_with fail
  go_loopw [13] (fun i wr => ∃ k : Nat, k ≤ n ∧ i = .int .i64 k ∧ xs.take k = ys.take k ∧ ∃ m, wr = w.drewN m) (fun i _ => n - (intOf i).toNat)
  case atStart => exact ⟨0, by omega, rfl, rfl, 0, rfl⟩
  case round =>
   obtain ⟨k, hk, rfl, ht, m, rfl⟩ := hrel
   have HT := Lib.hid ht; clear ht
   by_cases hlt : k < n
   ·have hx : k < xs.length := by rw [HL.out]; exact hlt
    have hy : k < ys.length := by rw [HL'.out]; exact hlt
    obtain ⟨ad, u, rfl, hbl, hu, hc⟩ := HR.out.at_ hlt
    obtain ⟨ad', u', rfl, hbl', hu', hc'⟩ := HR'.out.at_ hlt
    rw [u8c_getI hx] at hu
    rw [u8c_getI hy] at hu'
    injection hu with hu
    injection hu' with hu'
    subst hu hu'
    have HX := Lib.hid hx; have HY := Lib.hid hy
    clear hx hy
    by_cases he : xs.getD k 0 = ys.getD k 0
    ·have HE := Lib.hid (take_eq_succ HX.out HY.out he HT.out)
     have hv : ((xs.getD k 0 : Int) != (ys.getD k 0 : Int)) = false := by rw [he]; simp
     clear he
     generalize xs.getD k 0 = x at *
     generalize ys.getD k 0 = y at *
     go_wp2_with fail
     go_region
     all_goals go_wp2_with fail
     all_goals go_roundw
     case rel => exact ⟨k + 1, by omega, by go_num, HE.out, m + 1, rfl⟩
     case measure => simp [intOf]; omega
    ·have HE := Lib.hid (sameL_at HX.out HY.out he)
     have hv : ((xs.getD k 0 : Int) != (ys.getD k 0 : Int)) = true := by rw [bne_iff_ne]; omega
     clear he
     generalize xs.getD k 0 = x at *
     generalize ys.getD k 0 = y at *
     go_wp2_with fail
     go_region
     all_goals go_wp2_with fail
     all_goals go_ret
     all_goals exact ⟨by rw [HE.out]; rfl, m + 1, rfl⟩
   ·obtain rfl : k = n := by omega
    have HA := Lib.hid (sameL_all HL.out HL'.out HT.out)
    go_wp2_with fail
    go_ret
    exact ⟨by rw [HA.out]; rfl, m, rfl⟩
 ·have HF := Lib.hid (sameL_len (xs := xs) (ys := ys) (by rw [HL.out, HL'.out]; exact hnn))
  have hv : ((n : Int) != (n' : Int)) = true := by simp; omega
  clear hnn
  go_enter Tryz.func250, Tryz.ntmps250
  go_wp2_with fail
  go_ret
  exact ⟨by rw [HF.out]; rfl, 0, rfl⟩
end
section
open Go.RowKit
attribute [local go_sem] Oper.semAt_some
section
variable {w wi w' : World} {B : Nat} {v vi : Value} {bs cs ds : List Nat} {e : Ending}
theorem BytesB.refl (ho : w.ownsRow B 5 1 v bs.length (u8c bs)) : BytesB B v bs [] w (.returned v) w :=
 ⟨v, rfl, by simpa using ho, Nat.le_refl _, rfl, rfl, rfl, fun _ _ _ => rfl, fun k hk => .inl hk⟩
theorem BytesB.own (h : BytesB B v bs cs w (.returned vi) wi) : wi.ownsRow B 5 1 vi (bs ++ cs).length (u8c (bs ++ cs)) := by
 obtain ⟨b', hb', h0, _⟩ := h
 injection hb' with hb'
 subst hb'
 exact h0
theorem BytesB.size (h : BytesB B v bs cs w (.returned vi) wi) : w.heap.size ≤ wi.heap.size := by
 obtain ⟨b', hb', h0, h1, _⟩ := h
 exact h1
theorem BytesB.below (h : BytesB B v bs cs w (.returned vi) wi) (hb : Below wi.heap.size wi w') : BytesB B v bs cs w (.returned vi) w' := by
 obtain ⟨b', hb', h0, h1, h2, h3, h4, h5, h6⟩ := h
 injection hb' with hb'
 subst hb'
 refine ⟨vi, rfl, own_sameI h0 (fun k hk => hb.block k (h0.lt k hk).2), Nat.le_trans h1 hb.size, hb.os.trans h2, hb.tape.trans h3, hb.output.trans h4, fun k hk hne => (hb.block k (by omega)).trans (h5 k hk hne), fun k hk => h6 k hk⟩
theorem BytesB.reads {A : Option Addr} {n : Nat} {xs : List Value} (h : BytesB B v bs cs w (.returned vi) wi) (hr : Reads w w.heap.size 1 A n xs) (hne : 0 < n → ∀ a, A = some a → v.ownBlock ≠ some a.block) : Reads wi wi.heap.size 1 A n xs := by
 obtain ⟨b', hb', h0, h1, h2, h3, h4, h5, h6⟩ := h
 refine ⟨hr.1, fun hn => ?_⟩
 obtain ⟨a, ha, hlt, hc⟩ := hr.2 hn
 refine ⟨a, ha, Nat.lt_of_lt_of_le hlt h1, fun j u hu => ?_⟩
 have hb := h5 a.block hlt (hne hn a ha)
 exact (World.cell?_of_block (a := a.add j) (by rw [block_of_add]; exact hb)).trans (hc j u hu)
theorem BytesB.blk {g : Nat} {t : TypeId} {c : Array Value} (h : BytesB B v bs cs w (.returned vi) wi) (b : Blk w g t c) (hne : v.ownBlock ≠ some g) : Blk wi g t c := by
 obtain ⟨b', hb', h0, h1, h2, h3, h4, h5, h6⟩ := h
 exact b.same (h5 g b.lt hne)
theorem wpList_app_BB {ops : Array Oper} {rest : List Oper} {o : Oper} {a : Act} {Q : Exit → Act → World → Prop} {w0 : World} {m c : Nat} {A : Option Addr} (s x : Operand)
 (S : BytesB B v bs cs w (.returned vi) wi) (hb : Below wi.heap.size wi w0) (hB : B ≤ w.heap.size) (hr : Reads w0 w0.heap.size 1 A m (u8c ds)) (hs : a.eval s = vi) (hx : a.eval x = .slice A m c) (hn : (bs ++ cs).length + m ≤ 100000000000000)
 (ho : o.op = .call { callee := .builtin .append, args := #[s, x], argTypes := #[22, 22] }) (hgd : o.guard = none)
 (h : ∀ v' w', BytesB B v bs (cs ++ ds) w (.returned v') w' → wpList Tryz.prog ops Q rest (a.put o.dst v') w') : wpList Tryz.prog ops Q (o :: rest) a w0 := by
 obtain ⟨i0, hi0, hz0, hz1, hz2⟩ := info_parts info_u8
 have hm : ds.length = m := by have := hr.1; rw [u8c_len, Nat.mul_one] at this; exact this
 have hown := S.own
 have hsz := S.size
 refine wpList_append_any _ hgd s x _ ho B 5 i0 _ 1 1 Tryz.underlying22 hi0 hz0 hz1 hz2 rfl (by omega) vi (bs ++ cs).length (u8c (bs ++ cs)) hs (own_sameI hown (fun k hk => hb.block k (hown.lt k hk).2)) w0.heap.size A m c (u8c ds) hx hr (one_u8c _) (by simp only [maxLen]; omega) (by omega) (by have := hb.size; omega) ?_
 intro v4 w4 hown4 hgrow4 hat4
 exact h _ _ (S.app hb (by rw [hm]; exact hown4) hgrow4 hat4)
end
theorem RB.one (w : World) (x : Nat) : RB w (w.alloc (.cells #[.int .u8 (x : Int)] 5)) w.heap.size (.slice (some ⟨w.heap.size, 0, none⟩) 1 1) [x] :=
 RB.new (own_new8 w [x] 1 rfl (by decide)) ((Below.refl _ _).alloc (Nat.le_refl _) _) (Below.refl _ _)
theorem four4_len (x : Nat) : (four4 x).length = 4 := rfl
end
section
open Go.RowKit
attribute [local go_sem] Oper.semAt_some
theorem info_sl8 : (Tryz.prog.info? 22).map (fun i => (i.zero, i.size, i.bytes)) = some (some (Value.slice none 0 0), 1, 24) := by kernel_rfl
def PayV (w : World) (L : Nat) (vs : List Value) (ps : List (List Nat)) : Prop :=
 vs.length = ps.length ∧ ∀ (i : Nat) (p : List Nat), ps[i]? = some p → ∃ (A : Option Addr) (c : Nat), vs[i]? = some (Value.slice A p.length c) ∧ p.length ≤ c ∧ Reads w L 1 A p.length (u8c p) ∧ ∀ x ∈ p, x < 256
theorem PayV.nil (w : World) (L : Nat) : PayV w L [] [] := ⟨rfl, fun i p h => by simp at h⟩
theorem PayV.below {w w' : World} {L : Nat} {vs : List Value} {ps : List (List Nat)} (P : PayV w L vs ps) (h : Below L w w') : PayV w' L vs ps :=
 ⟨P.1, fun i p hp => by obtain ⟨A, c, h1, h2, h3, h4⟩ := P.2 i p hp; exact ⟨A, c, h1, h2, h3.below h, h4⟩⟩
theorem PayV.snoc {w : World} {L c : Nat} {A : Option Addr} {vs : List Value} {ps : List (List Nat)} {p : List Nat} (P : PayV w L vs ps) (hc : p.length ≤ c) (hr : Reads w L 1 A p.length (u8c p)) (h8 : ∀ x ∈ p, x < 256) : PayV w L (vs ++ [.slice A p.length c]) (ps ++ [p]) := by
 refine ⟨by simp [P.1], fun i q hq => ?_⟩
 rcases Nat.lt_or_ge i ps.length with h | h
 ·rw [List.getElem?_append_left h] at hq
  obtain ⟨A', c', h1, h2⟩ := P.2 i q hq
  exact ⟨A', c', by rw [List.getElem?_append_left (by rw [P.1]; exact h)]; exact h1, h2⟩
 ·rw [List.getElem?_append_right h] at hq
  have hi : i - ps.length = 0 := by
   rcases Nat.eq_zero_or_pos (i - ps.length) with h0 | h0
   ·exact h0
   ·rw [List.getElem?_eq_none (by simp; omega)] at hq; cases hq
  rw [hi] at hq
  simp at hq
  subst hq
  refine ⟨A, c, ?_, hc, hr, h8⟩
  rw [List.getElem?_append_right (by rw [P.1]; exact h), P.1, hi]
  rfl
def SecP (L : Nat) (bs : List Nat) (w : World) (e : Ending) (w' : World) : Prop :=
 Below w.heap.size w w' ∧ match rdSecs [72, 79, 82, 90] bs with
  | .error E => e = .returned (.tuple #[.slice none 0 0, .int .i64 (E : Nat)])
  | .ok (ps, r) => if r = [] then ∃ v vs, e = .returned (.tuple #[v, .int .i64 0]) ∧ w'.ownsRow w.heap.size 22 1 v 4 vs ∧ PayV w' L vs ps ∧ ps.length = 4 else e = .returned (.tuple #[.slice none 0 0, .int .i64 143])
def SecGo (bs : List Nat) (k : Nat) (ps : List (List Nat)) (r : List Nat) : Prop :=
 rdSecs [72, 79, 82, 90] bs = (match rdSecs ([72, 79, 82, 90].drop k) r with
  | .error e => .error e
  | .ok (ps2, r') => .ok (ps ++ ps2, r')) ∧ ps.length = k
theorem SecGo.start (bs : List Nat) : SecGo bs 0 [] bs := by
 refine ⟨?_, rfl⟩
 cases h : rdSecs [72, 79, 82, 90] bs with
 | error e => simp [h]
 | ok p => simp [h]
theorem SecGo.fail {bs r : List Nat} {k t E : Nat} {ps : List (List Nat)} (S : SecGo bs k ps r) (ht : [72, 79, 82, 90][k]? = some t) (h : rdSec t r = .error E) : rdSecs [72, 79, 82, 90] bs = .error E := by
 obtain ⟨h1, _⟩ := S
 have hk : k < 4 := by
  rcases Nat.lt_or_ge k 4 with h | h
  ·exact h
  ·rw [List.getElem?_eq_none (by simpa using h)] at ht; cases ht
 have e : [72, 79, 82, 90].drop k = t :: [72, 79, 82, 90].drop (k + 1) := by
  rw [List.getElem?_eq_getElem (by simpa using hk)] at ht
  injection ht with ht
  rw [← ht, List.getElem_cons_drop]
 rw [h1, e]
 unfold rdSecs
 rw [h]
theorem SecGo.next {bs r r' p : List Nat} {k t : Nat} {ps : List (List Nat)} (S : SecGo bs k ps r) (ht : [72, 79, 82, 90][k]? = some t) (h : rdSec t r = .ok (p, r')) : SecGo bs (k + 1) (ps ++ [p]) r' := by
 obtain ⟨h1, h2⟩ := S
 have hk : k < 4 := by
  rcases Nat.lt_or_ge k 4 with h | h
  ·exact h
  ·rw [List.getElem?_eq_none (by simpa using h)] at ht; cases ht
 have e : [72, 79, 82, 90].drop k = t :: [72, 79, 82, 90].drop (k + 1) := by
  rw [List.getElem?_eq_getElem (by simpa using hk)] at ht
  injection ht with ht
  rw [← ht, List.getElem_cons_drop]
 refine ⟨?_, by simp [h2]⟩
 rw [h1, e]
 conv => lhs; unfold rdSecs
 rw [h]
 simp only
 cases rdSecs ([72, 79, 82, 90].drop (k + 1)) r' with
 | error e => rfl
 | ok q => simp
structure SecSt (L : Nat) (W0 wr : World) (rg : Nat) (v : Value) (vs : List Value) (ps : List (List Nat)) (A : Option Addr) (c : Nat) (bs : List Nat) : Prop where
 rd : RdAt wr L rg A c bs false
 fr : Fr1 rg W0 wr
 own : wr.ownsRow W0.heap.size 22 1 v ps.length vs
 pay : PayV wr L vs ps
 lt : rg < W0.heap.size
section
variable {L rg c c' : Nat} {W0 wr w' : World} {v v' : Value} {vs : List Value} {ps : List (List Nat)} {A A' : Option Addr} {bs bs' : List Nat}
theorem SecSt.read (S : SecSt L W0 wr rg v vs ps A c bs) (R : RdAt w' L rg A' c' bs' false) (F : Fr1 rg wr w') : SecSt L W0 w' rg v vs ps A' c' bs' :=
 ⟨R, S.fr.trans F, own_sameI S.own (fun k hk => F.same k (S.own.lt k hk).2 (fun e => by have := (S.own.lt k hk).1; have := S.lt; omega)), S.pay.below (F.below S.rd.far (by have := S.lt; have := S.fr.size; have := S.rd.far; omega)), S.lt⟩
theorem SecSt.below (S : SecSt L W0 wr rg v vs ps A c bs) (h : Below wr.heap.size wr w') : SecSt L W0 w' rg v vs ps A c bs := S.read (S.rd.below h) (Fr1.of_below h)
theorem SecSt.app {p : List Nat} {Ap : Option Addr} {cp : Nat} (S : SecSt L W0 wr rg v vs ps A c bs) (hc : p.length ≤ cp) (hr : Reads wr L 1 Ap p.length (u8c p)) (h8 : ∀ x ∈ p, x < 256)
 (ho : w'.ownsRow W0.heap.size 22 1 v' (ps.length + 1) (vs ++ [.slice Ap p.length cp])) (hg : wr.grownBy w' v.ownBlock) : SecSt L W0 w' rg v' (vs ++ [.slice Ap p.length cp]) (ps ++ [p]) A c bs := by
 have hsame : ∀ k, k < W0.heap.size → w'.heap[k]? = wr.heap[k]? := fun k hk => hg.block k (Nat.lt_of_lt_of_le hk S.fr.size) (fun e => by have := (S.own.lt k (by first | exact e | exact e.symm)).1; omega)
 have hb : Below L wr w' := ⟨hg.os, hg.tape, hg.output, hg.size, fun k hk => hsame k (by have := S.rd.far; have := S.lt; omega)⟩
 refine ⟨⟨S.rd.box.same (hsame rg S.lt), S.rd.cap, S.rd.rd.below hb, S.rd.far, S.rd.b8⟩, ⟨hg.os.trans S.fr.os, hg.tape.trans S.fr.tape, hg.output.trans S.fr.output, Nat.le_trans S.fr.size hg.size, fun k hk hne => (hsame k hk).trans (S.fr.same k hk hne)⟩, by rw [List.length_append]; exact ho, (S.pay.snoc hc hr h8).below hb, S.lt⟩
end
set_option maxRecDepth 100000 in
set_option maxHeartbeats 8000000 in
theorem sections_any {w : World} {A : Option Addr} {n c : Nat} {bs : List Nat} (hr : Reads w w.heap.size 1 A n (u8c bs)) (hc : n ≤ c) (hn : n ≤ 9000000) (h8 : ∀ x ∈ bs, x < 256) :
 Calls Tryz.prog 196 #[.slice A n c] w (SecP w.heap.size bs w) := by
 have hbl : bs.length = n := by have := hr.1; rw [u8c_len] at this; omega
 have kc := fun (w : World) (C : Array Value) (n c : Nat) => Lib.run_convert_bytes_const (P := Tryz.prog) w 22 5 C n c Tryz.underlying22 Tryz.underlying5
 subst hbl
 have HR := Lib.hid hr
 clear hr
 go_enter Tryz.func196, Tryz.ntmps196
 have kc1 := kc (w.alloc (.cells #[.slice A bs.length c, .bool false] 300)) #[.int .u8 72, .int .u8 79, .int .u8 82, .int .u8 90] 4 4
 rw [World.size_alloc] at kc1
 clear kc
 have hB0 : Below w.heap.size w ((w.alloc (.cells #[.slice A bs.length c, .bool false] 300)).alloc (.cells #[.int .u8 72, .int .u8 79, .int .u8 82, .int .u8 90] 5 (4, 5))) := ((Below.refl _ w).alloc (Nat.le_refl _) _).alloc (by simp) _
 have hS0 : SecSt w.heap.size ((w.alloc (.cells #[.slice A bs.length c, .bool false] 300)).alloc (.cells #[.int .u8 72, .int .u8 79, .int .u8 82, .int .u8 90] 5 (4, 5))) ((w.alloc (.cells #[.slice A bs.length c, .bool false] 300)).alloc (.cells #[.int .u8 72, .int .u8 79, .int .u8 82, .int .u8 90] 5 (4, 5))) w.heap.size (.slice none 0 0) [] [] A c bs :=
  ⟨⟨(Blk.new w _ _).alloc _, hc, HR.out.below hB0, Nat.le_refl _, h8⟩, Fr1.refl _ _, ⟨rfl, .inl ⟨rfl, rfl⟩⟩, PayV.nil _ _, by simp; omega⟩
 have hT : ∀ k t, [72, 79, 82, 90][k]? = some t → ((w.alloc (.cells #[.slice A bs.length c, .bool false] 300)).alloc (.cells #[.int .u8 72, .int .u8 79, .int .u8 82, .int .u8 90] 5 (4, 5))).cell? ⟨w.heap.size + 1, k, none⟩ = some (.int .u8 (t : Nat)) := fun k t ht => by
  have h1 := heap_alloc_new (w.alloc (.cells #[.slice A bs.length c, .bool false] 300)) (.cells #[.int .u8 72, .int .u8 79, .int .u8 82, .int .u8 90] 5 (4, 5))
  rw [World.size_alloc] at h1
  refine (cell_of_row _ (w.heap.size + 1) k _ 5 (4, 5) h1).trans ?_
  match k, ht with
  | 0, ht => injection ht with ht; subst ht; rfl
  | 1, ht => injection ht with ht; subst ht; rfl
  | 2, ht => injection ht with ht; subst ht; rfl
  | 3, ht => injection ht with ht; subst ht; rfl
 have hsz : ((w.alloc (.cells #[.slice A bs.length c, .bool false] 300)).alloc (.cells #[.int .u8 72, .int .u8 79, .int .u8 82, .int .u8 90] 5 (4, 5))).heap.size = w.heap.size + 2 := by simp
 go_wp2_with fail
 generalize ((w.alloc (.cells #[.slice A bs.length c, .bool false] 300)).alloc (.cells #[.int .u8 72, .int .u8 79, .int .u8 82, .int .u8 90] 5 (4, 5))) = W0 at *
 have HT := Lib.hid (fun (wr : World) (h : Fr1 w.heap.size W0 wr) (k t : Nat) (ht : [72, 79, 82, 90][k]? = some t) => (World.cell?_of_block (h.same (w.heap.size + 1) (by omega) (by omega))).trans (hT k t ht))
 have HS0 := Lib.hid hS0
 have HB0 := Lib.hid hB0
 clear hT kc1 hS0 hB0 HR
 go_loopw [5, 17] (fun v i wr => ∃ (k : Nat) (vs : List Value) (ps : List (List Nat)) (A' : Option Addr) (c' : Nat) (bs' : List Nat), i = .int .i64 k ∧ k ≤ 4 ∧ SecSt w.heap.size W0 wr w.heap.size v vs ps A' c' bs' ∧ SecGo bs k ps bs' ∧ bs'.length ≤ bs.length) (fun _ i _ => 4 - (intOf i).toNat)
 case atStart => exact ⟨0, [], [], A, c, bs, rfl, by omega, HS0.out, SecGo.start bs, Nat.le_refl _⟩
 case round =>
  clear HS0
  obtain ⟨k, vs, ps, A', c', bs', rfl, hk, S, G, hlen⟩ := hrel
  have HS := Lib.hid S
  have HG := Lib.hid G
  have HFN := Lib.hid (fun (w' : World) (h : Fr1 w.heap.size W0 w') => show Below w.heap.size w w' from ⟨h.os.trans HB0.out.os, h.tape.trans HB0.out.tape, h.output.trans HB0.out.output, Nat.le_trans HB0.out.size h.size, fun k hk => (h.same k (by omega) (by omega)).trans (HB0.out.block k hk)⟩)
  by_cases hk4 : k < 4
  ·obtain ⟨t, ht⟩ : ∃ t, [72, 79, 82, 90][k]? = some t := ⟨_, List.getElem?_eq_getElem (by simpa using hk4)⟩
   have hd : decide ((k : Int) < 4) = true := by simp; omega
   have htc := HT.out _ S.fr k t ht
   have htb : t < 256 := by
    have := List.mem_of_getElem? ht
    simp at this
    omega
   have c0 := S.rd.box.cell 0
   have HTT := Lib.hid ht
   have HE := Lib.hid (fun (w' : World) (h : Fr1 w.heap.size W0 w') (E : Nat) (he : rdSec t bs' = .error E) => show SecP w.heap.size bs w (.returned (.tuple #[.slice none 0 0, .int .i64 (E : Nat)])) w' from ⟨HFN.out _ h, by rw [G.fail ht he]⟩)
   clear ht S G
   match hbs : bs' with
   | [] =>
     have hF := HE.out _ HS.out.fr 143 rfl
     have HF := Lib.hid hF
     clear hF HE HS HG HTT
     go_wp2_with fail
     go_ret2
     exact HF.out
   | x :: b1 =>
     have HBY := Lib.hid (rbyteI_any HS.out.rd (by omega))
     have hlb : b1.length + 1 ≤ bs.length := by simpa using hlen
     go_wp2_with fail
     refine HBY.out.mono ?_
     rintro e w5 ⟨x5, A5, c5, bs5, bad5, rfl, hx5, R5, F5, D5, -⟩
     obtain rfl : bad5 = false := D5.2 rfl ⟨_, rfl⟩
     obtain ⟨_, hq⟩ := D5.1 rfl
     injection hq with hq
     injection hq with hq1 hq2
     subst hq1 hq2
     have HS5 := Lib.hid (HS.out.read R5 F5)
     clear HBY D5 HS htc c0 R5 F5
     by_cases hxt : x = t
     ·subst hxt
      have hne : ((x : Int) != (x : Int)) = false := by simp
      have HNU := Lib.hid (rnumberI_any HS5.out.rd (by omega))
      go_wp2_with fail
      refine HNU.out.mono ?_
      rintro e w6 ⟨n6, A6, c6, bs6, bad6, rfl, hn6, R6, F6, D6, d6, hd6⟩
      have k1 := R6.box.cell 1
      have hlb6 : bs6.length ≤ b1.length := by rw [hd6, List.length_append]; omega
      clear HNU hd6
      cases bad6 with
      | true =>
        have hno : rdNum b1 = none := by
         cases hh : rdNum b1 with
         | none => rfl
         | some q => have := D6.2 rfl ⟨q, hh⟩; cases this
        have HF := Lib.hid (HE.out _ (HS5.out.fr.trans F6) 143 (by unfold rdSec; simp [hno]))
        clear HE HS5 HG HTT R6 F6 D6 hno
        go_wp2_with fail
        go_ret2
        exact HF.out
      | false =>
        obtain ⟨_, hnum⟩ := D6.1 rfl
        have HS6 := Lib.hid (HS5.out.read R6 F6)
        have HNM := Lib.hid hnum
        have k0 := R6.box.cell 0
        clear HS5 R6 F6 D6 hnum
        have hw1 : IntKind.u64.wrap (bs6.length : Int) = (bs6.length : Int) := by show (bs6.length : Int) % 18446744073709551616 = _; omega
        by_cases hshort : bs6.length < n6 + 4
        ·have hds : decide ((bs6.length : Int) < (n6 : Int) + 4) = true := by simp; omega
         have HF := Lib.hid (HE.out _ HS6.out.fr 143 (by unfold rdSec; simp only [ne_eq, not_true_eq_false, if_false, HNM.out]; rw [if_pos hshort]))
         clear HE HS6 HG HTT HNM
         go_wp2_with fail
         go_ret2
         exact HF.out
        ·have hds : decide ((bs6.length : Int) < (n6 : Int) + 4) = false := by simp; omega
         have HB1 := Lib.hid (rbytesI_any HS6.out.rd (by omega) n6 (by omega))
         go_wp2_with fail
         refine HB1.out.mono ?_
         rintro e w7 ⟨F7, (⟨_, rfl, R7⟩ | ⟨hlt, _⟩)⟩
         rotate_left
         ·omega
         have HS7 := Lib.hid (HS6.out.read R7 F7)
         have hcap6 := HS6.out.rd.cap
         have HP7 := Lib.hid ((reads_head (k := n6) (c := c6) HS6.out.rd.rd (by omega)).below (F7.below HS6.out.rd.far (by have := HS6.out.rd.box.lt; have := HS6.out.rd.far; omega)))
         have HP8 := Lib.hid (fun x (hx : x ∈ bs6.take n6) => HS6.out.rd.b8 x (List.mem_of_mem_take hx))
         clear HB1 R7 F7 HS6 k0 k1
         have hl7 : (bs6.drop n6).length = bs6.length - n6 := by simp
         have hlp : (bs6.take n6).length = n6 := by simp; omega
         have HB2 := Lib.hid (rbytesI_any HS7.out.rd (by omega) 4 (by omega))
         go_wp2_with fail
         refine HB2.out.mono ?_
         rintro e w8 ⟨F8, (⟨_, rfl, R8⟩ | ⟨hlt, _⟩)⟩
         rotate_left
         ·omega
         have HS8 := Lib.hid (HS7.out.read R8 F8)
         have hrg := HS7.out.rd.box.lt
         have hb78 := F8.below HS7.out.rd.far (Nat.le_of_lt hrg)
         have HP := Lib.hid (HP7.out.below hb78)
         have HQ := Lib.hid ((reads_head (k := 4) (c := c6 - n6) HS7.out.rd.rd (by omega)).below hb78)
         have HQ8 := Lib.hid (fun x (hx : x ∈ (bs6.drop n6).take 4) => HS7.out.rd.b8 x (List.mem_of_mem_take hx))
         have h48 : w.heap.size ≤ w8.heap.size := by have := hb78.size; omega
         clear HB2 R8 F8 HS7 HP7 hb78 hrg
         have hQl : ((bs6.drop n6).take 4).length = 4 := by simp; omega
         have h8p : ∀ y ∈ x :: bs6.take n6, y < 256 := fun y hy => by rcases List.mem_cons.1 hy with rfl | hy; exact hx5; exact HP8.out y hy
         obtain ⟨hs1, hs2⟩ := sumN_eq h8p
         have HPL := Lib.hid hlp
         have HSM := Lib.hid (fun (A' : Option Addr) (c' : Nat) (w' : World) (hr' : Reads w' w'.heap.size 1 A' (n6 + 1) (u8c (x :: bs6.take n6))) => sum_any A' (n6 + 1) c' w'.heap.size (x :: bs6.take n6) w' (by omega) hr' h8p)
         rw [hs1] at HSM
         have HDR := Lib.hid (show rdSec x (x :: b1) = if (bs6.drop n6).take 4 = four4 (sumN (x :: bs6.take n6)) then .ok (bs6.take n6, bs6.drop (n6 + 4)) else .error 144 by
          unfold rdSec; simp only [ne_eq, not_true_eq_false, if_false, HNM.out]; rw [if_neg hshort])
         have HDD := Lib.hid (show (bs6.drop n6).drop 4 = bs6.drop (n6 + 4) by rw [List.drop_drop])
         clear h8p hs1 hlp HNM
         generalize hpg : bs6.take n6 = pp at *
         generalize hqg : (bs6.drop n6).take 4 = qq at *
         clear hpg hqg
         go_wp2_with (at_builtin; refine wpList_app_RB (.tmp 57) (.tmp 58) (RB.one w8 x) (((HP.out.below ((Below.refl _ _).alloc (Nat.le_refl _) (.cells #[.int .u8 (x : Int)] 5) |>.mono h48)).more (by simp; omega))) rfl rfl (by simp; omega) rfl rfl ?_; intro v9 w9 C9 hg9; clear hg9; have HC9 := Lib.hid C9; clear C9)
         obtain ⟨A9, c9, rfl, hr9⟩ := HC9.out.reads
         have hr10 : Reads w9 w9.heap.size 1 A9 (n6 + 1) (u8c (x :: pp)) := by
          have e := HPL.out
          simp only [List.length_append, List.length_cons, List.length_nil, e] at hr9
          rw [Nat.add_comm] at hr9
          exact hr9
         have HM := Lib.hid (HSM.out A9 c9 w9 hr10)
         have HB9 := Lib.hid HC9.out.base
         have e4 : ([x] ++ pp).length = n6 + 1 := by rw [List.length_append, HPL.out]; simp; omega
         rw [e4]
         clear hr9 hr10 HC9 HSM e4
         refine HM.out.mono ?_
         rintro e w10 ⟨rfl, rfl⟩
         have HS10 := Lib.hid (HS8.out.below HB9.out)
         have HP10 := Lib.hid (HP.out.below (HB9.out.mono h48))
         have HQ10 := Lib.hid ((HQ.out.below (HB9.out.mono h48)).more (B' := w9.heap.size) (by have := HB9.out.size; omega))
         have h4a : w.heap.size ≤ w9.heap.size := by have := HB9.out.size; omega
         clear HS8 HP HQ HB9 HM
         go_wp2_with fail
         refine (ifour_any (sumN (x :: pp)) hs2 _).mono ?_
         rintro e w11 ⟨v11, rfl, hown11, hb11⟩
         obtain ⟨A11, c11, rfl, hr11⟩ := own_sliceI hown11
         have HS11 := Lib.hid (HS10.out.below hb11)
         have HP11 := Lib.hid (HP10.out.below (hb11.mono h4a))
         have HEQ := Lib.hid (equal_u8 (tailA (tailA A6 c6 n6) (c6 - n6) 0) A11 4 4 (c6 - n6) c11 qq (four4 (sumN (x :: pp))) w11 (by omega) (by omega) ((HQ10.out.below hb11).more hb11.size) hr11)
         have h4b : w.heap.size ≤ w11.heap.size := by have := hb11.size; omega
         clear HS10 HP10 HQ10 hb11 hr11 hown11
         go_wp2_with fail
         refine HEQ.out.mono ?_
         rintro e w12 ⟨rfl, m12, rfl⟩
         have hb12 : Below w11.heap.size w11 (w11.drewN m12) := ⟨rfl, rfl, rfl, Nat.le_refl _, fun _ _ => rfl⟩
         have HS12 := Lib.hid (HS11.out.below hb12)
         have HP12 := Lib.hid (HP11.out.below (hb12.mono h4b))
         clear HS11 HP11 HEQ hb12
         generalize w11.drewN m12 = w12 at *
         by_cases heq : qq = four4 (sumN (x :: pp))
         ·have hsb : sameL qq (four4 (sumN (x :: pp))) = true := by rw [heq]; exact sameL_self _
          have hdr := HDR.out
          rw [if_pos heq, ← HDD.out] at hdr
          have HNX := Lib.hid (HG.out.next HTT.out hdr)
          clear heq hdr HDR HE HG HTT HDD
          have hpl := HPL.out
          have HOW := Lib.hid HS12.out.own
          obtain ⟨i0, hi0, hz0, hz1, hz2⟩ := info_parts info_sl8
          have hgk : ps.length = k := by have := HNX.out.2; simp at this; omega
          have h4c : w.heap.size ≤ w12.heap.size := by have := HS12.out.rd.box.lt; omega
          have HPA := Lib.hid (HP12.out.below ((Below.refl w12.heap.size w12).alloc (Nat.le_refl _) (.cells #[.slice (tailA A6 c6 0) n6 c6] 22) |>.mono h4c))
          have HSA := Lib.hid (HS12.out.below ((Below.refl _ _).alloc (Nat.le_refl _) (.cells #[.slice (tailA A6 c6 0) n6 c6] 22)))
          go_wp2_with (at_builtin; refine wpList_append_any _ rfl (.tmp 64) (.tmp 66) _ rfl W0.heap.size 22 i0 _ 1 24 Tryz.underlying241 hi0 hz0 hz1 hz2 rfl (by omega) u5 ps.length vs rfl HSA.out.own (w12.heap.size + 1) (some ⟨w12.heap.size, 0, none⟩) 1 1 [.slice (tailA A6 c6 0) n6 c6] rfl ⟨rfl, fun _ => ⟨_, rfl, by simp, cell_one_new _ _ _⟩⟩ (fun u hu => by rcases List.mem_singleton.1 hu with rfl; rfl) (by simp only [maxLen]; omega) (by omega) (by have := HS12.out.fr.size; simp; omega) ?_; intro v13 w13 hown13 hgrow13 hat13; have HS13 := Lib.hid (HSA.out.app (p := pp) (Ap := tailA A6 c6 0) (cp := c6) (by omega) (by rw [hpl]; exact HPA.out) HP8.out (by rw [hpl]; exact hown13) hgrow13); clear hown13 hgrow13 hat13)
          have hlen' : (bs6.drop n6).drop 4 = (bs6.drop n6).drop 4 := rfl
          go_roundw
          case rel =>
           have hll : ((bs6.drop n6).drop 4).length ≤ bs.length := by simp; omega
           exact ⟨k + 1, _, ps ++ [pp], _, _, (bs6.drop n6).drop 4, by go_num, by omega, HS13.out, HNX.out, hll⟩
          case measure => simp [intOf]; omega
         ·have hsb : sameL qq (four4 (sumN (x :: pp))) = false := by unfold sameL; rw [beq_eq_false_iff_ne]; exact heq
          have HF := Lib.hid (HE.out _ HS12.out.fr 144 (by rw [HDR.out, if_neg heq]))
          clear HE HS12 HG HTT HDR HDD heq
          go_wp2_with fail
          go_ret2
          exact HF.out
     ·have hne : ((x : Int) != (t : Int)) = true := by simp; omega
      have HF := Lib.hid (HE.out _ HS5.out.fr 142 (by unfold rdSec; simp [hxt]))
      clear HE HS5 HG HTT
      go_wp2_with fail
      go_ret2
      exact HF.out
  ·obtain rfl : k = 4 := by omega
   have hd : decide ((4 : Int) < 4) = false := by decide
   have c0 := S.rd.box.cell 0
   have hps := G.2
   have hg := G.1
   have hdn : rdSecs ([72, 79, 82, 90].drop 4) bs' = .ok ([], bs') := rfl
   rw [hdn] at hg
   simp only [List.append_nil] at hg
   have HGG := Lib.hid hg
   clear hg G HG HS hdn hk hk4
   by_cases h0 : bs'.length = 0
   ·have hd0 : decide (0 < (bs'.length : Int)) = false := decide_eq_false (by omega)
    have hbn : bs' = [] := List.eq_nil_of_length_eq_zero h0
    have HF := Lib.hid (show SecP w.heap.size bs w (.returned (.tuple #[u5, .int .i64 0])) wr from ⟨HFN.out _ S.fr, by
     rw [HGG.out]
     simp only
     rw [if_pos hbn]
     exact ⟨u5, vs, rfl, by
      have ho := S.own
      rw [hps] at ho
      refine ⟨ho.1, ?_⟩
      rcases ho.2 with h1 | ⟨g, cap, cur, h1, h2, h3⟩
      ·exact .inl h1
      ·exact .inr ⟨g, cap, cur, h1, Nat.le_trans HB0.out.size h2, h3⟩, S.pay, hps⟩⟩)
    clear HGG S hbn
    go_wp2_with fail
    go_ret2
    exact HF.out
   ·have hd0 : decide (0 < (bs'.length : Int)) = true := decide_eq_true (by omega)
    have hbn : bs' ≠ [] := fun e => h0 (by rw [e]; rfl)
    have HF := Lib.hid (show SecP w.heap.size bs w (.returned (.tuple #[.slice none 0 0, .int .i64 143])) wr from ⟨HFN.out _ S.fr, by
     rw [HGG.out]
     simp only
     rw [if_neg hbn]
     trivial⟩)
    clear HGG S hbn
    go_wp2_with fail
    go_ret2
    exact HF.out
end
section
open Go.RowKit
attribute [local go_sem] Oper.semAt_some
theorem info_wr : (Tryz.prog.info? 303).map (fun i => (i.zero, i.size, i.bytes)) = some (some (Value.agg #[.int .i64 0, .int .i64 0, .int .i64 0, .int .u32 0, .int .u32 0, .int .u32 0, .slice none 0 0, .int .i64 0]), 8, 72) := by kernel_rfl
structure Wr where
 x : Hd
 A : Option Addr
 c : Nat
 fs : List Nat
 pl : Nat
instance : Inhabited Wr := ⟨⟨⟨0, 0, 0, 0, 0⟩, none, 0, [], 0⟩⟩
def Wr.th (u : Wr) : Th := ⟨u.x, u.fs⟩
def Wr.cells (u : Wr) : List Value := [.int .i64 u.x.size, .int .i64 u.x.fmt, .int .i64 u.x.spare, .int .u32 0, .int .u32 u.x.ser, .int .u32 u.x.cls, .slice u.A u.fs.length u.c, .int .i64 u.pl]
def wrL (us : List Wr) : List Value := us.flatMap Wr.cells
theorem wrL_snoc (l : List Wr) (u : Wr) : wrL (l ++ [u]) = wrL l ++ u.cells := by simp [wrL]
theorem wr_one (n : Wr) : ∀ u ∈ n.cells, u.oneCell' = true := by
 intro u hu
 simp [Wr.cells] at hu
 rcases hu with rfl | rfl | rfl | rfl | rfl | rfl | rfl | rfl <;> rfl
theorem wrL_get : ∀ (l : List Wr) (i j : Nat), i < l.length → j < 8 → (wrL l)[i * 8 + j]? = ((l.getD i default).cells)[j]?
 | [], i, j, hi, hj => by simp at hi
 | a :: l, 0, j, hi, hj => by
   unfold wrL
   rw [List.flatMap_cons, List.getElem?_append_left (by simp [Wr.cells]; omega)]
   simp
 | a :: l, i + 1, j, hi, hj => by
   have ih := wrL_get l i j (by simpa using hi) hj
   unfold wrL at *
   rw [List.flatMap_cons, List.getElem?_append_right (by simp [Wr.cells]; omega)]
   rw [show (i + 1) * 8 + j - a.cells.length = i * 8 + j by simp [Wr.cells]; omega, ih]
   simp
theorem wrL_set (l : List Wr) (i : Nat) (hi : i < l.length) (at_ : Nat) : wrL (l.set i { (l.getD i default) with pl := at_ }) = (wrL l).set (i * 8 + 7) (.int .i64 at_) := by
 induction l generalizing i with
 | nil => simp at hi
 | cons a l ih =>
   cases i with
   | zero =>
     unfold wrL
     rw [List.set_cons_zero, List.flatMap_cons, List.flatMap_cons, List.set_append_left _ _ (by simp [Wr.cells])]
     rfl
   | succ i =>
     have := ih i (by simpa using hi)
     unfold wrL at *
     rw [List.set_cons_succ, List.flatMap_cons, List.flatMap_cons, List.set_append_right _ _ (by simp [Wr.cells]; omega)]
     rw [show (i + 1) * 8 + 7 - a.cells.length = i * 8 + 7 by simp [Wr.cells]; omega, ← this]
     simp
def Wrs (w : World) (g : Nat) (us : List Wr) : Prop := ∃ cur, Blk w g 303 cur ∧ cur.toList.take (us.length * 8) = wrL us
section
variable {w w' : World} {g : Nat} {us : List Wr}
theorem Wrs.lt (h : Wrs w g us) : g < w.heap.size := by obtain ⟨_, h, _⟩ := h; exact h.lt
theorem Wrs.same (h : Wrs w g us) (hs : w'.heap[g]? = w.heap[g]?) : Wrs w' g us := by obtain ⟨cur, hb, r⟩ := h; exact ⟨cur, hb.same hs, r⟩
theorem Wrs.below (h : Wrs w g us) (hb : Below w.heap.size w w') : Wrs w' g us := h.same (hb.block g h.lt)
theorem Wrs.frozen (h : Wrs w g us) (i : Nat) : w.frozen? ⟨g, i, none⟩ = false := by obtain ⟨cur, hb, _⟩ := h; exact hb.frozen i
theorem Wrs.cell (h : Wrs w g us) {i j : Nat} {u : Value} (hi : i < us.length) (hj : j < 8) (hu : ((us.getD i default).cells)[j]? = some u) : w.cell? ⟨g, i * 8 + j, none⟩ = some u := by
 obtain ⟨cur, hb, r⟩ := h
 rw [hb.cell (i * 8 + j)]
 have h1 : (wrL us)[i * 8 + j]? = some u := by rw [wrL_get us i j hi hj]; exact hu
 rw [← r, List.getElem?_take] at h1
 split at h1
 ·rw [← h1]; simp
 ·cases h1
theorem Wrs.place (h : Wrs w g us) (i : Nat) (hi : i < us.length) (at_ : Nat) : Wrs (w.setCell ⟨g, i * 8 + 7, none⟩ (.int .i64 at_)) g (us.set i { (us.getD i default) with pl := at_ }) := by
 obtain ⟨cur, hb, r⟩ := h
 refine ⟨_, hb.set_ (i * 8 + 7) (.int .i64 at_), ?_⟩
 rw [wrL_set us i hi, List.length_set, ← r]
 simp [List.take_set]
end
theorem own_wrs {w : World} {base n : Nat} {v : Value} {us : List Wr} (h : w.ownsRow base 303 8 v n (wrL us)) (hn : us.length = n) (h0 : 0 < n) : ∃ g c, v = .slice (some ⟨g, 0, none⟩) n c ∧ Wrs w g us ∧ base ≤ g := by
 rcases h.2 with ⟨rfl, h1⟩ | ⟨g, cap, cur, rfl, hb, hg, hh, hc, hs, ht⟩
 ·omega
 ·refine ⟨g, cap, rfl, ⟨cur, hg, ?_⟩, hb⟩
  rw [hn]
  exact ht
end
section
open Go.RowKit
attribute [local go_sem] Oper.semAt_some
theorem u32_or1 (x : Nat) (hx : 2 * x < 4294967296) : bits .or .u32 ((2 * x : Nat) : Int) 1 = ((2 * x + 1 : Nat) : Int) := by
 have h := u32_or_nat (2 * x) 1 hx (by omega)
 rw [show 2 * x ||| 1 = 2 * x + 1 from by
  have h2 := Nat.shiftLeft_add_eq_or_of_lt (i := 1) (b := 1) (by omega) x
  rw [Nat.shiftLeft_eq] at h2
  rw [show 2 * x = x * 2 ^ 1 by omega]
  exact h2.symm] at h
 exact h
theorem ofits_any (v : Int) (h1 : -1073741824 ≤ v) (h2 : v ≤ 1073741823) (w : World) : Calls Tryz.prog 274 #[.int .i64 v] w fun e w' => e = .returned (.bool true) ∧ w = w' := by
 go_enter Tryz.func274, Tryz.ntmps274
 go_wp2_with fail
 go_ret
 exact ⟨by simp, rfl⟩
theorem osmall_any (v : Int) (h1 : -1073741824 ≤ v) (h2 : v ≤ 1073741823) (w : World) : Calls Tryz.prog 253 #[.int .i64 v] w fun e w' => e = .returned (.tuple #[.int .u32 (smallO v : Nat), .int .i64 0]) ∧ w = w' := by
 have HF := Lib.hid (ofits_any v h1 h2 w)
 obtain ⟨x, hx⟩ : ∃ x : Nat, ((2 * x : Nat) : Int) = v % 4294967296 * 2 % 4294967296 := ⟨(v % 2147483648).toNat, by omega⟩
 have hxl : 2 * x < 4294967296 := by omega
 have hor : bits .or .u32 (v % 4294967296 * 2 % 4294967296) 1 = ((2 * x + 1 : Nat) : Int) := by rw [← hx]; exact u32_or1 x hxl
 have HV := Lib.hid (show smallO v = 2 * x + 1 by unfold smallO; omega)
 clear hx hxl
 go_enter Tryz.func253, Tryz.ntmps253
 go_wp2_with fail
 refine HF.out.mono ?_
 rintro e w1 ⟨rfl, rfl⟩
 go_wp2_with fail
 go_ret2
 exact ⟨by rw [HV.out]; rfl, rfl⟩
structure LayB (w : World) (b5 bf : Nat) (A : Option Addr) (c : Nat) (us : List Wr) (fine : Bool) : Prop where
 objs : Blk w b5 301 #[.slice A us.length c]
 fn : Blk w bf 4 #[.bool fine]
 row : 0 < us.length → ∃ g, A = some ⟨g, 0, none⟩ ∧ Wrs w g us
 pl : ∀ i, i < us.length → (us.getD i default).pl = placeT ((us.map Wr.th).take i)
 top : placeT (us.map Wr.th) ≤ 1048576
 len : us.length ≤ 9000000
def FineP (bf : Nat) (v : Nat) (fine : Bool) (w : World) (e : Ending) (w' : World) : Prop :=
 e = .returned (.int .u32 (v : Nat)) ∧ Blk w' bf 4 #[.bool fine] ∧ Fr1 bf w w'
set_option maxRecDepth 100000 in
set_option maxHeartbeats 2000000 in
theorem laynamed_any {w : World} {b5 bf c : Nat} {A : Option Addr} {us : List Wr} {fine : Bool} (S : LayB w b5 bf A c us fine) (n : Nat) (hn : n < 4294967296) :
 Calls Tryz.prog 251 #[.int .u32 n, .pointer (some ⟨b5, 0, none⟩), .pointer (some ⟨bf, 0, none⟩)] w (FineP bf (namedT (us.map Wr.th) n) (fine && !wrongN (us.map Wr.th) n) w) := by
 have c0 := S.objs.cell 0
 have c1 := S.fn.cell 0
 have z1 := S.fn.frozen 0
 have hlen := S.len
 have hul : (us.map Wr.th).length = us.length := List.length_map ..
 by_cases h0 : n = 0
 ·subst h0
  have HF := Lib.hid (show FineP bf (namedT (us.map Wr.th) 0) (fine && !wrongN (us.map Wr.th) 0) w (.returned (.int .u32 0)) w from
   ⟨rfl, by rw [show (fine && !wrongN (us.map Wr.th) 0) = fine by unfold wrongN; simp]; exact S.fn, Fr1.refl _ _⟩)
  clear S
  go_enter Tryz.func251, Tryz.ntmps251
  go_wp2_with fail
  go_ret
  exact HF.out
 have hz : ((n : Int) == 0) = false := by simp; omega
 have hw : IntKind.u32.wrap (us.length : Int) = (us.length : Int) := by show (us.length : Int) % 4294967296 = _; omega
 by_cases hbig : us.length < n
 ·have hd : decide ((us.length : Int) < (n : Int)) = true := by simp; omega
  have HF := Lib.hid (show FineP bf (namedT (us.map Wr.th) n) (fine && !wrongN (us.map Wr.th) n) w (.returned (.int .u32 0)) (w.setCell ⟨bf, 0, none⟩ (.bool false)) from by
   refine ⟨by unfold namedT; rw [if_neg h0, if_pos (by rw [hul]; exact hbig)]; rfl, ?_, Fr1.set _ _ _ _⟩
   rw [show (fine && !wrongN (us.map Wr.th) n) = false by unfold wrongN; rw [hul]; simp [hbig]]
   exact S.fn.set_ 0 _)
  clear S h0
  go_enter Tryz.func251, Tryz.ntmps251
  go_wp2_with fail
  go_ret
  exact HF.out
 ·have hd : decide ((us.length : Int) < (n : Int)) = false := by simp; omega
  obtain ⟨g, hA, hrow⟩ := S.row (by omega)
  subst hA
  have hpl := S.pl (n - 1) (by omega)
  have hcl := hrow.cell (i := n - 1) (j := 7) (u := .int .i64 (us.getD (n - 1) default).pl) (by omega) (by omega) rfl
  have hp1 : 1 ≤ (us.getD (n - 1) default).pl := by rw [hpl]; unfold placeT; omega
  have hp2 : (us.getD (n - 1) default).pl ≤ 1048576 := by rw [hpl]; exact Nat.le_trans (placeT_le _ _) S.top
  have HAT := Lib.hid (oat_any (us.getD (n - 1) default).pl hp1 (by omega) w)
  have HF := Lib.hid (show FineP bf (namedT (us.map Wr.th) n) (fine && !wrongN (us.map Wr.th) n) w (.returned (.int .u32 (2 * (us.getD (n - 1) default).pl : Nat))) w from by
   refine ⟨?_, ?_, Fr1.refl _ _⟩
   ·unfold namedT
    rw [if_neg h0, if_neg (by rw [hul]; omega), ← hpl, Nat.mod_eq_of_lt (by omega)]
   ·rw [show (fine && !wrongN (us.map Wr.th) n) = fine by unfold wrongN; rw [hul]; simp; omega]
    exact S.fn)
  clear S hrow hpl
  generalize (us.getD (n - 1) default).pl = pl at *
  obtain ⟨m, rfl⟩ : ∃ m, n = m + 1 := ⟨n - 1, by omega⟩
  have hm1 : ((m + 1 : Nat) : Int) - 1 = (m : Int) := by omega
  have hlt : (m : Int) < (us.length : Int) := by omega
  simp only [Nat.add_sub_cancel] at hcl
  clear h0
  go_enter Tryz.func251, Tryz.ntmps251
  go_wp2_with fail
  refine HAT.out.mono ?_
  rintro e w1 ⟨rfl, rfl⟩
  go_wp2_with fail
  go_ret
  exact HF.out
structure LayV (w : World) (b5 bf b13 : Nat) (A : Option Addr) (c : Nat) (us : List Wr) (fine : Bool) : Prop where
 b : LayB w b5 bf A c us fine
 cl : Blk w b13 55 #[.func (.func 251) #[] #[.pointer (some ⟨b5, 0, none⟩), .pointer (some ⟨bf, 0, none⟩)]]
set_option maxRecDepth 100000 in
set_option maxHeartbeats 2000000 in
theorem layvalue_any {w : World} {b5 bf b13 c : Nat} {A : Option Addr} {us : List Wr} {fine : Bool} (S : LayV w b5 bf b13 A c us fine) (n : Nat) (hn : n < 4294967296) :
 Calls Tryz.prog 252 #[.int .u32 n, .pointer (some ⟨b13, 0, none⟩)] w (FineP bf (valT (us.map Wr.th) n) (fine && !wrongV (us.map Wr.th) n) w) := by
 have c0 := S.cl.cell 0
 have hand := u32_and_one n hn
 by_cases h0 : n % 2 = 0
 ·have HN := Lib.hid (laynamed_any S.b (n / 2) (by omega))
  have HE := Lib.hid (show valT (us.map Wr.th) n = namedT (us.map Wr.th) (n / 2) ∧ wrongV (us.map Wr.th) n = wrongN (us.map Wr.th) (n / 2) from ⟨by unfold valT; rw [if_pos h0], by unfold wrongV; rw [decide_eq_true h0, Bool.true_and]⟩)
  rw [h0] at hand
  have hdv : ((n / 2 : Nat) : Int) = (n : Int) / 2 := by omega
  rw [hdv] at HN
  clear S h0 hdv
  go_enter Tryz.func252, Tryz.ntmps252
  go_wp2_with fail
  refine HN.out.mono ?_
  rintro e w1 ⟨rfl, h1, h2⟩
  have HR := Lib.hid (And.intro h1 h2)
  clear h1 h2
  go_wp2_with fail
  go_ret
  rw [HE.out.1, HE.out.2]
  exact ⟨rfl, HR.out.1, HR.out.2⟩
 ·have h1 : n % 2 = 1 := by omega
  have HE := Lib.hid (show valT (us.map Wr.th) n = smallO (zagI (n / 2)) ∧ (fine && !wrongV (us.map Wr.th) n) = fine from ⟨by unfold valT; rw [if_neg h0], by unfold wrongV; rw [decide_eq_false h0]; simp⟩)
  have HB := Lib.hid S.b.fn
  rw [h1] at hand
  clear S h0
  obtain ⟨z, hz⟩ : ∃ z, z = n / 2 := ⟨_, rfl⟩
  have hzl : z < 2147483648 := by omega
  have hzi : (n : Int) / 2 = (z : Int) := by omega
  by_cases hp : z % 2 = 0
  ·have HV := Lib.hid (show zagI (n / 2) = (z : Int) / 2 by rw [← hz]; unfold zagI; rw [if_pos hp]; omega)
   have hr : ((z : Int) % 2 == 1) = false := by simp; omega
   have HS := Lib.hid (osmall_any ((z : Int) / 2) (by omega) (by omega) w)
   rw [HV.out] at HE
   clear hp hz h1 HV
   go_enter Tryz.func252, Tryz.ntmps252
   go_wp2_with fail
   refine HS.out.mono ?_
   rintro e w1 ⟨rfl, rfl⟩
   go_wp2_with fail
   go_ret
   rw [HE.out.1, HE.out.2]
   exact ⟨rfl, HB.out, Fr1.refl _ _⟩
  ·obtain ⟨y, hy⟩ : ∃ y, y = (z + 1) / 2 := ⟨_, rfl⟩
   have hyb : y ≤ 1073741824 := by omega
   have HV := Lib.hid (show zagI (n / 2) = -(y : Int) by rw [← hz]; unfold zagI; rw [if_neg hp, hy])
   have hr : ((z : Int) % 2 == 1) = true := by simp; omega
   have HS := Lib.hid (osmall_any (-(y : Int)) (by omega) (by omega) w)
   have hq : ((z : Int) + 1).tdiv 2 = (y : Int) := by rw [Int.tdiv_eq_ediv_of_nonneg (by omega)]; omega
   rw [HV.out] at HE
   clear hp hz h1 HV hy
   go_enter Tryz.func252, Tryz.ntmps252
   go_wp2_with fail
   refine HS.out.mono ?_
   rintro e w1 ⟨rfl, rfl⟩
   go_wp2_with fail
   go_ret
   rw [HE.out.1, HE.out.2]
   exact ⟨rfl, HB.out, Fr1.refl _ _⟩
end
section
open Go.RowKit
attribute [local go_sem] Oper.semAt_some
structure KpO (M : Nat) (A B : World) : Prop where
 os : B.os = A.os
 tape : B.tape = A.tape
 output : B.output = A.output
 size : A.heap.size ≤ B.heap.size
 low : ∀ k, k < M → B.heap[k]? = A.heap[k]?
 cells : ∀ k cs t, t ≠ 5 → t ≠ 22 → Blk A k t cs → Blk B k t cs
theorem KpO.refl (M : Nat) (A : World) : KpO M A A := ⟨rfl, rfl, rfl, Nat.le_refl _, fun _ _ => rfl, fun _ _ _ _ _ b => b⟩
theorem KpO.trans {M : Nat} {A B C : World} (h : KpO M A B) (k : KpO M B C) : KpO M A C :=
 ⟨k.os.trans h.os, k.tape.trans h.tape, k.output.trans h.output, Nat.le_trans h.size k.size, fun i hi => (k.low i hi).trans (h.low i hi), fun i cs t h1 h2 b => k.cells i cs t h1 h2 (h.cells i cs t h1 h2 b)⟩
theorem KpO.of_below {M : Nat} {A B : World} (hb : Below A.heap.size A B) (hM : M ≤ A.heap.size) : KpO M A B :=
 ⟨hb.os, hb.tape, hb.output, hb.size, fun k hk => hb.block k (by omega), fun k cs t _ _ b => b.below hb b.lt⟩
theorem KpO.book {M : Nat} (W : World) (l : Nat) (o o' : Obj) (h1 : M ≤ l) (hl : W.heap[l]? = some o) (hc : o.isCells = false) : KpO M W (W.putObj l o') := by
 have hg := grownBy_putObj' W l o'
 have hk : ∀ k, k ≠ l → (W.putObj l o').heap[k]? = W.heap[k]? := fun k hk => by
  rcases Nat.lt_or_ge k W.heap.size with h | h
  ·exact hg.block k h (fun e => by first | exact hk (Option.some.inj e).symm | exact hk (Option.some.inj e))
  ·have e1 : (W.putObj l o').heap.size = W.heap.size := by simp [World.putObj]
   rw [Array.getElem?_eq_none (by omega), Array.getElem?_eq_none (by omega)]
 exact ⟨hg.os, hg.tape, hg.output, hg.size, fun k h => hk k (by omega), fun g cs t _ _ b => b.same (hk g (fun e => by
  subst e; have e2 := Option.some.inj (hl.symm.trans b); rw [e2] at hc; cases hc))⟩
theorem Row.keptO {M g c : Nat} {A B : World} {e : TypeId} {xs : List Value} (h : Row A g e c xs) (k : KpO M A B) (h1 : e ≠ 5) (h2 : e ≠ 22) : Row B g e c xs := by
 obtain ⟨cur, hb, r⟩ := h
 exact ⟨cur, k.cells g cur e h1 h2 hb, r⟩
theorem KpO.need {w : World} {h : HM} {n0 : Nat} (hs : Spares w) : NeedA (fun A B => KpO w.heap.size A B) n0 h :=
 ⟨fun k _ H => ⟨k.cells _ _ _ (by decide) (by decide) H.1, H.2.1.keptO k (by decide) (by decide), H.2.2.1.keptO k (by decide) (by decide), H.2.2.2.keptO k (by decide) (by decide)⟩,
   fun k hA i hi => (World.cell?_of_block (k.low _ (World.block_lt_of_cell? _ _ (hs i hi)))).trans (hA i hi)⟩
theorem KeepsFrom.belowI {w w' : World} {B : Nat} (hb : Below w.heap.size w w') : KeepsFrom B w w' := ⟨hb.size, fun k o _ ho _ => (hb.block k (lt_of_get ho)).trans ho⟩
structure OSt (w : World) (sg bS bB : Nat) (v : Value) (bs : List Nat) (W : World) : Prop where
 rb : RB w W w.heap.size v bs
 bb : Blk W bB 22 #[v]
 bx : Blk W bS 192 #[.pointer (some ⟨sg, 0, none⟩)]
section
variable {w W W' : World} {sg bS bB : Nat} {v v' : Value} {bs bs' : List Nat}
theorem OSt.below (S : OSt w sg bS bB v bs W) (hb : Below W.heap.size W W') : OSt w sg bS bB v bs W' := ⟨S.rb.below hb, S.bb.below hb S.bb.lt, S.bx.below hb S.bx.lt⟩
theorem own_typeI {w : World} {base : Nat} {e : TypeId} {v : Value} {n g : Nat} {xs : List Value} {o : Obj} (h : w.ownsRow base e 1 v n xs) (ho : w.heap[g]? = some o) (hne : ∀ cs, o ≠ .cells cs e (0, 0)) : v.ownBlock ≠ some g := by
 intro hk
 rcases h.2 with ⟨h1, _⟩ | ⟨g', cap, cur, h1, h2, h3, h4⟩
 ·rw [h1] at hk; cases hk
 ·rw [h1] at hk
  have e1 : g' = g := by injection hk
  rw [e1, ho] at h3
  injection h3 with h3
  exact hne _ h3
theorem own_blkI {w : World} {base : Nat} {e t : TypeId} {v : Value} {n g : Nat} {xs : List Value} {cs : Array Value} (h : w.ownsRow base e 1 v n xs) (b : Blk w g t cs) (hne : e ≠ t) : v.ownBlock ≠ some g :=
 own_typeI h b (fun cs' e => hne (by injection e with _ e; exact e.symm))
theorem OSt.own' {B : Nat} {row : Option Nat} (S : OSt w sg bS bB v bs W) (hB : w.heap.size ≤ B) (hg : W.grownBy W' row) (hr : ∀ r, row = some r → B ≤ r ∧ ∃ o : Obj, W.heap[r]? = some o ∧ o.isCells = false) : OSt w sg bS bB v bs W' := by
 have hc : ∀ g cs t, Blk W g t cs → W'.heap[g]? = W.heap[g]? := fun g cs t b => hg.block g b.lt (fun e => by
  obtain ⟨_, o, ho, hc⟩ := hr g e.symm
  unfold Blk at b; rw [b] at ho; injection ho with ho; subst ho; cases hc)
 refine ⟨⟨own_sameI S.rb.own (fun k hk => ?_), S.rb.base.grown hg S.rb.base.size (fun k e => by have := (hr k e).1; omega), S.rb.hB, Nat.le_trans S.rb.top hg.size⟩, S.bb.same (hc _ _ _ S.bb), S.bx.same (hc _ _ _ S.bx)⟩
 rcases S.rb.own.2 with ⟨h1, _⟩ | ⟨g', cap, cur, h1, h2, h3, h4⟩
 ·rw [h1] at hk; cases hk
 ·rw [h1] at hk
  have e1 : g' = k := by injection hk
  rw [e1] at h3
  exact hc _ _ _ h3
theorem OSt.app {B : Nat} (S : OSt w sg bS bB v bs W) (hB : w.heap.size ≤ bB) (C : RB w W' w.heap.size v' bs') (hg : W.grownBy W' v.ownBlock) :
 OSt w sg bS bB v' bs' (W'.setCell ⟨bB, 0, none⟩ v') ∧ KpO w.heap.size W (W'.setCell ⟨bB, 0, none⟩ v') ∧ KeepsFrom B W (W'.setCell ⟨bB, 0, none⟩ v') ∧ W'.frozen? ⟨bB, 0, none⟩ = false ∧ (∃ u, W'.cell? ⟨bB, 0, none⟩ = some u) := by
 have hk : ∀ g t cs, Blk W g t cs → t ≠ 5 → W'.heap[g]? = W.heap[g]? := fun g t cs b hne => hg.block g b.lt (fun e => own_blkI S.rb.own b (Ne.symm hne) (by first | exact e | exact e.symm))
 have bb1 := S.bb.same (hk _ _ _ S.bb (by decide))
 have hfar : ∀ g, g ≠ bB → (W'.setCell ⟨bB, 0, none⟩ v').heap[g]? = W'.heap[g]? := fun g hne => Below.heap_setCell W' ⟨bB, 0, none⟩ v' g hne
 have hbase : Below w.heap.size w (W'.setCell ⟨bB, 0, none⟩ v') := C.base.setCell (p := ⟨bB, 0, none⟩) hB _
 have hsz : (W'.setCell ⟨bB, 0, none⟩ v').heap.size = W'.heap.size := by simp [World.setCell]
 have hne : ∀ g t cs, Blk W g t cs → t ≠ 22 → g ≠ bB := fun g t cs b h e => by
  subst e
  have h1 := S.bb
  unfold Blk at b h1
  rw [b] at h1
  injection h1 with h1
  injection h1 with _ h1
  exact h h1
 refine ⟨⟨⟨own_sameI C.own (fun k hk' => hfar k (fun e => ?_)), hbase, C.hB, by rw [hsz]; exact C.top⟩, bb1.set_ 0 v', ?_⟩, ⟨hg.os, hg.tape, hg.output, by rw [hsz]; exact hg.size, fun k hk' => (hbase.block k hk').trans (S.rb.base.block k hk').symm, fun k cs t h1 h2 b => b.same ((hfar k (hne _ _ _ b h2)).trans (hk _ _ _ b h1))⟩, ⟨by rw [hsz]; exact hg.size, fun k o hk' ho hc => ?_⟩, bb1.frozen 0, ⟨_, bb1.cell 0⟩⟩
 ·subst e
  exact own_blkI C.own bb1 (by decide) hk'
 ·exact S.bx.same ((hfar _ (hne _ _ _ S.bx (by decide))).trans (hk _ _ _ S.bx (by decide)))
 ·have h1 : k ≠ bB := fun e => by
   subst e
   have h1 := S.bb
   unfold Blk at h1
   rw [ho] at h1
   injection h1 with h1
   subst h1
   cases hc
  refine (hfar k h1).trans ((hg.block k (lt_of_get ho) (fun e => own_typeI S.rb.own ho (fun cs e2 => by subst e2; cases hc) (by first | exact e | exact e.symm))).trans ho)
structure OB (w : World) (sg bS bB B0 : Nat) (Ws : World) (b5 : Nat) (X : Hd) (v : Value) (bs : List Nat) (W : World) : Prop where
 st : OSt w sg bS bB v bs W
 kp : KpO w.heap.size Ws W
 kf : KeepsFrom B0 Ws W
 hd : Blk W b5 75 X.cells
variable {B0 b5 : Nat} {Ws : World} {X : Hd}
theorem OB.below (S : OB w sg bS bB B0 Ws b5 X v bs W) (hb : Below W.heap.size W W') : OB w sg bS bB B0 Ws b5 X v bs W' :=
 ⟨S.st.below hb, S.kp.trans (.of_below hb (Nat.le_trans S.st.rb.hB S.st.rb.top)), S.kf.trans (KeepsFrom.belowI hb), S.hd.below hb S.hd.lt⟩
theorem OB.app (S : OB w sg bS bB B0 Ws b5 X v bs W) (hB : w.heap.size ≤ bB) (C : RB w W' w.heap.size v' bs') (hg : W.grownBy W' v.ownBlock) : OB w sg bS bB B0 Ws b5 X v' bs' (W'.setCell ⟨bB, 0, none⟩ v') := by
 obtain ⟨h1, h2, h3, _⟩ := S.st.app (B := B0) hB C hg
 exact ⟨h1, S.kp.trans h2, S.kf.trans h3, h2.cells _ _ _ (by decide) (by decide) S.hd⟩
theorem OB.cells (S : OB w sg bS bB B0 Ws b5 X v bs W) : W.cell? ⟨bB, 0, none⟩ = some v ∧ W.cell? ⟨bS, 0, none⟩ = some (.pointer (some ⟨sg, 0, none⟩)) ∧ W.cell? ⟨b5, 0, none⟩ = some (.int .i64 X.size) ∧ W.cell? ⟨b5, 1, none⟩ = some (.int .i64 X.fmt) ∧ W.cell? ⟨b5, 2, none⟩ = some (.int .i64 X.spare) ∧ W.cell? ⟨b5, 3, none⟩ = some (.int .u32 X.cls) ∧ W.cell? ⟨b5, 4, none⟩ = some (.int .u32 X.ser) :=
 ⟨S.st.bb.cell 0, S.st.bx.cell 0, S.hd.cell 0, S.hd.cell 1, S.hd.cell 2, S.hd.cell 3, S.hd.cell 4⟩
end
structure OCells (sg mb pg bS bB b5 : Nat) (L : List Nat) (X : Hd) (v : Value) (W : World) : Prop where
 cB : W.cell? ⟨bB, 0, none⟩ = some v
 cS : W.cell? ⟨bS, 0, none⟩ = some (.pointer (some ⟨sg, 0, none⟩))
 g0 : W.cell? ⟨sg, 0, none⟩ = some (.pointer (some ⟨pg, 0, none⟩))
 g1 : W.cell? ⟨sg, 1, none⟩ = some (.map (some mb))
 x0 : W.cell? ⟨b5, 0, none⟩ = some (.int .i64 X.size)
 x1 : W.cell? ⟨b5, 1, none⟩ = some (.int .i64 X.fmt)
 x2 : W.cell? ⟨b5, 2, none⟩ = some (.int .i64 X.spare)
 x3 : W.cell? ⟨b5, 3, none⟩ = some (.int .u32 X.cls)
 x4 : W.cell? ⟨b5, 4, none⟩ = some (.int .u32 X.ser)
 lk : (Instr.lookup 143 (.map (some mb)) (.int .u32 (X.cls : Int)) false).run Tryz.prog W = .ok (.int .u32 (numL L X.cls : Nat)) W
section
variable {w W W' : World} {sg mb pg bS bB B0 b5 : Nat} {Ws : World} {v v' : Value} {bs bs' : List Nat} {X : Hd} {L : List Nat}
theorem OB.oc (O : OB w sg bS bB B0 Ws b5 X v bs W) (S : SvAt w sg mb pg L) (hnd : L.Nodup) (hc : X.cls < 4294967296) : OCells sg mb pg bS bB b5 L X v W := by
 obtain ⟨h0, h1, h2, h3, h4, h5, h6⟩ := O.cells
 have S' := S.below O.st.rb.base
 exact ⟨h0, h1, S'.box.cell 0, S'.box.cell 1, h2, h3, h4, h5, h6, S'.map.look hnd oopTyU hc⟩
theorem OB.ocm (O : OB w sg bS bB B0 Ws b5 X v bs W) (S : SvAt w sg mb pg L) (hnd : L.Nodup) (hc : X.cls < 4294967296) (C : RB w W' w.heap.size v' bs') (hg : W.grownBy W' v.ownBlock) : OCells sg mb pg bS bB b5 L X v W' := by
 have hk : ∀ g t cs, Blk W g t cs → t ≠ 5 → Blk W' g t cs := fun g t cs b hne => b.same (hg.block g b.lt (fun e => own_blkI O.st.rb.own b (Ne.symm hne) (by first | exact e | exact e.symm)))
 have S' := S.below C.base
 have hd := hk _ _ _ O.hd (by decide)
 exact ⟨(hk _ _ _ O.st.bb (by decide)).cell 0, (hk _ _ _ O.st.bx (by decide)).cell 0, S'.box.cell 0, S'.box.cell 1, hd.cell 0, hd.cell 1, hd.cell 2, hd.cell 3, hd.cell 4, S'.map.look hnd oopTyU hc⟩
theorem OB.room (O : OB w sg bS bB B0 Ws b5 X v bs W) (C : RB w W' w.heap.size v' bs') (hg : W.grownBy W' v.ownBlock) : W'.frozen? ⟨bB, 0, none⟩ = false ∧ W'.cell? ⟨bB, 0, none⟩ = some v := by
 have hk : ∀ g t cs, Blk W g t cs → t ≠ 5 → Blk W' g t cs := fun g t cs b hne => b.same (hg.block g b.lt (fun e => own_blkI O.st.rb.own b (Ne.symm hne) (by first | exact e | exact e.symm)))
 have h := hk _ _ _ O.st.bb (by decide)
 exact ⟨h.frozen 0, h.cell 0⟩
end
end
end Go.Proofs.YtlkahgagmfhdaaaGreatDoor
