import Derived.Test.YthadjmhipckelaaGreatDoorJIAppIn
import Derived.Test.YthadjmhipckelaaGreatDoorJAlloc
import Derived.Test.YthadjmhipckelaaGreatDoorJUntil
set_option linter.unusedVariables false
set_option linter.unusedSimpArgs false
namespace Go.Proofs.YthadjmhipckelaaGreatDoor
section
open Go.RowKit
attribute [local go_sem] Oper.semAt_some
theorem Blk.fr1 {w w' : World} {g rg : Nat} {t : TypeId} {c : Array Value} (b : Blk w g t c) (F : Fr1 rg w w') (h : g ≠ rg) : Blk w' g t c := b.same (F.same g b.lt h)
theorem RdAt.set {w : World} {L rg c g i : Nat} {A : Option Addr} {bs : List Nat} {bad : Bool} {v : Value} (R : RdAt w L rg A c bs bad) (h : g ≠ rg) (hL : L ≤ g) : RdAt (w.setCell ⟨g, i, none⟩ v) L rg A c bs bad :=
 ⟨R.box.same (Below.heap_setCell w ⟨g, i, none⟩ v rg h.symm), R.cap, R.rd.below (Below.setCell (Below.refl _ _) (p := ⟨g, i, none⟩) hL v), R.far, R.b8⟩
def wrC (x : Hd) (vf : Value) (at_ : Nat) : Array Value := #[.int .i64 x.size, .int .i64 x.fmt, .int .i64 x.spare, .int .u32 0, .int .u32 x.ser, .int .u32 x.cls, vf, .int .i64 at_]
def wrV (x : Hd) (vf : Value) (at_ : Nat) : Value := .agg (wrC x vf at_)
def ThV (lo : Nat) (w : World) (t : Th) (v : Value) : Prop := ∃ (A : Option Addr) (c : Nat), v = wrV t.x (.slice A t.fs.length c) 0 ∧ Reads w w.heap.size 1 A t.fs.length (u32s t.fs) ∧ ∀ a, A = some a → lo ≤ a.block
def ObjP (L rg : Nat) (bs : List Nat) (w : World) (e : Ending) (w' : World) : Prop :=
 ∃ v A c bs' bad', e = .returned v ∧ (∃ (x : Hd) (Af : Option Addr) (nf cf : Nat), v = wrV x (.slice Af nf cf) 0) ∧ RdAt w' L rg A c bs' bad' ∧ Fr1 rg w w' ∧ (bad' = true → rdObj bs = none) ∧ (bad' = false → ∃ t, rdObj bs = some (t, bs') ∧ ThV w.heap.size w' t v)
theorem Blk.setAll8 {w : World} {g : Nat} {t : TypeId} {a b c d e f k l : Value} (h : Blk w g t #[a, b, c, d, e, f, k, l]) (x0 x1 x2 x3 x4 x5 x6 x7 : Value) :
 Blk ((((((((w.setCell ⟨g, 0, none⟩ x0).setCell ⟨g, 1, none⟩ x1).setCell ⟨g, 2, none⟩ x2).setCell ⟨g, 3, none⟩ x3).setCell ⟨g, 4, none⟩ x4).setCell ⟨g, 5, none⟩ x5).setCell ⟨g, 6, none⟩ x6).setCell ⟨g, 7, none⟩ x7) g t #[x0, x1, x2, x3, x4, x5, x6, x7] := by
 have hh := (((((((h.set_ 0 x0).set_ 1 x1).set_ 2 x2).set_ 3 x3).set_ 4 x4).set_ 5 x5).set_ 6 x6).set_ 7 x7
 simp only [List.setIfInBounds_toArray, List.set_cons_zero, List.set_cons_succ] at hh
 exact hh
theorem Fr1.setAll8 {w w' : World} {g rg : Nat} (F : Fr1 rg w w') (hg : w.heap.size ≤ g) (x0 x1 x2 x3 x4 x5 x6 x7 : Value) :
 Fr1 rg w ((((((((w'.setCell ⟨g, 0, none⟩ x0).setCell ⟨g, 1, none⟩ x1).setCell ⟨g, 2, none⟩ x2).setCell ⟨g, 3, none⟩ x3).setCell ⟨g, 4, none⟩ x4).setCell ⟨g, 5, none⟩ x5).setCell ⟨g, 6, none⟩ x6).setCell ⟨g, 7, none⟩ x7) := by
 have h1 : ∀ (W : World) (i : Nat) (v : Value), Fr1 rg w W → Fr1 rg w (W.setCell ⟨g, i, none⟩ v) := fun W i v F => ⟨F.os, F.tape, F.output, by have := F.size; simp [World.setCell]; exact this, fun k hk hne => (Below.heap_setCell W ⟨g, i, none⟩ v k (by show k ≠ g; omega)).trans (F.same k hk hne)⟩
 exact h1 _ _ _ (h1 _ _ _ (h1 _ _ _ (h1 _ _ _ (h1 _ _ _ (h1 _ _ _ (h1 _ _ _ (h1 _ _ _ F)))))))
theorem reads8 {w : World} {g n : Nat} {A : Option Addr} {xs : List Value} (h : Reads w w.heap.size 1 A n xs) (hne : 0 < n → ∀ a, A = some a → a.block ≠ g) (x0 x1 x2 x3 x4 x5 x6 x7 : Value) :
 Reads ((((((((w.setCell ⟨g, 0, none⟩ x0).setCell ⟨g, 1, none⟩ x1).setCell ⟨g, 2, none⟩ x2).setCell ⟨g, 3, none⟩ x3).setCell ⟨g, 4, none⟩ x4).setCell ⟨g, 5, none⟩ x5).setCell ⟨g, 6, none⟩ x6).setCell ⟨g, 7, none⟩ x7) ((((((((w.setCell ⟨g, 0, none⟩ x0).setCell ⟨g, 1, none⟩ x1).setCell ⟨g, 2, none⟩ x2).setCell ⟨g, 3, none⟩ x3).setCell ⟨g, 4, none⟩ x4).setCell ⟨g, 5, none⟩ x5).setCell ⟨g, 6, none⟩ x6).setCell ⟨g, 7, none⟩ x7).heap.size 1 A n xs := by
 have h1 : ∀ (W : World) (i : Nat) (v : Value), Reads W W.heap.size 1 A n xs → Reads (W.setCell ⟨g, i, none⟩ v) (W.setCell ⟨g, i, none⟩ v).heap.size 1 A n xs := fun W i v h => by
  have hsz : (W.setCell ⟨g, i, none⟩ v).heap.size = W.heap.size := by simp [World.setCell]
  rw [hsz]
  refine ⟨h.1, fun hn => ?_⟩
  obtain ⟨a, ha, hb, hc⟩ := h.2 hn
  exact ⟨a, ha, hb, fun j u hu => (World.cell?_of_block (a := a.add j) (Below.heap_setCell W ⟨g, i, none⟩ v _ (by show (a.add j).block ≠ g; rw [block_of_add]; exact hne hn a ha))).trans (hc j u hu)⟩
 exact h1 _ _ _ (h1 _ _ _ (h1 _ _ _ (h1 _ _ _ (h1 _ _ _ (h1 _ _ _ (h1 _ _ _ (h1 _ _ _ h)))))))
theorem reads1 {w : World} {g i n : Nat} {v : Value} {A : Option Addr} {xs : List Value} (h : Reads w w.heap.size 1 A n xs) (hne : 0 < n → ∀ a, A = some a → a.block ≠ g) : Reads (w.setCell ⟨g, i, none⟩ v) (w.setCell ⟨g, i, none⟩ v).heap.size 1 A n xs := by
 have hsz : (w.setCell ⟨g, i, none⟩ v).heap.size = w.heap.size := by simp [World.setCell]
 rw [hsz]
 refine ⟨h.1, fun hn => ?_⟩
 obtain ⟨a, ha, hb, hc⟩ := h.2 hn
 exact ⟨a, ha, hb, fun j u hu => (World.cell?_of_block (a := a.add j) (Below.heap_setCell w ⟨g, i, none⟩ v _ (by show (a.add j).block ≠ g; rw [block_of_add]; exact hne hn a ha))).trans (hc j u hu)⟩
structure OrS (L rg : Nat) (w0 w : World) (b2 b3 : Nat) (cs : Array Value) (A : Option Addr) (c : Nat) (bs : List Nat) (bad : Bool) : Prop where
 rd : RdAt w L rg A c bs bad
 fr : Fr1 rg w0 w
 res : Blk w b2 132 #[.int .i64 0, .int .i64 0, .int .i64 0, .int .u32 0, .int .u32 0, .int .u32 0, .slice none 0 0, .int .i64 0]
 box : Blk w b3 132 cs
 h2 : w0.heap.size ≤ b2
 h3 : w0.heap.size ≤ b3
 ne : b2 ≠ b3
 hrg : rg < w0.heap.size
section
variable {L rg b2 b3 c c' : Nat} {w0 w w' : World} {cs : Array Value} {A A' : Option Addr} {bs bs' : List Nat} {bad bad' : Bool}
theorem OrS.read (S : OrS L rg w0 w b2 b3 cs A c bs bad) (R : RdAt w' L rg A' c' bs' bad') (F : Fr1 rg w w') : OrS L rg w0 w' b2 b3 cs A' c' bs' bad' :=
 ⟨R, S.fr.trans F, S.res.fr1 F (by have := S.h2; have := S.hrg; omega), S.box.fr1 F (by have := S.h3; have := S.hrg; omega), S.h2, S.h3, S.ne, S.hrg⟩
theorem OrS.below (S : OrS L rg w0 w b2 b3 cs A c bs bad) (h : Below w.heap.size w w') : OrS L rg w0 w' b2 b3 cs A c bs bad := S.read (S.rd.below h) (Fr1.of_below h)
theorem OrS.set (S : OrS L rg w0 w b2 b3 cs A c bs bad) (i : Nat) (v : Value) : OrS L rg w0 (w.setCell ⟨b3, i, none⟩ v) b2 b3 (cs.setIfInBounds i v) A c bs bad :=
 ⟨S.rd.set (by have := S.h3; have := S.hrg; omega) (by have := S.h3; have := S.hrg; have := S.rd.far; omega), ⟨S.fr.os, S.fr.tape, S.fr.output, by have := S.fr.size; simp [World.setCell]; exact this, fun k hk hne => (Below.heap_setCell w ⟨b3, i, none⟩ v k (by show k ≠ b3; have := S.h3; omega)).trans (S.fr.same k hk hne)⟩, S.res.same (Below.heap_setCell w ⟨b3, i, none⟩ v b2 S.ne), S.box.set_ i v, S.h2, S.h3, S.ne, S.hrg⟩
theorem OrS.bad_ (S : OrS L rg w0 w b2 b3 cs A c bs bad) : OrS L rg w0 (w.setCell ⟨rg, 1, none⟩ (.bool true)) b2 b3 cs A c bs true :=
 S.read ⟨S.rd.box.set_ 1 _, S.rd.cap, S.rd.rd.below (Below.setCell (Below.refl _ _) (p := ⟨rg, 1, none⟩) S.rd.far _), S.rd.far, S.rd.b8⟩ (Fr1.set _ _ _ _)
theorem OrS.fin (S : OrS L rg w0 w b2 b3 cs A c bs bad) (x0 x1 x2 x3 x4 x5 x6 x7 : Value) :
 Blk ((((((((w.setCell ⟨b2, 0, none⟩ x0).setCell ⟨b2, 1, none⟩ x1).setCell ⟨b2, 2, none⟩ x2).setCell ⟨b2, 3, none⟩ x3).setCell ⟨b2, 4, none⟩ x4).setCell ⟨b2, 5, none⟩ x5).setCell ⟨b2, 6, none⟩ x6).setCell ⟨b2, 7, none⟩ x7) b2 132 #[x0, x1, x2, x3, x4, x5, x6, x7] ∧
 RdAt ((((((((w.setCell ⟨b2, 0, none⟩ x0).setCell ⟨b2, 1, none⟩ x1).setCell ⟨b2, 2, none⟩ x2).setCell ⟨b2, 3, none⟩ x3).setCell ⟨b2, 4, none⟩ x4).setCell ⟨b2, 5, none⟩ x5).setCell ⟨b2, 6, none⟩ x6).setCell ⟨b2, 7, none⟩ x7) L rg A c bs bad ∧
 Fr1 rg w0 ((((((((w.setCell ⟨b2, 0, none⟩ x0).setCell ⟨b2, 1, none⟩ x1).setCell ⟨b2, 2, none⟩ x2).setCell ⟨b2, 3, none⟩ x3).setCell ⟨b2, 4, none⟩ x4).setCell ⟨b2, 5, none⟩ x5).setCell ⟨b2, 6, none⟩ x6).setCell ⟨b2, 7, none⟩ x7) := by
 have h1 : b2 ≠ rg := by have := S.h2; have := S.hrg; omega
 have h2 : L ≤ b2 := by have := S.h2; have := S.hrg; have := S.rd.far; omega
 exact ⟨S.res.setAll8 _ _ _ _ _ _ _ _, (((((((S.rd.set h1 h2).set h1 h2).set h1 h2).set h1 h2).set h1 h2).set h1 h2).set h1 h2).set h1 h2, S.fr.setAll8 S.h2 _ _ _ _ _ _ _ _⟩
theorem OrS.spares (S : OrS L rg w0 w b2 b3 cs A c bs bad) (hs : Spares w0) (hsp : 0 < L) : Spares w := fun i hi =>
 (World.cell?_of_block (a := ⟨0, i, none⟩) (S.fr.same 0 (by have := S.hrg; have := S.rd.far; omega) (by have := S.rd.far; omega))).trans (hs i hi)
end
theorem hd_of {bs bs1 bs2 bs3 bs4 : List Nat} {c1 k n s : Nat} {d1 d2 d3 d4 : Bool} (D1 : Rdd false (rdNum bs) c1 bs1 d1) (D2 : Rdd d1 (rdB bs1) k bs2 d2) (D3 : Rdd d2 (rdNum bs2) n bs3 d3) (D4 : Rdd d3 (rdNum bs3) s bs4 d4) :
 (d4 = true → rdHd bs = none) ∧ (d4 = false → rdHd bs = if okB ⟨n, k % 16, k / 16, c1, s⟩ then some (⟨n, k % 16, k / 16, c1, s⟩, bs4) else none) := by
 unfold rdHd
 cases d1 with
 | true =>
   have h1 : rdNum bs = none := by
    cases hh : rdNum bs with
    | none => rfl
    | some p => have := D1.2 rfl ⟨p, hh⟩; cases this
   rw [h1]
   refine ⟨fun _ => rfl, fun e => ?_⟩
   obtain ⟨e3, _⟩ := D4.1 e
   obtain ⟨e2, _⟩ := D3.1 e3
   obtain ⟨e1, _⟩ := D2.1 e2
   cases e1
 | false =>
   rw [(D1.1 rfl).2]
   simp only
   cases bs1 with
   | nil =>
     refine ⟨fun _ => rfl, fun e => ?_⟩
     obtain ⟨e3, _⟩ := D4.1 e
     obtain ⟨e2, _⟩ := D3.1 e3
     obtain ⟨_, e1⟩ := D2.1 e2
     cases e1
   | cons q t =>
     obtain rfl : d2 = false := D2.2 rfl ⟨_, rfl⟩
     obtain ⟨_, hq⟩ := D2.1 rfl
     injection hq with hq
     injection hq with h1 h2
     subst h1 h2
     simp only
     cases d3 with
     | true =>
       have h1 : rdNum t = none := by
        cases hh : rdNum t with
        | none => rfl
        | some p => have := D3.2 rfl ⟨p, hh⟩; cases this
       rw [h1]
       refine ⟨fun _ => rfl, fun e => ?_⟩
       obtain ⟨e3, _⟩ := D4.1 e
       cases e3
     | false =>
       rw [(D3.1 rfl).2]
       simp only
       cases d4 with
       | true =>
         have h1 : rdNum bs3 = none := by
          cases hh : rdNum bs3 with
          | none => rfl
          | some p => have := D4.2 rfl ⟨p, hh⟩; cases this
         rw [h1]
         exact ⟨fun _ => rfl, fun e => by cases e⟩
       | false =>
         rw [(D4.1 rfl).2]
         exact ⟨fun e => (by cases e), fun _ => rfl⟩
theorem rdObj_hd {bs bs4 : List Nat} {x : Hd} (h : rdHd bs = some (x, bs4)) : rdObj bs = rdFs x bs4 := by unfold rdObj; rw [h]
theorem rdObj_no {bs : List Nat} (h : rdHd bs = none) : rdObj bs = none := by unfold rdObj; rw [h]
theorem u8_low4 (x : Nat) (hx : x < 256) : bits .and .u8 (x : Int) 15 = ((x % 16 : Nat) : Int) := by
 have h := u8_and_nat x 15 hx (by omega)
 rw [show x &&& 15 = x % 16 from Nat.and_two_pow_sub_one_eq_mod x 4] at h
 exact h
set_option maxRecDepth 100000 in
set_option maxHeartbeats 8000000 in
theorem objectR_any {w : World} {L rg c : Nat} {A : Option Addr} {bs : List Nat} (R : RdAt w L rg A c bs false) (hn : bs.length ≤ 9000000) (hs : Spares w) (hsp : 0 < L) :
 Calls Tryz.prog 69 #[.pointer (some ⟨rg, 0, none⟩)] w (ObjP L rg bs w) := by
 have HR := Lib.hid R
 have hrg := R.box.lt
 have hLr := R.far
 clear R
 go_enter Tryz.func69, Tryz.ntmps69
 go_wp2_with fail
 have b2 := Blk.new w 132 #[.int .i64 0, .int .i64 0, .int .i64 0, .int .u32 0, .int .u32 0, .int .u32 0, .slice none 0 0, .int .i64 0]
 have hb0 := (Below.refl w.heap.size w).alloc (Nat.le_refl _) (.cells #[.int .i64 0, .int .i64 0, .int .i64 0, .int .u32 0, .int .u32 0, .int .u32 0, .slice none 0 0, .int .i64 0] 132)
 have HN1 := Lib.hid (rnumberI_any (HR.out.below hb0) hn)
 have hsz0 : (w.alloc (.cells #[.int .i64 0, .int .i64 0, .int .i64 0, .int .u32 0, .int .u32 0, .int .u32 0, .slice none 0 0, .int .i64 0] 132)).heap.size = w.heap.size + 1 := by simp
 have HB0 := Lib.hid hb0
 have HB2 := Lib.hid b2
 clear hb0 b2 HR
 generalize w.alloc (.cells #[.int .i64 0, .int .i64 0, .int .i64 0, .int .u32 0, .int .u32 0, .int .u32 0, .slice none 0 0, .int .i64 0] 132) = W0 at *
 refine HN1.out.mono ?_
 rintro e w1 ⟨c1, A1, k1, bs1, d1, rfl, hc1, R1, F1, D1, e1, he1⟩
 have HD1 := Lib.hid D1
 have hl1 : bs1.length ≤ 9000000 := by rw [he1, List.length_append] at hn; omega
 have hsz1 : w.heap.size + 1 ≤ w1.heap.size := by rw [← hsz0]; exact F1.size
 have S1 : OrS L rg w (w1.alloc (.cells (wrC ⟨0, 0, 0, c1, 0⟩ (.slice none 0 0) 0) 132)) w.heap.size w1.heap.size (wrC ⟨0, 0, 0, c1, 0⟩ (.slice none 0 0) 0) A1 k1 bs1 d1 :=
  ⟨R1.below ((Below.refl _ _).alloc (Nat.le_refl _) _), (Fr1.of_below HB0.out |>.trans F1).trans (Fr1.of_below ((Below.refl _ _).alloc (Nat.le_refl _) _)), ((HB2.out.fr1 F1 (by omega)).alloc _), Blk.new w1 _ _, Nat.le_refl _, by omega, by omega, hrg⟩
 have HS := Lib.hid S1
 clear S1 R1 F1 D1 HN1 HB0 HB2 he1 e1
 unfold wrC at HS
 go_upto_region 2 with fail
 generalize w1.alloc (.cells #[.int .i64 ((0 : Nat) : Int), .int .i64 ((0 : Nat) : Int), .int .i64 ((0 : Nat) : Int), .int .u32 0, .int .u32 ((0 : Nat) : Int), .int .u32 (c1 : Nat), .slice none 0 0, .int .i64 ((0 : Nat) : Int)] 132) = W1 at *
 generalize w1.heap.size = b3 at *
 have HBY := Lib.hid (rbyteI_any HS.out.rd hl1)
 go_wp2_with fail
 refine HBY.out.mono ?_
 rintro e w2 ⟨k, A2, k2, bs2, d2, rfl, hk8, R2, F2, D2, e2, he2⟩
 have HD2 := Lib.hid D2
 have HS2 := Lib.hid (HS.out.read R2 F2)
 have hl2 : bs2.length ≤ 9000000 := by rw [he2, List.length_append] at hl1; omega
 clear HBY R2 F2 D2 HS he2 e2
 have hlow := u8_low4 k hk8
 have q1 := HS2.out.box.cell 1
 have q2 := HS2.out.box.cell 2
 have y1 := HS2.out.box.frozen 1
 have y2 := HS2.out.box.frozen 2
 have HS3 := Lib.hid ((HS2.out.set 1 (.int .i64 ((k % 16 : Nat) : Int))).set 2 (.int .i64 ((k / 16 : Nat) : Int)))
 clear HS2
 go_upto_region 4 with fail
 have ek1 : ((k % 16 : Nat) : Int) = (k : Int) % 16 := by omega
 have ek2 : ((k / 16 : Nat) : Int) = (k : Int) / 16 := by omega
 have HS4 := Lib.hid (show OrS L rg w ((w2.setCell ⟨b3, 1, none⟩ (.int .i64 ((k : Int) % 16))).setCell ⟨b3, 2, none⟩ (.int .i64 ((k : Int) / 16))) w.heap.size b3 (wrC ⟨0, k % 16, k / 16, c1, 0⟩ (.slice none 0 0) 0) A2 k2 bs2 d2 from by
  have h := HS3.out
  rw [ek1, ek2] at h
  unfold wrC
  rw [show ((⟨0, k % 16, k / 16, c1, 0⟩ : Hd).fmt : Int) = (k : Int) % 16 from ek1, show ((⟨0, k % 16, k / 16, c1, 0⟩ : Hd).spare : Int) = (k : Int) / 16 from ek2]
  exact h)
 generalize (w2.setCell ⟨b3, 1, none⟩ (.int .i64 ((k : Int) % 16))).setCell ⟨b3, 2, none⟩ (.int .i64 ((k : Int) / 16)) = W3 at *
 have hfm : k % 16 < 16 := Nat.mod_lt _ (by omega)
 have hsp' : k / 16 < 16 := by omega
 clear HS3 q1 q2 y1 y2 hlow
 have HN3 := Lib.hid (rnumberI_any HS4.out.rd hl2)
 go_wp2_with fail
 refine HN3.out.mono ?_
 rintro e w3 ⟨n, A3, k3, bs3, d3, rfl, hn3, R3, F3, D3, e3, he3⟩
 have HD3 := Lib.hid D3
 have HS5 := Lib.hid (HS4.out.read R3 F3)
 have hl3 : bs3.length ≤ 9000000 := by rw [he3, List.length_append] at hl2; omega
 clear HN3 R3 F3 D3 HS4 he3 e3
 have HN4 := Lib.hid (rnumberI_any HS5.out.rd hl3)
 go_wp2_with fail
 refine HN4.out.mono ?_
 rintro e w4 ⟨s, A4, k4, bs4, d4, rfl, hs4, R4, F4, D4, e4, he4⟩
 have HD4 := Lib.hid (hd_of HD1.out HD2.out HD3.out D4)
 have HS6 := Lib.hid (HS5.out.read R4 F4)
 have hl4 : bs4.length ≤ 9000000 := by rw [he4, List.length_append] at hl3; omega
 clear HN4 R4 F4 D4 HS5 he4 e4 HD1 HD2 HD3
 have q4 := HS6.out.box.cell 4
 have y4 := HS6.out.box.frozen 4
 unfold wrC at q4
 have HS7 := Lib.hid (show OrS L rg w (w4.setCell ⟨b3, 4, none⟩ (.int .u32 (s : Nat))) w.heap.size b3 (wrC ⟨0, k % 16, k / 16, c1, s⟩ (.slice none 0 0) 0) A4 k4 bs4 d4 from HS6.out.set 4 (.int .u32 (s : Nat)))
 clear HS6
 go_upto_region 6 with fail
 generalize w4.setCell ⟨b3, 4, none⟩ (.int .u32 (s : Int)) = W5 at *
 clear q4 y4
 generalize hfmg : k % 16 = fm at *
 generalize hspg : k / 16 = sp at *
 clear hfmg hspg ek1 ek2
 by_cases hbig : 65535 < n
 ·have hbi : (65535 : Int) < (n : Int) := by omega
  have hdb : decide ((65535 : Int) < (n : Int)) = true := by simp; omega
  have HNO := Lib.hid (show rdObj bs = none from rdObj_no (by
   cases d4 with
   | true => exact HD4.out.1 rfl
   | false => rw [HD4.out.2 rfl, okB_size hbig]; rfl))
  have y1 := HS7.out.rd.box.frozen 1
  have q1 := HS7.out.rd.box.cell 1
  have HS8 := Lib.hid (HS7.out.bad_)
  clear HS7
  go_upto_region 8 with fail
  generalize W5.setCell ⟨rg, 1, none⟩ (.bool true) = W6 at *
  clear y1 q1
  have y1 := HS8.out.box.frozen 0
  have q1 := HS8.out.box.cell 0
  unfold wrC at q1
  have HS9 := Lib.hid (show OrS L rg w (W6.setCell ⟨b3, 0, none⟩ (.int .i64 (n : Nat))) w.heap.size b3 (wrC ⟨n, fm, sp, c1, s⟩ (.slice none 0 0) 0) A4 k4 bs4 true from HS8.out.set 0 (.int .i64 (n : Nat)))
  clear HS8
  go_upto_region 9 with fail
  generalize W6.setCell ⟨b3, 0, none⟩ (.int .i64 (n : Int)) = W7 at *
  clear y1 q1
  have q0 := HS9.out.box.cell 0
  have q1 := HS9.out.box.cell 1
  have q2 := HS9.out.box.cell 2
  have q3 := HS9.out.box.cell 3
  have q4 := HS9.out.box.cell 4
  unfold wrC at q0 q1 q2 q3 q4
  have HPK := Lib.hid (PackNo_any ⟨n, fm, sp, 0, s⟩ hn3 hfm hsp' (show (0 : Nat) < 4294967296 by omega) hs4 (okB_size hbig) W7 (HS9.out.spares hs hsp))
  go_wp2_with fail
  refine HPK.out.mono ?_
  rintro e w8 ⟨rfl, hb8⟩
  have HS10 := Lib.hid ((HS9.out.below hb8).below ((Below.refl _ _).alloc (Nat.le_refl _) (.cells #[.int .u32 0, .int .u32 0, .int .u32 0] 107)))
  clear HPK HS9 hb8 q0 q1 q2 q3 q4
  go_upto_region 10 with fail
  generalize w8.alloc (.cells #[.int .u32 0, .int .u32 0, .int .u32 0] 107) = W8 at *
  have y1 := HS10.out.rd.box.frozen 1
  have q1 := HS10.out.rd.box.cell 1
  have HS11 := Lib.hid (HS10.out.bad_)
  clear HS10
  go_upto_region 12 with fail
  generalize W8.setCell ⟨rg, 1, none⟩ (.bool true) = W9 at *
  clear y1 q1
  have q0 := HS11.out.box.cell 0
  have q1 := HS11.out.box.cell 1
  have q2 := HS11.out.box.cell 2
  have q3 := HS11.out.box.cell 3
  have q4 := HS11.out.box.cell 4
  have q5 := HS11.out.box.cell 5
  have q6 := HS11.out.box.cell 6
  have q7 := HS11.out.box.cell 7
  unfold wrC at q0 q1 q2 q3 q4 q5 q6 q7
  have z0 := HS11.out.res.frozen 0
  have z1 := HS11.out.res.frozen 1
  have z2 := HS11.out.res.frozen 2
  have z3 := HS11.out.res.frozen 3
  have z4 := HS11.out.res.frozen 4
  have z5 := HS11.out.res.frozen 5
  have z6 := HS11.out.res.frozen 6
  have z7 := HS11.out.res.frozen 7
  have d0 := HS11.out.res.cell 0
  have d1 := HS11.out.res.cell 1
  have d2 := HS11.out.res.cell 2
  have d3 := HS11.out.res.cell 3
  have d4 := HS11.out.res.cell 4
  have d5 := HS11.out.res.cell 5
  have d6 := HS11.out.res.cell 6
  have d7 := HS11.out.res.cell 7
  have r1 := HS11.out.rd.box.cell 1
  obtain ⟨BF, RF, FF⟩ := HS11.out.fin (.int .i64 n) (.int .i64 fm) (.int .i64 sp) (.int .u32 0) (.int .u32 s) (.int .u32 c1) (.slice none 0 0) (.int .i64 0)
  have HBF := Lib.hid BF
  have HRF := Lib.hid RF
  have HFF := Lib.hid FF
  clear BF RF FF
  go_wp2_with fail
  generalize ((((((((W9.setCell ⟨w.heap.size, 0, none⟩ (.int .i64 (n : Int))).setCell ⟨w.heap.size, 1, none⟩ (.int .i64 (fm : Int))).setCell ⟨w.heap.size, 2, none⟩ (.int .i64 (sp : Int))).setCell ⟨w.heap.size, 3, none⟩ (.int .u32 0)).setCell ⟨w.heap.size, 4, none⟩ (.int .u32 (s : Int))).setCell ⟨w.heap.size, 5, none⟩ (.int .u32 (c1 : Int))).setCell ⟨w.heap.size, 6, none⟩ (.slice none 0 0)).setCell ⟨w.heap.size, 7, none⟩ (.int .i64 0)) = WF at *
  clear q0 z0 d0 q1 z1 d1 q2 z2 d2 q3 z3 d3 q4 z4 d4 q5 z5 d5 q6 z6 d6 q7 z7 d7
  have f0 := HBF.out.cell 0
  have f1 := HBF.out.cell 1
  have f2 := HBF.out.cell 2
  have f3 := HBF.out.cell 3
  have f4 := HBF.out.cell 4
  have f5 := HBF.out.cell 5
  have f6 := HBF.out.cell 6
  have f7 := HBF.out.cell 7
  refine bodyPost_ret (v := wrV ⟨n, fm, sp, c1, s⟩ (.slice none 0 0) 0) (by simp [results, Tryz.results69, go_sem, wrV, wrC, f0, f1, f2, f3, f4, f5, f6, f7]) rfl ?_
  exact ⟨_, _, _, _, true, rfl, ⟨_, _, _, _, rfl⟩, HRF.out, HFF.out, fun _ => HNO.out, fun h => by cases h⟩
 ·have hbi : ¬ (65535 : Int) < (n : Int) := by omega
  have hdb : decide ((65535 : Int) < (n : Int)) = false := by simp; omega
  go_upto_region 8 with fail
  have y1 := HS7.out.box.frozen 0
  have q1 := HS7.out.box.cell 0
  unfold wrC at q1
  have HS9 := Lib.hid (show OrS L rg w (W5.setCell ⟨b3, 0, none⟩ (.int .i64 (n : Nat))) w.heap.size b3 (wrC ⟨n, fm, sp, c1, s⟩ (.slice none 0 0) 0) A4 k4 bs4 d4 from HS7.out.set 0 (.int .i64 (n : Nat)))
  clear HS7
  go_upto_region 9 with fail
  generalize W5.setCell ⟨b3, 0, none⟩ (.int .i64 (n : Int)) = W7 at *
  clear y1 q1
  by_cases hok : okB ⟨n, fm, sp, c1, s⟩ = true
  ·skip
   obtain ⟨hfit, hmay⟩ := okB_fit hok hc1 hs4
   have HMAY := Lib.hid hmay
   have hfit0 : (⟨n, fm, sp, 0, s⟩ : Hd).Fit := ⟨hfit.size, hfit.fmt, hfit.spare, show (0 : Nat) < 4294967296 by omega, hs4⟩
   have hmay0 : (⟨n, fm, sp, 0, s⟩ : Hd).may = true := hmay
   have HPK := Lib.hid (Pack_any ⟨n, fm, sp, 0, s⟩ hfit0 hmay0 W7 (HS9.out.spares hs hsp))
   clear hmay hmay0
   have q0 := HS9.out.box.cell 0
   have q1 := HS9.out.box.cell 1
   have q2 := HS9.out.box.cell 2
   have q3 := HS9.out.box.cell 3
   have q4 := HS9.out.box.cell 4
   unfold wrC at q0 q1 q2 q3 q4
   go_wp2_with fail
   refine HPK.out.mono ?_
   rintro e w8 ⟨rfl, hb8⟩
   rw [show (⟨n, fm, sp, 0, s⟩ : Hd).packed = .agg #[.int .u32 (⟨n, fm, sp, 0, s⟩ : Hd).w0, .int .u32 ((0 : Nat) : Int), .int .u32 (s : Nat)] from rfl]
   generalize (⟨n, fm, sp, 0, s⟩ : Hd).w0 = w0v at *
   have HS10 := Lib.hid ((HS9.out.below hb8).below ((Below.refl _ _).alloc (Nat.le_refl _) (.cells #[.int .u32 (w0v : Nat), .int .u32 0, .int .u32 (s : Nat)] 107)))
   clear HPK HS9 hb8 q0 q1 q2 q3 q4
   go_upto_region 10 with fail
   generalize w8.alloc (.cells #[.int .u32 (w0v : Int), .int .u32 0, .int .u32 (s : Int)] 107) = W8 at *
   have r1 := HS10.out.rd.box.cell 1
   cases d4 with
   | true =>
     have HNO := Lib.hid (show rdObj bs = none from rdObj_no (HD4.out.1 rfl))
     clear HD4 r1
     have q0 := HS10.out.box.cell 0
     have q1 := HS10.out.box.cell 1
     have q2 := HS10.out.box.cell 2
     have q3 := HS10.out.box.cell 3
     have q4 := HS10.out.box.cell 4
     have q5 := HS10.out.box.cell 5
     have q6 := HS10.out.box.cell 6
     have q7 := HS10.out.box.cell 7
     unfold wrC at q0 q1 q2 q3 q4 q5 q6 q7
     have z0 := HS10.out.res.frozen 0
     have z1 := HS10.out.res.frozen 1
     have z2 := HS10.out.res.frozen 2
     have z3 := HS10.out.res.frozen 3
     have z4 := HS10.out.res.frozen 4
     have z5 := HS10.out.res.frozen 5
     have z6 := HS10.out.res.frozen 6
     have z7 := HS10.out.res.frozen 7
     have d0 := HS10.out.res.cell 0
     have d1 := HS10.out.res.cell 1
     have d2 := HS10.out.res.cell 2
     have d3 := HS10.out.res.cell 3
     have d4 := HS10.out.res.cell 4
     have d5 := HS10.out.res.cell 5
     have d6 := HS10.out.res.cell 6
     have d7 := HS10.out.res.cell 7
     have r1 := HS10.out.rd.box.cell 1
     obtain ⟨BF, RF, FF⟩ := HS10.out.fin (.int .i64 n) (.int .i64 fm) (.int .i64 sp) (.int .u32 0) (.int .u32 s) (.int .u32 c1) (.slice none 0 0) (.int .i64 0)
     have HBF := Lib.hid BF
     have HRF := Lib.hid RF
     have HFF := Lib.hid FF
     clear BF RF FF
     go_wp2_with fail
     generalize ((((((((W8.setCell ⟨w.heap.size, 0, none⟩ (.int .i64 (n : Int))).setCell ⟨w.heap.size, 1, none⟩ (.int .i64 (fm : Int))).setCell ⟨w.heap.size, 2, none⟩ (.int .i64 (sp : Int))).setCell ⟨w.heap.size, 3, none⟩ (.int .u32 0)).setCell ⟨w.heap.size, 4, none⟩ (.int .u32 (s : Int))).setCell ⟨w.heap.size, 5, none⟩ (.int .u32 (c1 : Int))).setCell ⟨w.heap.size, 6, none⟩ (.slice none 0 0)).setCell ⟨w.heap.size, 7, none⟩ (.int .i64 0)) = WF at *
     clear q0 z0 d0 q1 z1 d1 q2 z2 d2 q3 z3 d3 q4 z4 d4 q5 z5 d5 q6 z6 d6 q7 z7 d7
     have f0 := HBF.out.cell 0
     have f1 := HBF.out.cell 1
     have f2 := HBF.out.cell 2
     have f3 := HBF.out.cell 3
     have f4 := HBF.out.cell 4
     have f5 := HBF.out.cell 5
     have f6 := HBF.out.cell 6
     have f7 := HBF.out.cell 7
     refine bodyPost_ret (v := wrV ⟨n, fm, sp, c1, s⟩ (.slice none 0 0) 0) (by simp [results, Tryz.results69, go_sem, wrV, wrC, f0, f1, f2, f3, f4, f5, f6, f7]) rfl ?_
     exact ⟨_, _, _, _, true, rfl, ⟨_, _, _, _, rfl⟩, HRF.out, HFF.out, fun _ => HNO.out, fun h => by cases h⟩
   | false =>
     have HRD := Lib.hid (show rdObj bs = rdFs ⟨n, fm, sp, c1, s⟩ bs4 from rdObj_hd (by rw [HD4.out.2 rfl, if_pos hok]))
     clear HD4
     go_upto_region 14 with fail
     clear r1
     have q0 := HS10.out.box.cell 0
     have q1 := HS10.out.box.cell 1
     have q2 := HS10.out.box.cell 2
     have q3 := HS10.out.box.cell 3
     have q4 := HS10.out.box.cell 4
     have q5 := HS10.out.box.cell 5
     have q6 := HS10.out.box.cell 6
     have q7 := HS10.out.box.cell 7
     unfold wrC at q0 q1 q2 q3 q4 q5 q6 q7
     by_cases h2 : fm = 2
     ·have hd2 : ((fm : Int) == 2) = true := by simp; omega
      have hsp4 : sp < 4 := hfit.spare
      have hnl : n < 16777216 := hfit.size
      have hm0 : sp ≤ 4 * n := by have := HMAY.out; unfold Hd.may at this; simp at this; omega
      have hn65 : n ≤ 65535 := by have := HMAY.out; unfold Hd.may at this; simp at this; omega
      have HFM := Lib.hid h2
      have HBY := Lib.hid (rbytesI_any HS10.out.rd hl4 (4 * n - sp) (by omega))
      clear h2
      go_wp2_with fail
      rw [show (4 * (n : Int) - (sp : Int)) = ((4 * n - sp : Nat) : Int) by omega]
      refine HBY.out.mono ?_
      rintro e w9 ⟨F9, (⟨hle, rfl, R9⟩ | ⟨hlt, rfl, R9⟩)⟩
      ·have HS12 := Lib.hid (HS10.out.read R9 F9)
       have hb39 : b3 < w9.heap.size := HS12.out.box.lt
       have hb29 : w.heap.size < w9.heap.size := HS12.out.res.lt
       have hLw : L ≤ w9.heap.size := by have := HS12.out.rd.box.lt; have := HS12.out.rd.far; omega
       have HPB := Lib.hid (packBytes_any (w := w9) (tailA A4 k4 0) (4 * n - sp) k4 L (bs4.take (4 * n - sp)) (by omega) ((reads_head (k := 4 * n - sp) (c := k4) HS10.out.rd.rd (by omega)).below (F9.below HS10.out.rd.far (by have := HS10.out.rd.box.lt; have := HS10.out.rd.far; omega))) hLw (fun x hx => HS10.out.rd.b8 x (List.mem_of_mem_take hx)))
       have HRF1 := Lib.hid (show rdObj bs = some (⟨⟨n, fm, sp, c1, s⟩, packM (bs4.take (4 * n - sp))⟩, bs4.drop (4 * n - sp)) from by
        rw [HRD.out]; unfold rdFs; rw [if_pos HFM.out, if_pos hle])
       unfold PackedB at HPB
       generalize packM (bs4.take (4 * n - sp)) = fs at *
       clear R9 F9 HS10 HBY q0 q1 q2 q3 q4 q5 q6 q7
       go_wp2_with fail
       refine HPB.out.mono ?_
       rintro e w10 ⟨g, rfl, hrow, hg, hb10⟩
       have HS13 := Lib.hid (HS12.out.below hb10)
       have HRW := Lib.hid (show Reads w10 w10.heap.size 1 (some ⟨g, 0, none⟩) fs.length (u32s fs) from by
        have h := hrow.reads hrow.lt
        rw [u32s_len] at h
        exact h)
       have hg3 : g ≠ b3 := by omega
       have hg2 : g ≠ w.heap.size := by omega
       have hgw : w.heap.size ≤ g := by omega
       clear HPB HS12 hrow hg hb10
       have q6 := HS13.out.box.cell 6
       have y6 := HS13.out.box.frozen 6
       unfold wrC at q6
       have HS14 := Lib.hid (show OrS L rg w (w10.setCell ⟨b3, 6, none⟩ (.slice (some ⟨g, 0, none⟩) fs.length fs.length)) w.heap.size b3 (wrC ⟨n, fm, sp, c1, s⟩ (.slice (some ⟨g, 0, none⟩) fs.length fs.length) 0) (tailA A4 k4 (4 * n - sp)) (k4 - (4 * n - sp)) (bs4.drop (4 * n - sp)) false from HS13.out.set 6 (.slice (some ⟨g, 0, none⟩) fs.length fs.length))
       have HRX := Lib.hid (reads1 (g := b3) (i := 6) (v := .slice (some ⟨g, 0, none⟩) fs.length fs.length) HRW.out (fun _ a ha => by injection ha with ha; rw [← ha]; exact hg3))
       clear HS13 HRW
       go_upto_region 17 with fail
       generalize w10.setCell ⟨b3, 6, none⟩ (.slice (some ⟨g, 0, none⟩) fs.length fs.length) = W11 at *
       clear q6 y6
       have HR8 := Lib.hid (reads8 (g := w.heap.size) HRX.out (fun _ a ha => by injection ha with ha; rw [← ha]; exact hg2) (.int .i64 n) (.int .i64 fm) (.int .i64 sp) (.int .u32 0) (.int .u32 s) (.int .u32 c1) (.slice (some ⟨g, 0, none⟩) fs.length fs.length) (.int .i64 0))
       clear HRX
       have q0 := HS14.out.box.cell 0
       have q1 := HS14.out.box.cell 1
       have q2 := HS14.out.box.cell 2
       have q3 := HS14.out.box.cell 3
       have q4 := HS14.out.box.cell 4
       have q5 := HS14.out.box.cell 5
       have q6 := HS14.out.box.cell 6
       have q7 := HS14.out.box.cell 7
       unfold wrC at q0 q1 q2 q3 q4 q5 q6 q7
       have z0 := HS14.out.res.frozen 0
       have z1 := HS14.out.res.frozen 1
       have z2 := HS14.out.res.frozen 2
       have z3 := HS14.out.res.frozen 3
       have z4 := HS14.out.res.frozen 4
       have z5 := HS14.out.res.frozen 5
       have z6 := HS14.out.res.frozen 6
       have z7 := HS14.out.res.frozen 7
       have d0 := HS14.out.res.cell 0
       have d1 := HS14.out.res.cell 1
       have d2 := HS14.out.res.cell 2
       have d3 := HS14.out.res.cell 3
       have d4 := HS14.out.res.cell 4
       have d5 := HS14.out.res.cell 5
       have d6 := HS14.out.res.cell 6
       have d7 := HS14.out.res.cell 7
       have r1 := HS14.out.rd.box.cell 1
       obtain ⟨BF, RF, FF⟩ := HS14.out.fin (.int .i64 n) (.int .i64 fm) (.int .i64 sp) (.int .u32 0) (.int .u32 s) (.int .u32 c1) (.slice (some ⟨g, 0, none⟩) fs.length fs.length) (.int .i64 0)
       have HBF := Lib.hid BF
       have HRF := Lib.hid RF
       have HFF := Lib.hid FF
       clear BF RF FF
       go_wp2_with fail
       generalize ((((((((W11.setCell ⟨w.heap.size, 0, none⟩ (.int .i64 (n : Int))).setCell ⟨w.heap.size, 1, none⟩ (.int .i64 (fm : Int))).setCell ⟨w.heap.size, 2, none⟩ (.int .i64 (sp : Int))).setCell ⟨w.heap.size, 3, none⟩ (.int .u32 0)).setCell ⟨w.heap.size, 4, none⟩ (.int .u32 (s : Int))).setCell ⟨w.heap.size, 5, none⟩ (.int .u32 (c1 : Int))).setCell ⟨w.heap.size, 6, none⟩ (.slice (some ⟨g, 0, none⟩) fs.length fs.length)).setCell ⟨w.heap.size, 7, none⟩ (.int .i64 0)) = WF at *
       clear q0 z0 d0 q1 z1 d1 q2 z2 d2 q3 z3 d3 q4 z4 d4 q5 z5 d5 q6 z6 d6 q7 z7 d7
       have f0 := HBF.out.cell 0
       have f1 := HBF.out.cell 1
       have f2 := HBF.out.cell 2
       have f3 := HBF.out.cell 3
       have f4 := HBF.out.cell 4
       have f5 := HBF.out.cell 5
       have f6 := HBF.out.cell 6
       have f7 := HBF.out.cell 7
       refine bodyPost_ret (v := wrV ⟨n, fm, sp, c1, s⟩ (.slice (some ⟨g, 0, none⟩) fs.length fs.length) 0) (by simp [results, Tryz.results69, go_sem, wrV, wrC, f0, f1, f2, f3, f4, f5, f6, f7]) rfl ?_
       exact ⟨_, _, _, _, false, rfl, ⟨_, _, _, _, rfl⟩, HRF.out, HFF.out, fun h => (by cases h), fun _ => ⟨_, HRF1.out, some ⟨g, 0, none⟩, fs.length, rfl, HR8.out, fun a ha => by injection ha with ha; rw [← ha]; exact hgw⟩⟩
      ·have HS12 := Lib.hid (HS10.out.read R9 F9)
       have hb39 : b3 < w9.heap.size := HS12.out.box.lt
       have hb29 : w.heap.size < w9.heap.size := HS12.out.res.lt
       have hLw : L ≤ w9.heap.size := by have := HS12.out.rd.box.lt; have := HS12.out.rd.far; omega
       have HPB := Lib.hid (packBytes_any (w := w9) none 0 0 L [] (by omega) Reads.none_ hLw (fun x hx => by cases hx))
       have HNO := Lib.hid (show rdObj bs = none from by
        rw [HRD.out]; unfold rdFs; rw [if_pos HFM.out, if_neg (by show ¬ 4 * n - sp ≤ bs4.length; omega)])
       unfold PackedB at HPB
       generalize packM [] = fs at *
       clear R9 F9 HS10 HBY q0 q1 q2 q3 q4 q5 q6 q7
       go_wp2_with fail
       refine HPB.out.mono ?_
       rintro e w10 ⟨g, rfl, hrow, hg, hb10⟩
       have HS13 := Lib.hid (HS12.out.below hb10)
       have HRW := Lib.hid (show Reads w10 w10.heap.size 1 (some ⟨g, 0, none⟩) fs.length (u32s fs) from by
        have h := hrow.reads hrow.lt
        rw [u32s_len] at h
        exact h)
       have hg3 : g ≠ b3 := by omega
       have hg2 : g ≠ w.heap.size := by omega
       have hgw : w.heap.size ≤ g := by omega
       clear HPB HS12 hrow hg hb10
       have q6 := HS13.out.box.cell 6
       have y6 := HS13.out.box.frozen 6
       unfold wrC at q6
       have HS14 := Lib.hid (show OrS L rg w (w10.setCell ⟨b3, 6, none⟩ (.slice (some ⟨g, 0, none⟩) fs.length fs.length)) w.heap.size b3 (wrC ⟨n, fm, sp, c1, s⟩ (.slice (some ⟨g, 0, none⟩) fs.length fs.length) 0) A4 k4 bs4 true from HS13.out.set 6 (.slice (some ⟨g, 0, none⟩) fs.length fs.length))
       have HRX := Lib.hid (reads1 (g := b3) (i := 6) (v := .slice (some ⟨g, 0, none⟩) fs.length fs.length) HRW.out (fun _ a ha => by injection ha with ha; rw [← ha]; exact hg3))
       clear HS13 HRW
       go_upto_region 17 with fail
       generalize w10.setCell ⟨b3, 6, none⟩ (.slice (some ⟨g, 0, none⟩) fs.length fs.length) = W11 at *
       clear q6 y6
       clear HRX
       have q0 := HS14.out.box.cell 0
       have q1 := HS14.out.box.cell 1
       have q2 := HS14.out.box.cell 2
       have q3 := HS14.out.box.cell 3
       have q4 := HS14.out.box.cell 4
       have q5 := HS14.out.box.cell 5
       have q6 := HS14.out.box.cell 6
       have q7 := HS14.out.box.cell 7
       unfold wrC at q0 q1 q2 q3 q4 q5 q6 q7
       have z0 := HS14.out.res.frozen 0
       have z1 := HS14.out.res.frozen 1
       have z2 := HS14.out.res.frozen 2
       have z3 := HS14.out.res.frozen 3
       have z4 := HS14.out.res.frozen 4
       have z5 := HS14.out.res.frozen 5
       have z6 := HS14.out.res.frozen 6
       have z7 := HS14.out.res.frozen 7
       have d0 := HS14.out.res.cell 0
       have d1 := HS14.out.res.cell 1
       have d2 := HS14.out.res.cell 2
       have d3 := HS14.out.res.cell 3
       have d4 := HS14.out.res.cell 4
       have d5 := HS14.out.res.cell 5
       have d6 := HS14.out.res.cell 6
       have d7 := HS14.out.res.cell 7
       have r1 := HS14.out.rd.box.cell 1
       obtain ⟨BF, RF, FF⟩ := HS14.out.fin (.int .i64 n) (.int .i64 fm) (.int .i64 sp) (.int .u32 0) (.int .u32 s) (.int .u32 c1) (.slice (some ⟨g, 0, none⟩) fs.length fs.length) (.int .i64 0)
       have HBF := Lib.hid BF
       have HRF := Lib.hid RF
       have HFF := Lib.hid FF
       clear BF RF FF
       go_wp2_with fail
       generalize ((((((((W11.setCell ⟨w.heap.size, 0, none⟩ (.int .i64 (n : Int))).setCell ⟨w.heap.size, 1, none⟩ (.int .i64 (fm : Int))).setCell ⟨w.heap.size, 2, none⟩ (.int .i64 (sp : Int))).setCell ⟨w.heap.size, 3, none⟩ (.int .u32 0)).setCell ⟨w.heap.size, 4, none⟩ (.int .u32 (s : Int))).setCell ⟨w.heap.size, 5, none⟩ (.int .u32 (c1 : Int))).setCell ⟨w.heap.size, 6, none⟩ (.slice (some ⟨g, 0, none⟩) fs.length fs.length)).setCell ⟨w.heap.size, 7, none⟩ (.int .i64 0)) = WF at *
       clear q0 z0 d0 q1 z1 d1 q2 z2 d2 q3 z3 d3 q4 z4 d4 q5 z5 d5 q6 z6 d6 q7 z7 d7
       have f0 := HBF.out.cell 0
       have f1 := HBF.out.cell 1
       have f2 := HBF.out.cell 2
       have f3 := HBF.out.cell 3
       have f4 := HBF.out.cell 4
       have f5 := HBF.out.cell 5
       have f6 := HBF.out.cell 6
       have f7 := HBF.out.cell 7
       refine bodyPost_ret (v := wrV ⟨n, fm, sp, c1, s⟩ (.slice (some ⟨g, 0, none⟩) fs.length fs.length) 0) (by simp [results, Tryz.results69, go_sem, wrV, wrC, f0, f1, f2, f3, f4, f5, f6, f7]) rfl ?_
       exact ⟨_, _, _, _, true, rfl, ⟨_, _, _, _, rfl⟩, HRF.out, HFF.out, fun _ => HNO.out, fun h => by cases h⟩
     ·have hd2 : ((fm : Int) == 2) = false := by simp; omega
      have HFM := Lib.hid h2
      have hn65 : n ≤ 65535 := by have := HMAY.out; unfold Hd.may at this; simp at this; omega
      have hb38 : b3 < W8.heap.size := HS10.out.box.lt
      have hb28 : w.heap.size < W8.heap.size := HS10.out.res.lt
      clear h2
      go_wp2_with fail
      clear q0 q1 q2 q3 q4 q5 q6 q7
      obtain ⟨i0, hi0, hz0, hz1, hz2⟩ := info_parts info_u32
      go_loopw [80] (fun i wr => ∃ (k' : Nat) (fs : List Nat) (vf : Value) (A' : Option Addr) (c' : Nat) (bs' : List Nat), i = .int .i64 k' ∧ k' ≤ n ∧ OrS L rg w wr w.heap.size b3 (wrC ⟨n, fm, sp, c1, s⟩ vf 0) A' c' bs' false ∧ wr.ownsRow W8.heap.size 32 1 vf k' (u32s fs) ∧ rdK k' bs4 = some (fs, bs') ∧ W8.heap.size ≤ wr.heap.size) (fun i _ => n - (intOf i).toNat)
      case atStart => exact ⟨0, [], .slice none 0 0, A4, k4, bs4, rfl, Nat.zero_le _, HS10.out, ⟨rfl, .inl ⟨rfl, rfl⟩⟩, rfl, Nat.le_refl _⟩
      case round =>
       clear HS10
       obtain ⟨k', fs, vf, A', c', bs', rfl, hk', S, O, K, hW8⟩ := hrel
       have HS := Lib.hid S
       have HO := Lib.hid O
       have HK := Lib.hid K
       have hfl := (rdK_len _ _ _ _ K).1
       have hbl : bs'.length ≤ 9000000 := by have := (rdK_len _ _ _ _ K).2.1; omega
       clear S O K
       by_cases hkn : k' < n
       ·have hd : decide ((k' : Int) < (n : Int)) = true := by simp; omega
        go_upto_region 20 with fail
        refine wp_region_U 7 (fun w' => w'.cell? ⟨b3, 6, none⟩ = some vf ∧ True) (by kernel_rfl) ?_
        have hbd : Below wr.heap.size wr wr.drew := ⟨rfl, rfl, rfl, Nat.le_refl _, fun _ _ => rfl⟩
        have HS5 := Lib.hid (HS.out.below hbd)
        have HO5 := Lib.hid (own_sameI HO.out (fun q hq => hbd.block q (HO.out.lt q hq).2))
        have hW5 : W8.heap.size ≤ wr.drew.heap.size := hW8
        clear hbd HS HO hW8
        generalize wr.drew = wq at *
        have hS : wq.cell? ⟨b3, 6, none⟩ = some vf ∧ True := ⟨HS5.out.box.cell 6, trivial⟩
        refine U_read 0 (v := (.pointer (some ⟨b3, 6, none⟩))) rfl (by kernel_rfl) (fun _ _ _ h => h) hS (by rfl) (fun w' hw' => by obtain ⟨h0, h1⟩ := hw'; go_simp) ?_
        try simp only [Act.put, List.setIfInBounds_toArray, List.set_cons_zero, List.set_cons_succ]
        refine U_read 1 (v := vf) rfl (by kernel_rfl) (fun _ _ _ h => h) hS (by rfl) (fun w' hw' => by obtain ⟨h0, h1⟩ := hw'; go_simp) ?_
        try simp only [Act.put, List.setIfInBounds_toArray, List.set_cons_zero, List.set_cons_succ]
        refine U_read 2 (v := (.pointer (some ⟨rg, 0, none⟩))) rfl (by kernel_rfl) (fun _ _ _ h => h) hS (by rfl) (fun w' hw' => by obtain ⟨h0, h1⟩ := hw'; go_simp) ?_
        try simp only [Act.put, List.setIfInBounds_toArray, List.set_cons_zero, List.set_cons_succ]
        refine U_one 3 (by kernel_rfl) rfl rfl (fun K hK => ?_)
        go_simp
        refine (rnumberI_any HS5.out.rd hbl).mono ?_
        rintro e w6 ⟨n6, A6, c6, bs6, bad6, rfl, hn6, R6, F6, D6, -⟩
        have HS6 := Lib.hid (HS5.out.read R6 F6)
        have HO6 := Lib.hid (own_sameI HO5.out (fun q hq => F6.same q (HO5.out.lt q hq).2 (by have := (HO5.out.lt q hq).1; omega)))
        have hW6 : W8.heap.size ≤ w6.heap.size := Nat.le_trans hW5 F6.size
        have HD6 := Lib.hid D6
        clear R6 F6 D6 HS5 HO5 hW5
        have hS6 : w6.cell? ⟨b3, 6, none⟩ = some vf ∧ True := ⟨HS6.out.box.cell 6, trivial⟩
        refine hK _ _ (fun _ => hS6) ?_
        clear hK K
        try simp only [Act.put, List.setIfInBounds_toArray, List.set_cons_zero, List.set_cons_succ]
        refine U_one 4 (by kernel_rfl) rfl rfl (fun K hK => ?_)
        go_simp
        have HS7 := Lib.hid (HS6.out.below ((Below.refl _ _).alloc (Nat.le_refl _) (.cells #[.int .u32 (n6 : Nat)] 32)))
        have HO7 := Lib.hid (own_sameI (w' := w6.alloc (.cells #[.int .u32 (n6 : Nat)] 32)) HO6.out (fun q hq => ((Below.refl w6.heap.size w6).alloc (Nat.le_refl _) (.cells #[.int .u32 (n6 : Nat)] 32)).block q (HO6.out.lt q hq).2))
        have hS7 : (w6.alloc (.cells #[.int .u32 (n6 : Nat)] 32)).cell? ⟨b3, 6, none⟩ = some vf ∧ True := ⟨HS7.out.box.cell 6, trivial⟩
        refine hK _ _ (fun _ => hS7) ?_
        clear hK K
        try simp only [Act.put, List.setIfInBounds_toArray, List.set_cons_zero, List.set_cons_succ]
        refine U_one 5 (by kernel_rfl) rfl rfl (fun K hK => ?_)
        refine wp_append_any _ (.tmp 83) (.tmp 86) _ rfl W8.heap.size 32 i0 _ 1 4 Tryz.underlying44 hi0 hz0 hz1 hz2 rfl (by omega) vf k' (u32s fs) rfl HO7.out (w6.heap.size + 1) (some ⟨w6.heap.size, 0, none⟩) 1 1 (u32s [n6]) rfl ⟨rfl, fun _ => ⟨_, rfl, by simp, cell_one_new _ _ _⟩⟩ (one_u32s _) (by simp only [maxLen]; omega) (by omega) (by simp; omega) ?_
        intro v8 w8' hown8 hg8 hat8
        obtain ⟨g8, c8, rfl, -, -, hge8⟩ := Row.of_any hown8 (by omega)
        have hsame : ∀ q, q < W8.heap.size → w8'.heap[q]? = (w6.alloc (.cells #[.int .u32 (n6 : Nat)] 32)).heap[q]? := fun q hq => hg8.block q (by simp; omega) (fun e => by have := (HO7.out.lt q (by first | exact e | exact e.symm)).1; omega)
        have HS8 := Lib.hid (show OrS L rg w w8' w.heap.size b3 (wrC ⟨n, fm, sp, c1, s⟩ vf 0) A6 c6 bs6 bad6 from
         ⟨⟨HS7.out.rd.box.same (hsame rg (by have := HS7.out.hrg; omega)), HS7.out.rd.cap, HS7.out.rd.rd.keep (fun p hp => World.cell?_of_block (hsame p.block (by have := HS7.out.rd.far; have := HS7.out.hrg; omega))), HS7.out.rd.far, HS7.out.rd.b8⟩, ⟨hg8.os.trans HS7.out.fr.os, hg8.tape.trans HS7.out.fr.tape, hg8.output.trans HS7.out.fr.output, Nat.le_trans HS7.out.fr.size hg8.size, fun q hq hne => (hsame q (by omega)).trans (HS7.out.fr.same q hq hne)⟩, HS7.out.res.same (hsame _ hb28), HS7.out.box.same (hsame _ hb38), HS7.out.h2, HS7.out.h3, HS7.out.ne, HS7.out.hrg⟩)
        have HO8 := Lib.hid hown8
        have hW8' : W8.heap.size ≤ w8'.heap.size := Nat.le_trans (by simp; omega) hg8.size
        clear hown8 hg8 hat8 hsame HS6 HO6 HS7 HO7
        have hS8 : w8'.cell? ⟨b3, 6, none⟩ = some vf ∧ True := ⟨HS8.out.box.cell 6, trivial⟩
        have hcu := hS8.1
        have hfz := HS8.out.box.frozen 6
        refine hK _ _ (fun _ => hS8) ?_
        clear hK K
        try simp only [Act.put, List.setIfInBounds_toArray, List.set_cons_zero, List.set_cons_succ]
        refine U_one 6 (by kernel_rfl) rfl rfl (fun K hK => ?_)
        go_simp
        refine hK _ _ (fun _ => hS8) ?_
        clear hK K
        try simp only [Act.put, List.setIfInBounds_toArray, List.set_cons_zero, List.set_cons_succ]
        refine U_one 7 (by kernel_rfl) rfl rfl (fun K hK => ?_)
        go_simp
        refine hK _ _ (fun h => absurd h (by decide)) ?_
        clear hK K
        try simp only [Act.put, List.setIfInBounds_toArray, List.set_cons_zero, List.set_cons_succ]
        refine U_done (by kernel_rfl) ?_ _
        simp only [Calm, Exit.then]
        have HS9 := Lib.hid (show OrS L rg w (w8'.setCell ⟨b3, 6, none⟩ (.slice (some ⟨g8, 0, none⟩) (k' + 1) c8)) w.heap.size b3 (wrC ⟨n, fm, sp, c1, s⟩ (.slice (some ⟨g8, 0, none⟩) (k' + 1) c8) 0) A6 c6 bs6 bad6 from HS8.out.set 6 (.slice (some ⟨g8, 0, none⟩) (k' + 1) c8))
        have HO9 := Lib.hid (own_sameI (w' := w8'.setCell ⟨b3, 6, none⟩ (.slice (some ⟨g8, 0, none⟩) (k' + 1) c8)) HO8.out (fun q hq => Below.heap_setCell w8' ⟨b3, 6, none⟩ (.slice (some ⟨g8, 0, none⟩) (k' + 1) c8) q (by show q ≠ b3; have := (HO8.out.lt q hq).1; omega)))
        have hW9 : W8.heap.size ≤ (w8'.setCell ⟨b3, 6, none⟩ (.slice (some ⟨g8, 0, none⟩) (k' + 1) c8)).heap.size := by simp [World.setCell]; exact hW8'
        clear HS8 HO8 hW8' hS hS6 hS7 hS8 hcu hfz
        generalize w8'.setCell ⟨b3, 6, none⟩ (.slice (some ⟨g8, 0, none⟩) (k' + 1) c8) = W9 at *
        have r1 := HS9.out.rd.box.cell 1
        cases bad6 with
        | true =>
          have HNO := Lib.hid (show rdObj bs = none from by
           rw [HRD.out]
           unfold rdFs
           rw [if_neg HFM.out]
           have h1 : rdNum bs' = none := by
            cases hh : rdNum bs' with
            | none => rfl
            | some q => have := HD6.out.2 rfl ⟨q, hh⟩; cases this
           have h2 := rdK_snoc _ _ _ _ HK.out
           rw [h1] at h2
           rw [show rdK n bs4 = none from rdK_stop n (k' + 1) bs4 h2 (by omega)])
          clear HD6 HRD HO9 HK r1
          have q0 := HS9.out.box.cell 0
          have q1 := HS9.out.box.cell 1
          have q2 := HS9.out.box.cell 2
          have q3 := HS9.out.box.cell 3
          have q4 := HS9.out.box.cell 4
          have q5 := HS9.out.box.cell 5
          have q6 := HS9.out.box.cell 6
          have q7 := HS9.out.box.cell 7
          unfold wrC at q0 q1 q2 q3 q4 q5 q6 q7
          have z0 := HS9.out.res.frozen 0
          have z1 := HS9.out.res.frozen 1
          have z2 := HS9.out.res.frozen 2
          have z3 := HS9.out.res.frozen 3
          have z4 := HS9.out.res.frozen 4
          have z5 := HS9.out.res.frozen 5
          have z6 := HS9.out.res.frozen 6
          have z7 := HS9.out.res.frozen 7
          have d0 := HS9.out.res.cell 0
          have d1 := HS9.out.res.cell 1
          have d2 := HS9.out.res.cell 2
          have d3 := HS9.out.res.cell 3
          have d4 := HS9.out.res.cell 4
          have d5 := HS9.out.res.cell 5
          have d6 := HS9.out.res.cell 6
          have d7 := HS9.out.res.cell 7
          have r1 := HS9.out.rd.box.cell 1
          obtain ⟨BF, RF, FF⟩ := HS9.out.fin (.int .i64 n) (.int .i64 fm) (.int .i64 sp) (.int .u32 0) (.int .u32 s) (.int .u32 c1) (.slice (some ⟨g8, 0, none⟩) (k' + 1) c8) (.int .i64 0)
          have HBF := Lib.hid BF
          have HRF := Lib.hid RF
          have HFF := Lib.hid FF
          clear BF RF FF
          go_wp2_with fail
          generalize ((((((((W9.setCell ⟨w.heap.size, 0, none⟩ (.int .i64 (n : Int))).setCell ⟨w.heap.size, 1, none⟩ (.int .i64 (fm : Int))).setCell ⟨w.heap.size, 2, none⟩ (.int .i64 (sp : Int))).setCell ⟨w.heap.size, 3, none⟩ (.int .u32 0)).setCell ⟨w.heap.size, 4, none⟩ (.int .u32 (s : Int))).setCell ⟨w.heap.size, 5, none⟩ (.int .u32 (c1 : Int))).setCell ⟨w.heap.size, 6, none⟩ (.slice (some ⟨g8, 0, none⟩) (k' + 1) c8)).setCell ⟨w.heap.size, 7, none⟩ (.int .i64 0)) = WF at *
          clear q0 z0 d0 q1 z1 d1 q2 z2 d2 q3 z3 d3 q4 z4 d4 q5 z5 d5 q6 z6 d6 q7 z7 d7
          have f0 := HBF.out.cell 0
          have f1 := HBF.out.cell 1
          have f2 := HBF.out.cell 2
          have f3 := HBF.out.cell 3
          have f4 := HBF.out.cell 4
          have f5 := HBF.out.cell 5
          have f6 := HBF.out.cell 6
          have f7 := HBF.out.cell 7
          refine bodyPost_ret (v := wrV ⟨n, fm, sp, c1, s⟩ (.slice (some ⟨g8, 0, none⟩) (k' + 1) c8) 0) (by simp [results, Tryz.results69, go_sem, wrV, wrC, f0, f1, f2, f3, f4, f5, f6, f7]) rfl ?_
          exact ⟨_, _, _, _, true, rfl, ⟨_, _, _, _, rfl⟩, HRF.out, HFF.out, fun _ => HNO.out, fun h => by cases h⟩
        | false =>
          have hnum := (HD6.out.1 rfl).2
          have h2 := rdK_snoc _ _ _ _ HK.out
          rw [hnum] at h2
          have HK9 := Lib.hid h2
          have e9 : u32s fs ++ u32s [n6] = u32s (fs ++ [n6]) := by unfold u32s; rw [List.map_append]
          have ho9 := HO9.out
          rw [e9] at ho9
          have HO10 := Lib.hid ho9
          clear hnum h2 HD6 HK HO9 e9 ho9
          go_wp2_with fail
          go_roundw
          case rel => exact ⟨k' + 1, fs ++ [n6], _, A6, c6, bs6, by go_num, by omega, HS9.out, HO10.out, HK9.out, hW9⟩
          case measure => simp [intOf]; omega
       ·obtain rfl : n = k' := by omega
        have hd : decide ((n : Int) < (n : Int)) = false := by simp
        obtain ⟨AF, cF, rfl, hrF⟩ := own_sliceI HO.out
        have hneF : 0 < n → ∀ a, AF = some a → a.block ≠ w.heap.size := fun _ a ha e => by have := (HO.out.lt a.block (by rw [ha]; rfl)).1; omega
        have HRF1 := Lib.hid (show rdObj bs = some (⟨⟨n, fm, sp, c1, s⟩, fs⟩, bs') from by
         rw [HRD.out]; unfold rdFs; rw [if_neg HFM.out]; rw [show rdK (⟨n, fm, sp, c1, s⟩ : Hd).size bs4 = some (fs, bs') from HK.out])
        have HR8 := Lib.hid (reads8 (g := w.heap.size) hrF hneF (.int .i64 n) (.int .i64 fm) (.int .i64 sp) (.int .u32 0) (.int .u32 s) (.int .u32 c1) (.slice AF n cF) (.int .i64 0))
        have HFL := Lib.hid hfl
        have HNW := Lib.hid (show ∀ a, AF = some a → w.heap.size ≤ a.block from fun a ha => by have := (HO.out.lt a.block (by rw [ha]; rfl)).1; omega)
        clear hrF HRD HK HO hfl hk' hkn
        have q0 := HS.out.box.cell 0
        have q1 := HS.out.box.cell 1
        have q2 := HS.out.box.cell 2
        have q3 := HS.out.box.cell 3
        have q4 := HS.out.box.cell 4
        have q5 := HS.out.box.cell 5
        have q6 := HS.out.box.cell 6
        have q7 := HS.out.box.cell 7
        unfold wrC at q0 q1 q2 q3 q4 q5 q6 q7
        have z0 := HS.out.res.frozen 0
        have z1 := HS.out.res.frozen 1
        have z2 := HS.out.res.frozen 2
        have z3 := HS.out.res.frozen 3
        have z4 := HS.out.res.frozen 4
        have z5 := HS.out.res.frozen 5
        have z6 := HS.out.res.frozen 6
        have z7 := HS.out.res.frozen 7
        have d0 := HS.out.res.cell 0
        have d1 := HS.out.res.cell 1
        have d2 := HS.out.res.cell 2
        have d3 := HS.out.res.cell 3
        have d4 := HS.out.res.cell 4
        have d5 := HS.out.res.cell 5
        have d6 := HS.out.res.cell 6
        have d7 := HS.out.res.cell 7
        have r1 := HS.out.rd.box.cell 1
        obtain ⟨BF, RF, FF⟩ := HS.out.fin (.int .i64 n) (.int .i64 fm) (.int .i64 sp) (.int .u32 0) (.int .u32 s) (.int .u32 c1) (.slice AF n cF) (.int .i64 0)
        have HBF := Lib.hid BF
        have HRF := Lib.hid RF
        have HFF := Lib.hid FF
        clear BF RF FF
        go_wp2_with fail
        generalize ((((((((wr.setCell ⟨w.heap.size, 0, none⟩ (.int .i64 (n : Int))).setCell ⟨w.heap.size, 1, none⟩ (.int .i64 (fm : Int))).setCell ⟨w.heap.size, 2, none⟩ (.int .i64 (sp : Int))).setCell ⟨w.heap.size, 3, none⟩ (.int .u32 0)).setCell ⟨w.heap.size, 4, none⟩ (.int .u32 (s : Int))).setCell ⟨w.heap.size, 5, none⟩ (.int .u32 (c1 : Int))).setCell ⟨w.heap.size, 6, none⟩ (.slice AF n cF)).setCell ⟨w.heap.size, 7, none⟩ (.int .i64 0)) = WF at *
        clear q0 z0 d0 q1 z1 d1 q2 z2 d2 q3 z3 d3 q4 z4 d4 q5 z5 d5 q6 z6 d6 q7 z7 d7
        have f0 := HBF.out.cell 0
        have f1 := HBF.out.cell 1
        have f2 := HBF.out.cell 2
        have f3 := HBF.out.cell 3
        have f4 := HBF.out.cell 4
        have f5 := HBF.out.cell 5
        have f6 := HBF.out.cell 6
        have f7 := HBF.out.cell 7
        refine bodyPost_ret (v := wrV ⟨n, fm, sp, c1, s⟩ (.slice AF n cF) 0) (by simp [results, Tryz.results69, go_sem, wrV, wrC, f0, f1, f2, f3, f4, f5, f6, f7]) rfl ?_
        exact ⟨_, _, _, _, false, rfl, ⟨_, _, _, _, rfl⟩, HRF.out, HFF.out, fun h => (by cases h), fun _ => ⟨_, HRF1.out, AF, cF, by rw [HFL.out], by rw [HFL.out]; exact HR8.out, fun a ha => HNW.out a ha⟩⟩
  ·have hno : okB ⟨n, fm, sp, c1, s⟩ = false := by simpa using hok
   have HNO := Lib.hid (show rdObj bs = none from rdObj_no (by
    cases d4 with
    | true => exact HD4.out.1 rfl
    | false => rw [HD4.out.2 rfl, hno]; rfl))
   have hno0 : okB ⟨n, fm, sp, 0, s⟩ = false := hno
   clear hno hok
   have q0 := HS9.out.box.cell 0
   have q1 := HS9.out.box.cell 1
   have q2 := HS9.out.box.cell 2
   have q3 := HS9.out.box.cell 3
   have q4 := HS9.out.box.cell 4
   unfold wrC at q0 q1 q2 q3 q4
   have HPK := Lib.hid (PackNo_any ⟨n, fm, sp, 0, s⟩ hn3 hfm hsp' (show (0 : Nat) < 4294967296 by omega) hs4 (hno0) W7 (HS9.out.spares hs hsp))
   go_wp2_with fail
   refine HPK.out.mono ?_
   rintro e w8 ⟨rfl, hb8⟩
   have HS10 := Lib.hid ((HS9.out.below hb8).below ((Below.refl _ _).alloc (Nat.le_refl _) (.cells #[.int .u32 0, .int .u32 0, .int .u32 0] 107)))
   clear HPK HS9 hb8 q0 q1 q2 q3 q4
   go_upto_region 10 with fail
   generalize w8.alloc (.cells #[.int .u32 0, .int .u32 0, .int .u32 0] 107) = W8 at *
   have y1 := HS10.out.rd.box.frozen 1
   have q1 := HS10.out.rd.box.cell 1
   have HS11 := Lib.hid (HS10.out.bad_)
   clear HS10
   go_upto_region 12 with fail
   generalize W8.setCell ⟨rg, 1, none⟩ (.bool true) = W9 at *
   clear y1 q1
   have q0 := HS11.out.box.cell 0
   have q1 := HS11.out.box.cell 1
   have q2 := HS11.out.box.cell 2
   have q3 := HS11.out.box.cell 3
   have q4 := HS11.out.box.cell 4
   have q5 := HS11.out.box.cell 5
   have q6 := HS11.out.box.cell 6
   have q7 := HS11.out.box.cell 7
   unfold wrC at q0 q1 q2 q3 q4 q5 q6 q7
   have z0 := HS11.out.res.frozen 0
   have z1 := HS11.out.res.frozen 1
   have z2 := HS11.out.res.frozen 2
   have z3 := HS11.out.res.frozen 3
   have z4 := HS11.out.res.frozen 4
   have z5 := HS11.out.res.frozen 5
   have z6 := HS11.out.res.frozen 6
   have z7 := HS11.out.res.frozen 7
   have d0 := HS11.out.res.cell 0
   have d1 := HS11.out.res.cell 1
   have d2 := HS11.out.res.cell 2
   have d3 := HS11.out.res.cell 3
   have d4 := HS11.out.res.cell 4
   have d5 := HS11.out.res.cell 5
   have d6 := HS11.out.res.cell 6
   have d7 := HS11.out.res.cell 7
   have r1 := HS11.out.rd.box.cell 1
   obtain ⟨BF, RF, FF⟩ := HS11.out.fin (.int .i64 n) (.int .i64 fm) (.int .i64 sp) (.int .u32 0) (.int .u32 s) (.int .u32 c1) (.slice none 0 0) (.int .i64 0)
   have HBF := Lib.hid BF
   have HRF := Lib.hid RF
   have HFF := Lib.hid FF
   clear BF RF FF
   go_wp2_with fail
   generalize ((((((((W9.setCell ⟨w.heap.size, 0, none⟩ (.int .i64 (n : Int))).setCell ⟨w.heap.size, 1, none⟩ (.int .i64 (fm : Int))).setCell ⟨w.heap.size, 2, none⟩ (.int .i64 (sp : Int))).setCell ⟨w.heap.size, 3, none⟩ (.int .u32 0)).setCell ⟨w.heap.size, 4, none⟩ (.int .u32 (s : Int))).setCell ⟨w.heap.size, 5, none⟩ (.int .u32 (c1 : Int))).setCell ⟨w.heap.size, 6, none⟩ (.slice none 0 0)).setCell ⟨w.heap.size, 7, none⟩ (.int .i64 0)) = WF at *
   clear q0 z0 d0 q1 z1 d1 q2 z2 d2 q3 z3 d3 q4 z4 d4 q5 z5 d5 q6 z6 d6 q7 z7 d7
   have f0 := HBF.out.cell 0
   have f1 := HBF.out.cell 1
   have f2 := HBF.out.cell 2
   have f3 := HBF.out.cell 3
   have f4 := HBF.out.cell 4
   have f5 := HBF.out.cell 5
   have f6 := HBF.out.cell 6
   have f7 := HBF.out.cell 7
   refine bodyPost_ret (v := wrV ⟨n, fm, sp, c1, s⟩ (.slice none 0 0) 0) (by simp [results, Tryz.results69, go_sem, wrV, wrC, f0, f1, f2, f3, f4, f5, f6, f7]) rfl ?_
   exact ⟨_, _, _, _, true, rfl, ⟨_, _, _, _, rfl⟩, HRF.out, HFF.out, fun _ => HNO.out, fun h => by cases h⟩
end
end Go.Proofs.YthadjmhipckelaaGreatDoor
