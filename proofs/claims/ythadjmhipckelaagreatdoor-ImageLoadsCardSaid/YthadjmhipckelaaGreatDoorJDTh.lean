import Derived.Test.YthadjmhipckelaaGreatDoorJIObjS
import Derived.Test.YthadjmhipckelaaGreatDoorJIObjR
import Derived.Test.YthadjmhipckelaaGreatDoorJLive
set_option linter.unusedVariables false
set_option linter.unusedSimpArgs false
namespace Go.Proofs.YthadjmhipckelaaGreatDoor
section
open Go.RowKit
attribute [local go_sem] Oper.semAt_some
theorem RdD.setD {w : World} {L rg c g i : Nat} {A : Option Addr} {bs : List Nat} {bad : Bool} {v : Value} (R : RdD w L rg A c bs bad) (h : g ≠ rg) (hL : L ≤ g) : RdD (w.setCell ⟨g, i, none⟩ v) L rg A c bs bad :=
 ⟨R.box.same (Below.heap_setCell w ⟨g, i, none⟩ v rg h.symm), R.cap, R.rd.below (Below.setCell (Below.refl _ _) (p := ⟨g, i, none⟩) hL v), R.far, R.b8⟩
def ObjD (L rg : Nat) (bs : List Nat) (w : World) (e : Ending) (w' : World) : Prop :=
 ∃ v A c bs' bad', e = .returned v ∧ (∃ (x : Hd) (Af : Option Addr) (nf cf : Nat), x.size ≤ 65535 ∧ v = wrV x (.slice Af nf cf) 0) ∧ RdD w' L rg A c bs' bad' ∧ Fr1 rg w w' ∧ (bad' = true → rdObj bs = none) ∧ (bad' = false → ∃ t, rdObj bs = some (t, bs') ∧ ThV w.heap.size w' t v)
structure OrD (L rg : Nat) (w0 w : World) (b2 b3 : Nat) (cs : Array Value) (A : Option Addr) (c : Nat) (bs : List Nat) (bad : Bool) : Prop where
 rd : RdD w L rg A c bs bad
 fr : Fr1 rg w0 w
 res : Blk w b2 105 #[.int .i64 0, .int .i64 0, .int .i64 0, .int .u32 0, .int .u32 0, .int .u32 0, .slice none 0 0, .int .i64 0]
 box : Blk w b3 105 cs
 h2 : w0.heap.size ≤ b2
 h3 : w0.heap.size ≤ b3
 ne : b2 ≠ b3
 hrg : rg < w0.heap.size
section
variable {L rg b2 b3 c c' : Nat} {w0 w w' : World} {cs : Array Value} {A A' : Option Addr} {bs bs' : List Nat} {bad bad' : Bool}
theorem OrD.read (S : OrD L rg w0 w b2 b3 cs A c bs bad) (R : RdD w' L rg A' c' bs' bad') (F : Fr1 rg w w') : OrD L rg w0 w' b2 b3 cs A' c' bs' bad' :=
 ⟨R, S.fr.trans F, S.res.fr1 F (by have := S.h2; have := S.hrg; omega), S.box.fr1 F (by have := S.h3; have := S.hrg; omega), S.h2, S.h3, S.ne, S.hrg⟩
theorem OrD.below (S : OrD L rg w0 w b2 b3 cs A c bs bad) (h : Below w.heap.size w w') : OrD L rg w0 w' b2 b3 cs A c bs bad := S.read (S.rd.below h) (Fr1.of_below h)
theorem OrD.set (S : OrD L rg w0 w b2 b3 cs A c bs bad) (i : Nat) (v : Value) : OrD L rg w0 (w.setCell ⟨b3, i, none⟩ v) b2 b3 (cs.setIfInBounds i v) A c bs bad :=
 ⟨S.rd.setD (by have := S.h3; have := S.hrg; omega) (by have := S.h3; have := S.hrg; have := S.rd.far; omega), ⟨S.fr.os, S.fr.tape, S.fr.output, by have := S.fr.size; simp [World.setCell]; exact this, fun k hk hne => (Below.heap_setCell w ⟨b3, i, none⟩ v k (by show k ≠ b3; have := S.h3; omega)).trans (S.fr.same k hk hne)⟩, S.res.same (Below.heap_setCell w ⟨b3, i, none⟩ v b2 S.ne), S.box.set_ i v, S.h2, S.h3, S.ne, S.hrg⟩
theorem OrD.bad_ (S : OrD L rg w0 w b2 b3 cs A c bs bad) : OrD L rg w0 (w.setCell ⟨rg, 1, none⟩ (.bool true)) b2 b3 cs A c bs true :=
 S.read ⟨S.rd.box.set_ 1 _, S.rd.cap, S.rd.rd.below (Below.setCell (Below.refl _ _) (p := ⟨rg, 1, none⟩) S.rd.far _), S.rd.far, S.rd.b8⟩ (Fr1.set _ _ _ _)
theorem OrD.fin (S : OrD L rg w0 w b2 b3 cs A c bs bad) (x0 x1 x2 x3 x4 x5 x6 x7 : Value) :
 Blk ((((((((w.setCell ⟨b2, 0, none⟩ x0).setCell ⟨b2, 1, none⟩ x1).setCell ⟨b2, 2, none⟩ x2).setCell ⟨b2, 3, none⟩ x3).setCell ⟨b2, 4, none⟩ x4).setCell ⟨b2, 5, none⟩ x5).setCell ⟨b2, 6, none⟩ x6).setCell ⟨b2, 7, none⟩ x7) b2 105 #[x0, x1, x2, x3, x4, x5, x6, x7] ∧
 RdD ((((((((w.setCell ⟨b2, 0, none⟩ x0).setCell ⟨b2, 1, none⟩ x1).setCell ⟨b2, 2, none⟩ x2).setCell ⟨b2, 3, none⟩ x3).setCell ⟨b2, 4, none⟩ x4).setCell ⟨b2, 5, none⟩ x5).setCell ⟨b2, 6, none⟩ x6).setCell ⟨b2, 7, none⟩ x7) L rg A c bs bad ∧
 Fr1 rg w0 ((((((((w.setCell ⟨b2, 0, none⟩ x0).setCell ⟨b2, 1, none⟩ x1).setCell ⟨b2, 2, none⟩ x2).setCell ⟨b2, 3, none⟩ x3).setCell ⟨b2, 4, none⟩ x4).setCell ⟨b2, 5, none⟩ x5).setCell ⟨b2, 6, none⟩ x6).setCell ⟨b2, 7, none⟩ x7) := by
 have h1 : b2 ≠ rg := by have := S.h2; have := S.hrg; omega
 have h2 : L ≤ b2 := by have := S.h2; have := S.hrg; have := S.rd.far; omega
 exact ⟨S.res.setAll8 _ _ _ _ _ _ _ _, (((((((S.rd.setD h1 h2).setD h1 h2).setD h1 h2).setD h1 h2).setD h1 h2).setD h1 h2).setD h1 h2).setD h1 h2, S.fr.setAll8 S.h2 _ _ _ _ _ _ _ _⟩
theorem OrD.app {B : Nat} {v : Value} (S : OrD L rg w0 w b2 b3 cs A c bs bad) (hg : w.grownBy w' v.ownBlock) (hB : ∀ q, v.ownBlock = some q → B ≤ q) (hw : w0.heap.size ≤ B) (h2 : b2 < B) (h3 : b3 < B) : OrD L rg w0 w' b2 b3 cs A c bs bad := by
 have hsame : ∀ q, q < w.heap.size → q < B → w'.heap[q]? = w.heap[q]? := fun q hq hqB => hg.block q hq (fun e => by have := hB q (by first | exact e | exact e.symm); omega)
 have hr := S.hrg
 have hf := S.rd.far
 have hs := S.fr.size
 exact ⟨⟨S.rd.box.same (hsame rg (by omega) (by omega)), S.rd.cap, S.rd.rd.keep (fun p hp => World.cell?_of_block (hsame p.block (by omega) (by omega))), S.rd.far, S.rd.b8⟩, ⟨hg.os.trans S.fr.os, hg.tape.trans S.fr.tape, hg.output.trans S.fr.output, Nat.le_trans S.fr.size hg.size, fun q hq hne => (hsame q (by omega) (by omega)).trans (S.fr.same q hq hne)⟩, S.res.same (hsame _ S.res.lt h2), S.box.same (hsame _ S.box.lt h3), S.h2, S.h3, S.ne, S.hrg⟩
end
set_option maxRecDepth 100000 in
set_option maxHeartbeats 8000000 in
theorem thing_any {w : World} {L rg c : Nat} {A : Option Addr} {bs : List Nat} (R : RdD w L rg A c bs false) (hn : bs.length ≤ 9000000) :
 Calls Tryz.prog 52 #[.pointer (some ⟨rg, 0, none⟩)] w (ObjD L rg bs w) := by
 have hrg := R.box.lt
 have hLr := R.far
 have hb0 := ((Below.refl w.heap.size w).alloc (Nat.le_refl _) (.cells #[.int .i64 0, .int .i64 0, .int .i64 0, .int .u32 0, .int .u32 0, .int .u32 0, .slice none 0 0, .int .i64 0] 105)).alloc (by simp) (.cells #[.int .i64 0, .int .i64 0, .int .i64 0, .int .u32 0, .int .u32 0, .int .u32 0, .slice none 0 0, .int .i64 0] 105)
 have b3 := Blk.new (w.alloc (.cells #[.int .i64 0, .int .i64 0, .int .i64 0, .int .u32 0, .int .u32 0, .int .u32 0, .slice none 0 0, .int .i64 0] 105)) 105 #[.int .i64 0, .int .i64 0, .int .i64 0, .int .u32 0, .int .u32 0, .int .u32 0, .slice none 0 0, .int .i64 0]
 rw [World.size_alloc] at b3
 have hsz0 : ((w.alloc (.cells #[.int .i64 0, .int .i64 0, .int .i64 0, .int .u32 0, .int .u32 0, .int .u32 0, .slice none 0 0, .int .i64 0] 105)).alloc (.cells #[.int .i64 0, .int .i64 0, .int .i64 0, .int .u32 0, .int .u32 0, .int .u32 0, .slice none 0 0, .int .i64 0] 105)).heap.size = w.heap.size + 2 := by simp
 have HS := Lib.hid (show OrD L rg w ((w.alloc (.cells #[.int .i64 0, .int .i64 0, .int .i64 0, .int .u32 0, .int .u32 0, .int .u32 0, .slice none 0 0, .int .i64 0] 105)).alloc (.cells #[.int .i64 0, .int .i64 0, .int .i64 0, .int .u32 0, .int .u32 0, .int .u32 0, .slice none 0 0, .int .i64 0] 105)) w.heap.size (w.heap.size + 1) (wrC ⟨0, 0, 0, 0, 0⟩ (.slice none 0 0) 0) A c bs false from
  ⟨R.below hb0, Fr1.of_below hb0, (Blk.new w _ _).alloc _, b3, Nat.le_refl _, Nat.le_succ _, by omega, hrg⟩)
 clear R hb0 b3
 go_enter Tryz.func52, Tryz.ntmps52
 go_upto_region 2 with fail
 generalize ((w.alloc (.cells #[.int .i64 0, .int .i64 0, .int .i64 0, .int .u32 0, .int .u32 0, .int .u32 0, .slice none 0 0, .int .i64 0] 105)).alloc (.cells #[.int .i64 0, .int .i64 0, .int .i64 0, .int .u32 0, .int .u32 0, .int .u32 0, .slice none 0 0, .int .i64 0] 105)) = W0 at *
 have hb3 : w.heap.size + 1 ≠ w.heap.size := by omega
 generalize hb3g : w.heap.size + 1 = b3 at *
 have HN1 := Lib.hid (rnumberD_any HS.out.rd hn)
 go_wp2_with fail
 refine HN1.out.mono ?_
 rintro e w1 ⟨c1, A1, k1, bs1, d1, rfl, hc1, R1, F1, D1, e1, he1⟩
 have HD1 := Lib.hid D1
 have hl1 : bs1.length ≤ 9000000 := by rw [he1, List.length_append] at hn; omega
 have HS1 := Lib.hid (HS.out.read R1 F1)
 clear R1 F1 D1 HN1 HS he1 e1
 have q5 := HS1.out.box.cell 5
 have y5 := HS1.out.box.frozen 5
 unfold wrC at q5
 have HS2 := Lib.hid (show OrD L rg w (w1.setCell ⟨b3, 5, none⟩ (.int .u32 (c1 : Nat))) w.heap.size b3 (wrC ⟨0, 0, 0, c1, 0⟩ (.slice none 0 0) 0) A1 k1 bs1 d1 from HS1.out.set 5 (.int .u32 (c1 : Nat)))
 clear HS1
 go_upto_region 3 with fail
 generalize w1.setCell ⟨b3, 5, none⟩ (.int .u32 (c1 : Int)) = W1 at *
 clear q5 y5
 have HBY := Lib.hid (rbyteD_any HS2.out.rd hl1)
 go_wp2_with fail
 refine HBY.out.mono ?_
 rintro e w2 ⟨k, A2, k2, bs2, d2, rfl, hk8, R2, F2, D2, e2, he2⟩
 have HD2 := Lib.hid D2
 have HS3 := Lib.hid (HS2.out.read R2 F2)
 have hl2 : bs2.length ≤ 9000000 := by rw [he2, List.length_append] at hl1; omega
 clear HBY R2 F2 D2 HS2 he2 e2
 have hm16 : (k : Int).tmod 16 = ((k % 16 : Nat) : Int) := (Int.ofNat_tmod _ _).symm
 have hq16 : (k : Int).tdiv 16 = ((k / 16 : Nat) : Int) := (Int.ofNat_tdiv _ _).symm
 go_upto_region 4 with fail
 have q1 := HS3.out.box.cell 1
 have q2 := HS3.out.box.cell 2
 have y1 := HS3.out.box.frozen 1
 have y2 := HS3.out.box.frozen 2
 unfold wrC at q1 q2
 have HS4 := Lib.hid (show OrD L rg w ((w2.setCell ⟨b3, 1, none⟩ (.int .i64 ((k % 16 : Nat) : Int))).setCell ⟨b3, 2, none⟩ (.int .i64 ((k / 16 : Nat) : Int))) w.heap.size b3 (wrC ⟨0, k % 16, k / 16, c1, 0⟩ (.slice none 0 0) 0) A2 k2 bs2 d2 from (HS3.out.set 1 (.int .i64 ((k % 16 : Nat) : Int))).set 2 (.int .i64 ((k / 16 : Nat) : Int)))
 clear HS3
 have hfm : k % 16 < 16 := Nat.mod_lt _ (by omega)
 have hsp' : k / 16 < 16 := by omega
 generalize hfmg : k % 16 = fm at *
 generalize hspg : k / 16 = sp at *
 have HKK := Lib.hid (And.intro hfmg hspg)
 clear hfmg hspg
 go_upto_region 6 with fail
 generalize (w2.setCell ⟨b3, 1, none⟩ (.int .i64 (fm : Int))).setCell ⟨b3, 2, none⟩ (.int .i64 (sp : Int)) = W3 at *
 clear q1 q2 y1 y2 hm16 hq16
 have HN3 := Lib.hid (rnumberD_any HS4.out.rd hl2)
 go_wp2_with fail
 refine HN3.out.mono ?_
 rintro e w3 ⟨n, A3, k3, bs3, d3, rfl, hn3, R3, F3, D3, e3, he3⟩
 have HD3 := Lib.hid D3
 have HS5 := Lib.hid (HS4.out.read R3 F3)
 have hl3 : bs3.length ≤ 9000000 := by rw [he3, List.length_append] at hl2; omega
 clear HN3 R3 F3 D3 HS4 he3 e3
 have HN4 := Lib.hid (rnumberD_any HS5.out.rd hl3)
 go_wp2_with fail
 refine HN4.out.mono ?_
 rintro e w4 ⟨s, A4, k4, bs4, d4, rfl, hs4, R4, F4, D4, e4, he4⟩
 have HD4 := Lib.hid (hd_of HD1.out HD2.out HD3.out D4)
 rw [HKK.out.1, HKK.out.2] at HD4
 have HS6 := Lib.hid (HS5.out.read R4 F4)
 have hl4 : bs4.length ≤ 9000000 := by rw [he4, List.length_append] at hl3; omega
 clear HN4 R4 F4 D4 HS5 he4 e4 HD1 HD2 HD3
 have q4 := HS6.out.box.cell 4
 have y4 := HS6.out.box.frozen 4
 unfold wrC at q4
 have HS7 := Lib.hid (show OrD L rg w (w4.setCell ⟨b3, 4, none⟩ (.int .u32 (s : Nat))) w.heap.size b3 (wrC ⟨0, fm, sp, c1, s⟩ (.slice none 0 0) 0) A4 k4 bs4 d4 from HS6.out.set 4 (.int .u32 (s : Nat)))
 clear HS6
 go_upto_region 8 with fail
 generalize w4.setCell ⟨b3, 4, none⟩ (.int .u32 (s : Int)) = W5 at *
 clear q4 y4 HKK
 by_cases hbig : 65535 < n
 ·have hbi : (65535 : Int) < (n : Int) := by omega
  have hdb : decide ((65535 : Int) < (n : Int)) = true := by simp; omega
  have HNO := Lib.hid (show rdObj bs = none from rdObj_no (by
   cases d4 with
   | true => exact HD4.out.1 rfl
   | false => rw [HD4.out.2 rfl, okB_size hbig]; rfl))
  have y1 := HS7.out.rd.box.frozen 1
  have q1 := HS7.out.rd.box.cell 1
  have HS8 := Lib.hid (HS7.out.bad_)
  clear HS7
  go_upto_region 10 with fail
  generalize W5.setCell ⟨rg, 1, none⟩ (.bool true) = W6 at *
  clear y1 q1
  have q0 := HS8.out.box.cell 0
  have q1 := HS8.out.box.cell 1
  have q2 := HS8.out.box.cell 2
  have q3 := HS8.out.box.cell 3
  have q4 := HS8.out.box.cell 4
  have q5 := HS8.out.box.cell 5
  have q6 := HS8.out.box.cell 6
  have q7 := HS8.out.box.cell 7
  unfold wrC at q0 q1 q2 q3 q4 q5 q6 q7
  have z0 := HS8.out.res.frozen 0
  have z1 := HS8.out.res.frozen 1
  have z2 := HS8.out.res.frozen 2
  have z3 := HS8.out.res.frozen 3
  have z4 := HS8.out.res.frozen 4
  have z5 := HS8.out.res.frozen 5
  have z6 := HS8.out.res.frozen 6
  have z7 := HS8.out.res.frozen 7
  have d0 := HS8.out.res.cell 0
  have d1 := HS8.out.res.cell 1
  have d2 := HS8.out.res.cell 2
  have d3 := HS8.out.res.cell 3
  have d4 := HS8.out.res.cell 4
  have d5 := HS8.out.res.cell 5
  have d6 := HS8.out.res.cell 6
  have d7 := HS8.out.res.cell 7
  have r1 := HS8.out.rd.box.cell 1
  obtain ⟨BF, RF, FF⟩ := HS8.out.fin (.int .i64 0) (.int .i64 fm) (.int .i64 sp) (.int .u32 0) (.int .u32 s) (.int .u32 c1) (.slice none 0 0) (.int .i64 0)
  have HBF := Lib.hid BF
  have HRF := Lib.hid RF
  have HFF := Lib.hid FF
  clear BF RF FF
  go_wp2_with fail
  generalize ((((((((W6.setCell ⟨w.heap.size, 0, none⟩ (.int .i64 0)).setCell ⟨w.heap.size, 1, none⟩ (.int .i64 (fm : Int))).setCell ⟨w.heap.size, 2, none⟩ (.int .i64 (sp : Int))).setCell ⟨w.heap.size, 3, none⟩ (.int .u32 0)).setCell ⟨w.heap.size, 4, none⟩ (.int .u32 (s : Int))).setCell ⟨w.heap.size, 5, none⟩ (.int .u32 (c1 : Int))).setCell ⟨w.heap.size, 6, none⟩ (.slice none 0 0)).setCell ⟨w.heap.size, 7, none⟩ (.int .i64 0)) = WF at *
  clear q0 z0 d0 q1 z1 d1 q2 z2 d2 q3 z3 d3 q4 z4 d4 q5 z5 d5 q6 z6 d6 q7 z7 d7
  have f0 := HBF.out.cell 0
  have f1 := HBF.out.cell 1
  have f2 := HBF.out.cell 2
  have f3 := HBF.out.cell 3
  have f4 := HBF.out.cell 4
  have f5 := HBF.out.cell 5
  have f6 := HBF.out.cell 6
  have f7 := HBF.out.cell 7
  refine bodyPost_ret (v := wrV ⟨0, fm, sp, c1, s⟩ (.slice none 0 0) 0) (by simp [results, Tryz.results52, go_sem, wrV, wrC, f0, f1, f2, f3, f4, f5, f6, f7]) rfl ?_
  exact ⟨_, _, _, _, true, rfl, ⟨_, _, _, _, (show 0 ≤ 65535 by omega), rfl⟩, HRF.out, HFF.out, fun _ => HNO.out, fun h => by cases h⟩
 ·have hbi : ¬ (65535 : Int) < (n : Int) := by omega
  have hdb : decide ((65535 : Int) < (n : Int)) = false := by simp; omega
  have y1 := HS7.out.box.frozen 0
  have q1 := HS7.out.box.cell 0
  unfold wrC at q1
  have HS9 := Lib.hid (show OrD L rg w (W5.setCell ⟨b3, 0, none⟩ (.int .i64 (n : Nat))) w.heap.size b3 (wrC ⟨n, fm, sp, c1, s⟩ (.slice none 0 0) 0) A4 k4 bs4 d4 from HS7.out.set 0 (.int .i64 (n : Nat)))
  clear HS7
  go_upto_region 12 with fail
  generalize W5.setCell ⟨b3, 0, none⟩ (.int .i64 (n : Int)) = W7 at *
  clear y1 q1
  have hn65 : n ≤ 65535 := by omega
  have q0 := HS9.out.box.cell 0
  have q1 := HS9.out.box.cell 1
  have q2 := HS9.out.box.cell 2
  have q3 := HS9.out.box.cell 3
  have q4 := HS9.out.box.cell 4
  unfold wrC at q0 q1 q2 q3 q4
  have HMY := Lib.hid (rmay2_any ⟨n, fm, sp, 0, s⟩ hn65 hfm hsp' (show (0 : Nat) < 4294967296 by omega) hs4 W7)
  unfold Hd.val at HMY
  have hoke : okB ⟨n, fm, sp, 0, s⟩ = okB ⟨n, fm, sp, c1, s⟩ := rfl
  rw [hoke] at HMY
  clear hoke
  go_wp2_with fail
  refine HMY.out.mono ?_
  rintro e w8 ⟨rfl, hb8⟩
  have HS10 := Lib.hid (HS9.out.below hb8)
  clear HMY HS9 hb8 q0 q1 q2 q3 q4
  by_cases hok : okB ⟨n, fm, sp, c1, s⟩ = true
  ·rw [hok]
   obtain ⟨hfit, hmay⟩ := okB_fit hok hc1 hs4
   have HMAY := Lib.hid hmay
   clear hmay
   have r1 := HS10.out.rd.box.cell 1
   cases d4 with
   | true =>
     have HNO := Lib.hid (show rdObj bs = none from rdObj_no (HD4.out.1 rfl))
     clear HD4
     go_upto_region 15 with fail
     clear r1
     have q0 := HS10.out.box.cell 0
     have q1 := HS10.out.box.cell 1
     have q2 := HS10.out.box.cell 2
     have q3 := HS10.out.box.cell 3
     have q4 := HS10.out.box.cell 4
     have q5 := HS10.out.box.cell 5
     have q6 := HS10.out.box.cell 6
     have q7 := HS10.out.box.cell 7
     unfold wrC at q0 q1 q2 q3 q4 q5 q6 q7
     have z0 := HS10.out.res.frozen 0
     have z1 := HS10.out.res.frozen 1
     have z2 := HS10.out.res.frozen 2
     have z3 := HS10.out.res.frozen 3
     have z4 := HS10.out.res.frozen 4
     have z5 := HS10.out.res.frozen 5
     have z6 := HS10.out.res.frozen 6
     have z7 := HS10.out.res.frozen 7
     have d0 := HS10.out.res.cell 0
     have d1 := HS10.out.res.cell 1
     have d2 := HS10.out.res.cell 2
     have d3 := HS10.out.res.cell 3
     have d4 := HS10.out.res.cell 4
     have d5 := HS10.out.res.cell 5
     have d6 := HS10.out.res.cell 6
     have d7 := HS10.out.res.cell 7
     have r1 := HS10.out.rd.box.cell 1
     obtain ⟨BF, RF, FF⟩ := HS10.out.fin (.int .i64 n) (.int .i64 fm) (.int .i64 sp) (.int .u32 0) (.int .u32 s) (.int .u32 c1) (.slice none 0 0) (.int .i64 0)
     have HBF := Lib.hid BF
     have HRF := Lib.hid RF
     have HFF := Lib.hid FF
     clear BF RF FF
     go_wp2_with fail
     generalize ((((((((w8.setCell ⟨w.heap.size, 0, none⟩ (.int .i64 (n : Int))).setCell ⟨w.heap.size, 1, none⟩ (.int .i64 (fm : Int))).setCell ⟨w.heap.size, 2, none⟩ (.int .i64 (sp : Int))).setCell ⟨w.heap.size, 3, none⟩ (.int .u32 0)).setCell ⟨w.heap.size, 4, none⟩ (.int .u32 (s : Int))).setCell ⟨w.heap.size, 5, none⟩ (.int .u32 (c1 : Int))).setCell ⟨w.heap.size, 6, none⟩ (.slice none 0 0)).setCell ⟨w.heap.size, 7, none⟩ (.int .i64 0)) = WF at *
     clear q0 z0 d0 q1 z1 d1 q2 z2 d2 q3 z3 d3 q4 z4 d4 q5 z5 d5 q6 z6 d6 q7 z7 d7
     have f0 := HBF.out.cell 0
     have f1 := HBF.out.cell 1
     have f2 := HBF.out.cell 2
     have f3 := HBF.out.cell 3
     have f4 := HBF.out.cell 4
     have f5 := HBF.out.cell 5
     have f6 := HBF.out.cell 6
     have f7 := HBF.out.cell 7
     refine bodyPost_ret (v := wrV ⟨n, fm, sp, c1, s⟩ (.slice none 0 0) 0) (by simp [results, Tryz.results52, go_sem, wrV, wrC, f0, f1, f2, f3, f4, f5, f6, f7]) rfl ?_
     exact ⟨_, _, _, _, true, rfl, ⟨⟨n, fm, sp, c1, s⟩, _, _, _, hn65, rfl⟩, HRF.out, HFF.out, fun _ => HNO.out, fun h => by cases h⟩
   | false =>
     have HRD := Lib.hid (show rdObj bs = rdFs ⟨n, fm, sp, c1, s⟩ bs4 from rdObj_hd (by rw [HD4.out.2 rfl, if_pos hok]))
     clear HD4 hok
     go_upto_region 16 with fail
     clear r1
     have q1 := HS10.out.box.cell 1
     unfold wrC at q1
     have hb38 : b3 < w8.heap.size := HS10.out.box.lt
     have hb28 : w.heap.size < w8.heap.size := HS10.out.res.lt
     have hw8 : w.heap.size ≤ w8.heap.size := Nat.le_of_lt hb28
     by_cases h2 : fm = 2
     ·have hd2 : ((fm : Int) == 2) = true := by simp; omega
      have hsp4 : sp < 4 := hfit.spare
      have hm0 : sp ≤ 4 * n := by have := HMAY.out; unfold Hd.may at this; simp at this; omega
      have HFM := Lib.hid h2
      clear h2
      obtain ⟨m, hm⟩ : ∃ m, 4 * n - sp = m := ⟨_, rfl⟩
      have hmn : 4 * (n : Int) - (sp : Int) = (m : Int) := by omega
      have hm26 : m ≤ 262140 := by omega
      go_upto_region 19 with fail
      clear q1
      obtain ⟨i0, hi0, hz0, hz1, hz2⟩ := info_parts info_u8
      go_loopw [6, 7] (fun b i wr => ∃ (k' : Nat) (ys : List Nat) (A' : Option Addr) (c' : Nat) (bs' : List Nat) (bad' : Bool), i = .int .i64 k' ∧ k' ≤ m ∧ OrD L rg w wr w.heap.size b3 (wrC ⟨n, fm, sp, c1, s⟩ (.slice none 0 0) 0) A' c' bs' bad' ∧ wr.ownsRow w8.heap.size 5 1 b k' (u8c ys) ∧ (∀ y ∈ ys, y < 256) ∧ ys.length = k' ∧ (bad' = false → ys = bs4.take k' ∧ bs' = bs4.drop k' ∧ k' ≤ bs4.length) ∧ (bad' = true → bs4.length < m) ∧ w8.heap.size ≤ wr.heap.size ∧ bs'.length ≤ 9000000) (fun _ i _ => m - (intOf i).toNat)
      case atStart => exact ⟨0, [], A4, k4, bs4, false, rfl, Nat.zero_le _, HS10.out, ⟨rfl, .inl ⟨rfl, rfl⟩⟩, (fun _ h => by cases h), rfl, (fun _ => ⟨rfl, rfl, Nat.zero_le _⟩), (fun h => by cases h), Nat.le_refl _, hl4⟩
      case round =>
       clear HS10
       obtain ⟨k', ys, A', c', bs', bad', rfl, hk', S, O, hy8, hyl, hgo, hno, hW8, hl5⟩ := hrel
       have HS := Lib.hid S
       have HO := Lib.hid O
       have HGO := Lib.hid hgo
       have HNN := Lib.hid hno
       have HY8 := Lib.hid hy8
       have r1 := S.rd.box.cell 1
       have q0 := S.box.cell 0
       have q2 := S.box.cell 2
       unfold wrC at q0 q2
       clear S O hgo hno hy8
       have hw1 : wrap64 (4 * (n : Int)) = 4 * (n : Int) := IntWalk.wrap64_in _ (by omega)
       have hw2 : wrap64 (4 * (n : Int) - (sp : Int)) = 4 * (n : Int) - (sp : Int) := IntWalk.wrap64_in _ (by omega)
       by_cases hkm : k' < m
       ·have hd : decide ((k' : Int) < (m : Int)) = true := by simp; omega
        have hdx : decide ((k' : Int) < 4 * (n : Int) - (sp : Int)) = true := by rw [hmn]; exact hd
        cases bad' with
        | true =>
          have HEND := Lib.hid (show (true = true → rdObj bs = none) ∧ (true = false → rdObj bs = some (⟨⟨n, fm, sp, c1, s⟩, packM ys⟩, bs')) from by
           refine ⟨fun h => ?_, fun h => ?_⟩
           ·rw [HRD.out]; unfold rdFs; rw [if_pos HFM.out, if_neg (by have := HNN.out h; show ¬ 4 * n - sp ≤ bs4.length; omega)]
           ·cases h)
          clear HGO HNN HRD
          obtain ⟨AF, cF, rfl, hrF⟩ := own_sliceI HO.out
          have HPB := Lib.hid (rpackBytes_any (w := wr) AF k' cF wr.heap.size ys (by omega) hrF (Nat.le_refl _) HY8.out)
          unfold RPackB at HPB
          have hfl : (packM ys).length = (packM ys).length := rfl
          generalize packM ys = fs at *
          have hb39 : b3 < wr.heap.size := HS.out.box.lt
          have hb29 : w.heap.size < wr.heap.size := HS.out.res.lt
          clear hrF HO HY8 hfl
          go_wp2_with fail
          refine HPB.out.mono ?_
          rintro e w10 ⟨g, rfl, hrow, hg, hb10⟩
          have HS13 := Lib.hid (HS.out.below hb10)
          have HRW := Lib.hid (show Reads w10 w10.heap.size 1 (some ⟨g, 0, none⟩) fs.length (u32s fs) from by
           have h := hrow.reads hrow.lt
           rw [u32s_len] at h
           exact h)
          have hg3 : g ≠ b3 := by omega
          have hg2 : g ≠ w.heap.size := by omega
          have hgw : w.heap.size ≤ g := by omega
          clear HPB HS hrow hg hb10 q0 q2 r1
          have y6 := HS13.out.box.frozen 6
          have q6 := HS13.out.box.cell 6
          unfold wrC at q6
          have HS14 := Lib.hid (show OrD L rg w (w10.setCell ⟨b3, 6, none⟩ (.slice (some ⟨g, 0, none⟩) fs.length fs.length)) w.heap.size b3 (wrC ⟨n, fm, sp, c1, s⟩ (.slice (some ⟨g, 0, none⟩) fs.length fs.length) 0) A' c' bs' true from HS13.out.set 6 (.slice (some ⟨g, 0, none⟩) fs.length fs.length))
          have HRX := Lib.hid (reads1 (g := b3) (i := 6) (v := .slice (some ⟨g, 0, none⟩) fs.length fs.length) HRW.out (fun _ a ha => by injection ha with ha; rw [← ha]; exact hg3))
          clear HS13 HRW
          go_upto_region 23 with fail
          generalize w10.setCell ⟨b3, 6, none⟩ (.slice (some ⟨g, 0, none⟩) fs.length fs.length) = W11 at *
          clear q6 y6
          have HR8 := Lib.hid (reads8 (g := w.heap.size) HRX.out (fun _ a ha => by injection ha with ha; rw [← ha]; exact hg2) (.int .i64 n) (.int .i64 fm) (.int .i64 sp) (.int .u32 0) (.int .u32 s) (.int .u32 c1) (.slice (some ⟨g, 0, none⟩) fs.length fs.length) (.int .i64 0))
          clear HRX
          have q0 := HS14.out.box.cell 0
          have q1 := HS14.out.box.cell 1
          have q2 := HS14.out.box.cell 2
          have q3 := HS14.out.box.cell 3
          have q4 := HS14.out.box.cell 4
          have q5 := HS14.out.box.cell 5
          have q6 := HS14.out.box.cell 6
          have q7 := HS14.out.box.cell 7
          unfold wrC at q0 q1 q2 q3 q4 q5 q6 q7
          have z0 := HS14.out.res.frozen 0
          have z1 := HS14.out.res.frozen 1
          have z2 := HS14.out.res.frozen 2
          have z3 := HS14.out.res.frozen 3
          have z4 := HS14.out.res.frozen 4
          have z5 := HS14.out.res.frozen 5
          have z6 := HS14.out.res.frozen 6
          have z7 := HS14.out.res.frozen 7
          have d0 := HS14.out.res.cell 0
          have d1 := HS14.out.res.cell 1
          have d2 := HS14.out.res.cell 2
          have d3 := HS14.out.res.cell 3
          have d4 := HS14.out.res.cell 4
          have d5 := HS14.out.res.cell 5
          have d6 := HS14.out.res.cell 6
          have d7 := HS14.out.res.cell 7
          have r1 := HS14.out.rd.box.cell 1
          obtain ⟨BF, RF, FF⟩ := HS14.out.fin (.int .i64 n) (.int .i64 fm) (.int .i64 sp) (.int .u32 0) (.int .u32 s) (.int .u32 c1) (.slice (some ⟨g, 0, none⟩) fs.length fs.length) (.int .i64 0)
          have HBF := Lib.hid BF
          have HRF := Lib.hid RF
          have HFF := Lib.hid FF
          clear BF RF FF
          go_wp2_with fail
          generalize ((((((((W11.setCell ⟨w.heap.size, 0, none⟩ (.int .i64 (n : Int))).setCell ⟨w.heap.size, 1, none⟩ (.int .i64 (fm : Int))).setCell ⟨w.heap.size, 2, none⟩ (.int .i64 (sp : Int))).setCell ⟨w.heap.size, 3, none⟩ (.int .u32 0)).setCell ⟨w.heap.size, 4, none⟩ (.int .u32 (s : Int))).setCell ⟨w.heap.size, 5, none⟩ (.int .u32 (c1 : Int))).setCell ⟨w.heap.size, 6, none⟩ (.slice (some ⟨g, 0, none⟩) fs.length fs.length)).setCell ⟨w.heap.size, 7, none⟩ (.int .i64 0)) = WF at *
          clear q0 z0 d0 q1 z1 d1 q2 z2 d2 q3 z3 d3 q4 z4 d4 q5 z5 d5 q6 z6 d6 q7 z7 d7
          have f0 := HBF.out.cell 0
          have f1 := HBF.out.cell 1
          have f2 := HBF.out.cell 2
          have f3 := HBF.out.cell 3
          have f4 := HBF.out.cell 4
          have f5 := HBF.out.cell 5
          have f6 := HBF.out.cell 6
          have f7 := HBF.out.cell 7
          refine bodyPost_ret (v := wrV ⟨n, fm, sp, c1, s⟩ (.slice (some ⟨g, 0, none⟩) fs.length fs.length) 0) (by simp [results, Tryz.results52, go_sem, wrV, wrC, f0, f1, f2, f3, f4, f5, f6, f7]) rfl ?_
          exact ⟨_, _, _, _, true, rfl, ⟨⟨n, fm, sp, c1, s⟩, _, _, _, hn65, rfl⟩, HRF.out, HFF.out, fun _ => HEND.out.1 trivial, fun h => by cases h⟩
        | false =>
          obtain ⟨g1, g2, g3⟩ := HGO.out rfl
          have HG1 := Lib.hid (And.intro g1 g2)
          have HBY := Lib.hid (rbyteD_any HS.out.rd hl5)
          clear HNN g1 g2
          go_wp2_with fail
          refine HBY.out.mono ?_
          rintro e w6 ⟨x6, A6, c6, bs6, bad6, rfl, hx6, R6, F6, D6, e6, he6⟩
          have hl6 : bs6.length ≤ 9000000 := by rw [he6, List.length_append] at hl5; omega
          have HS6 := Lib.hid (HS.out.read R6 F6)
          have HO6 := Lib.hid (own_sameI HO.out (fun q hq => F6.same q (HO.out.lt q hq).2 (by have := (HO.out.lt q hq).1; omega)))
          have hW6 : w8.heap.size ≤ w6.heap.size := Nat.le_trans hW8 F6.size
          have HD6 := Lib.hid D6
          clear R6 F6 D6 HS HO hW8 HBY r1 q0 q2 he6 e6
          have HS7 := Lib.hid (HS6.out.below ((Below.refl _ _).alloc (Nat.le_refl _) (.cells #[.int .u8 (x6 : Nat)] 5)))
          have HO7 := Lib.hid (own_sameI (w' := w6.alloc (.cells #[.int .u8 (x6 : Nat)] 5)) HO6.out (fun q hq => ((Below.refl w6.heap.size w6).alloc (Nat.le_refl _) (.cells #[.int .u8 (x6 : Nat)] 5)).block q (HO6.out.lt q hq).2))
          go_wp2_with (at_builtin; refine wpList_append_any _ rfl (.tmp 74) (.tmp 77) _ rfl w8.heap.size 5 i0 _ 1 1 Tryz.underlying22 hi0 hz0 hz1 hz2 rfl (by omega) u6 k' (u8c ys) rfl HO7.out (w6.heap.size + 1) (some ⟨w6.heap.size, 0, none⟩) 1 1 (u8c [x6]) rfl ⟨rfl, fun _ => ⟨_, rfl, by simp, cell_one_new _ _ _⟩⟩ (one_u8c _) (by simp only [maxLen]; omega) (by omega) (by simp; omega) ?_; intro v8 w8' hown8 hg8 hat8; have HS8 := Lib.hid (HS7.out.app hg8 (fun q hq => (HO7.out.lt q hq).1) hw8 hb28 hb38); have HO8 := Lib.hid hown8; have hW8' : w8.heap.size ≤ w8'.heap.size := Nat.le_trans (by simp; omega) hg8.size; clear hown8 hg8 hat8)
          clear HS6 HO6 HS7 HO7
          go_roundw
          case rel =>
           refine ⟨k' + 1, ys ++ [x6], A6, c6, bs6, bad6, by go_num, by omega, HS8.out, by have h := HO8.out; unfold u8c at h ⊢; rw [List.map_append]; exact h, ?_, by simp; omega, ?_, ?_, hW8', hl6⟩
           ·intro y hy
            rcases List.mem_append.1 hy with h | h
            ·exact HY8.out y h
            ·rw [List.mem_singleton.1 h]; exact hx6
           ·intro h
            obtain ⟨_, h1⟩ := HD6.out.1 h
            cases hbs : bs' with
            | nil => rw [hbs] at h1; cases h1
            | cons z t =>
              rw [hbs] at h1
              injection h1 with h1
              injection h1 with h1 h2
              subst h1 h2
              have h3 := HG1.out.2
              rw [hbs] at h3
              have hlt : k' < bs4.length := by have := congrArg List.length h3; simp at this; omega
              have h4 := List.drop_eq_getElem_cons hlt
              rw [← h3] at h4
              injection h4 with h5 h6
              exact ⟨by rw [HG1.out.1, List.take_add_one, List.getElem?_eq_getElem hlt, ← h5]; rfl, h6, by omega⟩
           ·intro h
            cases hbs : bs' with
            | nil =>
              have h3 := HG1.out.2
              rw [hbs] at h3
              have := congrArg List.length h3
              simp at this
              omega
            | cons z t =>
              have := HD6.out.2 rfl (by rw [hbs]; exact ⟨_, rfl⟩)
              rw [h] at this
              cases this
          case measure => simp [intOf]; omega
       ·obtain rfl : k' = m := by omega
        have hd : decide ((k' : Int) < (k' : Int)) = false := by simp
        have hdx : decide ((k' : Int) < 4 * (n : Int) - (sp : Int)) = false := by rw [hmn]; exact hd
        have HEND := Lib.hid (show (bad' = true → rdObj bs = none) ∧ (bad' = false → rdObj bs = some (⟨⟨n, fm, sp, c1, s⟩, packM ys⟩, bs')) from by
         refine ⟨fun h => ?_, fun h => ?_⟩
         ·rw [HRD.out]; unfold rdFs; rw [if_pos HFM.out, if_neg (by have := HNN.out h; show ¬ 4 * n - sp ≤ bs4.length; omega)]
         ·obtain ⟨g1, g2, g3⟩ := HGO.out h; rw [HRD.out]; unfold rdFs; rw [if_pos HFM.out, if_pos (by show 4 * n - sp ≤ bs4.length; omega)]; rw [g1, g2, ← hm])
        clear HGO HNN HRD
        obtain ⟨AF, cF, rfl, hrF⟩ := own_sliceI HO.out
        have HPB := Lib.hid (rpackBytes_any (w := wr) AF k' cF wr.heap.size ys (by omega) hrF (Nat.le_refl _) HY8.out)
        unfold RPackB at HPB
        have hfl : (packM ys).length = (packM ys).length := rfl
        generalize packM ys = fs at *
        have hb39 : b3 < wr.heap.size := HS.out.box.lt
        have hb29 : w.heap.size < wr.heap.size := HS.out.res.lt
        clear hrF HO HY8 hfl
        go_wp2_with fail
        refine HPB.out.mono ?_
        rintro e w10 ⟨g, rfl, hrow, hg, hb10⟩
        have HS13 := Lib.hid (HS.out.below hb10)
        have HRW := Lib.hid (show Reads w10 w10.heap.size 1 (some ⟨g, 0, none⟩) fs.length (u32s fs) from by
         have h := hrow.reads hrow.lt
         rw [u32s_len] at h
         exact h)
        have hg3 : g ≠ b3 := by omega
        have hg2 : g ≠ w.heap.size := by omega
        have hgw : w.heap.size ≤ g := by omega
        clear HPB HS hrow hg hb10 q0 q2 r1
        have y6 := HS13.out.box.frozen 6
        have q6 := HS13.out.box.cell 6
        unfold wrC at q6
        have HS14 := Lib.hid (show OrD L rg w (w10.setCell ⟨b3, 6, none⟩ (.slice (some ⟨g, 0, none⟩) fs.length fs.length)) w.heap.size b3 (wrC ⟨n, fm, sp, c1, s⟩ (.slice (some ⟨g, 0, none⟩) fs.length fs.length) 0) A' c' bs' bad' from HS13.out.set 6 (.slice (some ⟨g, 0, none⟩) fs.length fs.length))
        have HRX := Lib.hid (reads1 (g := b3) (i := 6) (v := .slice (some ⟨g, 0, none⟩) fs.length fs.length) HRW.out (fun _ a ha => by injection ha with ha; rw [← ha]; exact hg3))
        clear HS13 HRW
        go_upto_region 23 with fail
        generalize w10.setCell ⟨b3, 6, none⟩ (.slice (some ⟨g, 0, none⟩) fs.length fs.length) = W11 at *
        clear q6 y6
        have HR8 := Lib.hid (reads8 (g := w.heap.size) HRX.out (fun _ a ha => by injection ha with ha; rw [← ha]; exact hg2) (.int .i64 n) (.int .i64 fm) (.int .i64 sp) (.int .u32 0) (.int .u32 s) (.int .u32 c1) (.slice (some ⟨g, 0, none⟩) fs.length fs.length) (.int .i64 0))
        clear HRX
        have q0 := HS14.out.box.cell 0
        have q1 := HS14.out.box.cell 1
        have q2 := HS14.out.box.cell 2
        have q3 := HS14.out.box.cell 3
        have q4 := HS14.out.box.cell 4
        have q5 := HS14.out.box.cell 5
        have q6 := HS14.out.box.cell 6
        have q7 := HS14.out.box.cell 7
        unfold wrC at q0 q1 q2 q3 q4 q5 q6 q7
        have z0 := HS14.out.res.frozen 0
        have z1 := HS14.out.res.frozen 1
        have z2 := HS14.out.res.frozen 2
        have z3 := HS14.out.res.frozen 3
        have z4 := HS14.out.res.frozen 4
        have z5 := HS14.out.res.frozen 5
        have z6 := HS14.out.res.frozen 6
        have z7 := HS14.out.res.frozen 7
        have d0 := HS14.out.res.cell 0
        have d1 := HS14.out.res.cell 1
        have d2 := HS14.out.res.cell 2
        have d3 := HS14.out.res.cell 3
        have d4 := HS14.out.res.cell 4
        have d5 := HS14.out.res.cell 5
        have d6 := HS14.out.res.cell 6
        have d7 := HS14.out.res.cell 7
        have r1 := HS14.out.rd.box.cell 1
        obtain ⟨BF, RF, FF⟩ := HS14.out.fin (.int .i64 n) (.int .i64 fm) (.int .i64 sp) (.int .u32 0) (.int .u32 s) (.int .u32 c1) (.slice (some ⟨g, 0, none⟩) fs.length fs.length) (.int .i64 0)
        have HBF := Lib.hid BF
        have HRF := Lib.hid RF
        have HFF := Lib.hid FF
        clear BF RF FF
        go_wp2_with fail
        generalize ((((((((W11.setCell ⟨w.heap.size, 0, none⟩ (.int .i64 (n : Int))).setCell ⟨w.heap.size, 1, none⟩ (.int .i64 (fm : Int))).setCell ⟨w.heap.size, 2, none⟩ (.int .i64 (sp : Int))).setCell ⟨w.heap.size, 3, none⟩ (.int .u32 0)).setCell ⟨w.heap.size, 4, none⟩ (.int .u32 (s : Int))).setCell ⟨w.heap.size, 5, none⟩ (.int .u32 (c1 : Int))).setCell ⟨w.heap.size, 6, none⟩ (.slice (some ⟨g, 0, none⟩) fs.length fs.length)).setCell ⟨w.heap.size, 7, none⟩ (.int .i64 0)) = WF at *
        clear q0 z0 d0 q1 z1 d1 q2 z2 d2 q3 z3 d3 q4 z4 d4 q5 z5 d5 q6 z6 d6 q7 z7 d7
        have f0 := HBF.out.cell 0
        have f1 := HBF.out.cell 1
        have f2 := HBF.out.cell 2
        have f3 := HBF.out.cell 3
        have f4 := HBF.out.cell 4
        have f5 := HBF.out.cell 5
        have f6 := HBF.out.cell 6
        have f7 := HBF.out.cell 7
        refine bodyPost_ret (v := wrV ⟨n, fm, sp, c1, s⟩ (.slice (some ⟨g, 0, none⟩) fs.length fs.length) 0) (by simp [results, Tryz.results52, go_sem, wrV, wrC, f0, f1, f2, f3, f4, f5, f6, f7]) rfl ?_
        exact ⟨_, _, _, _, bad', rfl, ⟨⟨n, fm, sp, c1, s⟩, _, _, _, hn65, rfl⟩, HRF.out, HFF.out, HEND.out.1, fun h => ⟨_, HEND.out.2 h, some ⟨g, 0, none⟩, fs.length, rfl, HR8.out, fun a ha => by injection ha with ha; rw [← ha]; exact hgw⟩⟩
     ·have hd2 : ((fm : Int) == 2) = false := by simp; omega
      have HFM := Lib.hid h2
      clear h2
      go_upto_region 25 with fail
      clear q1
      obtain ⟨i0, hi0, hz0, hz1, hz2⟩ := info_parts info_u32
      go_loopw [8] (fun i wr => ∃ (k' : Nat) (fs : List Nat) (vf : Value) (A' : Option Addr) (c' : Nat) (bs' : List Nat) (bad' : Bool), i = .int .i64 k' ∧ k' ≤ n ∧ OrD L rg w wr w.heap.size b3 (wrC ⟨n, fm, sp, c1, s⟩ vf 0) A' c' bs' bad' ∧ wr.ownsRow w8.heap.size 32 1 vf k' (u32s fs) ∧ fs.length = k' ∧ (bad' = false → rdK k' bs4 = some (fs, bs')) ∧ (bad' = true → rdK n bs4 = none) ∧ w8.heap.size ≤ wr.heap.size ∧ bs'.length ≤ 9000000) (fun i _ => n - (intOf i).toNat)
      case atStart => exact ⟨0, [], .slice none 0 0, A4, k4, bs4, false, rfl, Nat.zero_le _, HS10.out, ⟨rfl, .inl ⟨rfl, rfl⟩⟩, rfl, (fun _ => rfl), (fun h => by cases h), Nat.le_refl _, hl4⟩
      case round =>
       clear HS10
       obtain ⟨k', fs, vf, A', c', bs', bad', rfl, hk', S, O, hfl, hgo, hno, hW8, hl5⟩ := hrel
       have HS := Lib.hid S
       have HO := Lib.hid O
       have HGO := Lib.hid hgo
       have HNN := Lib.hid hno
       have HFL := Lib.hid hfl
       have r1 := S.rd.box.cell 1
       have q0 := S.box.cell 0
       unfold wrC at q0
       clear S O hgo hno hfl
       by_cases hkm : k' < n
       ·have hd : decide ((k' : Int) < (n : Int)) = true := by simp; omega
        cases bad' with
        | true =>
          have HEND := Lib.hid (show (true = true → rdObj bs = none) ∧ (true = false → rdObj bs = some (⟨⟨n, fm, sp, c1, s⟩, fs⟩, bs')) from by
           refine ⟨fun h => ?_, fun h => ?_⟩
           ·rw [HRD.out]; unfold rdFs; rw [if_neg HFM.out, HNN.out h]
           ·cases h)
          clear HGO HNN HRD
          obtain ⟨AF, cF, rfl, hrF⟩ := own_sliceI HO.out
          have hneF : 0 < k' → ∀ a, AF = some a → a.block ≠ w.heap.size := fun _ a ha e => by have := (HO.out.lt a.block (by rw [ha]; rfl)).1; omega
          have HR8 := Lib.hid (reads8 (g := w.heap.size) hrF hneF (.int .i64 n) (.int .i64 fm) (.int .i64 sp) (.int .u32 0) (.int .u32 s) (.int .u32 c1) (.slice AF k' cF) (.int .i64 0))
          have HNW := Lib.hid (show ∀ a, AF = some a → w.heap.size ≤ a.block from fun a ha => by have := (HO.out.lt a.block (by rw [ha]; rfl)).1; omega)
          clear hrF HO hneF q0 r1
          have q0 := HS.out.box.cell 0
          have r1 := HS.out.rd.box.cell 1
          unfold wrC at q0
          go_upto_region 28 with fail
          clear q0 r1
          have q0 := HS.out.box.cell 0
          have q1 := HS.out.box.cell 1
          have q2 := HS.out.box.cell 2
          have q3 := HS.out.box.cell 3
          have q4 := HS.out.box.cell 4
          have q5 := HS.out.box.cell 5
          have q6 := HS.out.box.cell 6
          have q7 := HS.out.box.cell 7
          unfold wrC at q0 q1 q2 q3 q4 q5 q6 q7
          have z0 := HS.out.res.frozen 0
          have z1 := HS.out.res.frozen 1
          have z2 := HS.out.res.frozen 2
          have z3 := HS.out.res.frozen 3
          have z4 := HS.out.res.frozen 4
          have z5 := HS.out.res.frozen 5
          have z6 := HS.out.res.frozen 6
          have z7 := HS.out.res.frozen 7
          have d0 := HS.out.res.cell 0
          have d1 := HS.out.res.cell 1
          have d2 := HS.out.res.cell 2
          have d3 := HS.out.res.cell 3
          have d4 := HS.out.res.cell 4
          have d5 := HS.out.res.cell 5
          have d6 := HS.out.res.cell 6
          have d7 := HS.out.res.cell 7
          have r1 := HS.out.rd.box.cell 1
          obtain ⟨BF, RF, FF⟩ := HS.out.fin (.int .i64 n) (.int .i64 fm) (.int .i64 sp) (.int .u32 0) (.int .u32 s) (.int .u32 c1) (.slice AF k' cF) (.int .i64 0)
          have HBF := Lib.hid BF
          have HRF := Lib.hid RF
          have HFF := Lib.hid FF
          clear BF RF FF
          go_wp2_with fail
          generalize ((((((((wr.setCell ⟨w.heap.size, 0, none⟩ (.int .i64 (n : Int))).setCell ⟨w.heap.size, 1, none⟩ (.int .i64 (fm : Int))).setCell ⟨w.heap.size, 2, none⟩ (.int .i64 (sp : Int))).setCell ⟨w.heap.size, 3, none⟩ (.int .u32 0)).setCell ⟨w.heap.size, 4, none⟩ (.int .u32 (s : Int))).setCell ⟨w.heap.size, 5, none⟩ (.int .u32 (c1 : Int))).setCell ⟨w.heap.size, 6, none⟩ (.slice AF k' cF)).setCell ⟨w.heap.size, 7, none⟩ (.int .i64 0)) = WF at *
          clear q0 z0 d0 q1 z1 d1 q2 z2 d2 q3 z3 d3 q4 z4 d4 q5 z5 d5 q6 z6 d6 q7 z7 d7
          have f0 := HBF.out.cell 0
          have f1 := HBF.out.cell 1
          have f2 := HBF.out.cell 2
          have f3 := HBF.out.cell 3
          have f4 := HBF.out.cell 4
          have f5 := HBF.out.cell 5
          have f6 := HBF.out.cell 6
          have f7 := HBF.out.cell 7
          refine bodyPost_ret (v := wrV ⟨n, fm, sp, c1, s⟩ (.slice AF k' cF) 0) (by simp [results, Tryz.results52, go_sem, wrV, wrC, f0, f1, f2, f3, f4, f5, f6, f7]) rfl ?_
          exact ⟨_, _, _, _, true, rfl, ⟨⟨n, fm, sp, c1, s⟩, _, _, _, hn65, rfl⟩, HRF.out, HFF.out, fun _ => HEND.out.1 trivial, fun h => by cases h⟩
        | false =>
          have HK := Lib.hid (HGO.out rfl)
          clear HNN HGO
          go_upto_region 27 with fail
          clear q0 r1
          refine wp_region_U 7 (fun w' => w'.cell? ⟨b3, 6, none⟩ = some vf ∧ True) (by kernel_rfl) ?_
          have hbd : Below wr.heap.size wr wr.drew := ⟨rfl, rfl, rfl, Nat.le_refl _, fun _ _ => rfl⟩
          have HS5 := Lib.hid (HS.out.below hbd)
          have HO5 := Lib.hid (own_sameI HO.out (fun q hq => hbd.block q (HO.out.lt q hq).2))
          have hW5 : w8.heap.size ≤ wr.drew.heap.size := hW8
          clear hbd HS HO hW8
          generalize wr.drew = wq at *
          have hS : wq.cell? ⟨b3, 6, none⟩ = some vf ∧ True := ⟨HS5.out.box.cell 6, trivial⟩
          refine U_read 0 (v := (.pointer (some ⟨b3, 6, none⟩))) rfl (by kernel_rfl) (fun _ _ _ h => h) hS (by rfl) (fun w' hw' => by obtain ⟨h0, h1⟩ := hw'; go_simp) ?_
          try simp only [Act.put, List.setIfInBounds_toArray, List.set_cons_zero, List.set_cons_succ]
          refine U_read 1 (v := vf) rfl (by kernel_rfl) (fun _ _ _ h => h) hS (by rfl) (fun w' hw' => by obtain ⟨h0, h1⟩ := hw'; go_simp) ?_
          try simp only [Act.put, List.setIfInBounds_toArray, List.set_cons_zero, List.set_cons_succ]
          refine U_read 2 (v := (.pointer (some ⟨rg, 0, none⟩))) rfl (by kernel_rfl) (fun _ _ _ h => h) hS (by rfl) (fun w' hw' => by obtain ⟨h0, h1⟩ := hw'; go_simp) ?_
          try simp only [Act.put, List.setIfInBounds_toArray, List.set_cons_zero, List.set_cons_succ]
          refine U_one 3 (by kernel_rfl) rfl rfl (fun K hK => ?_)
          go_simp
          refine (rnumberD_any HS5.out.rd hl5).mono ?_
          rintro e w6 ⟨n6, A6, c6, bs6, bad6, rfl, hn6, R6, F6, D6, e6, he6⟩
          have hl6 : bs6.length ≤ 9000000 := by rw [he6, List.length_append] at hl5; omega
          have HS6 := Lib.hid (HS5.out.read R6 F6)
          have HO6 := Lib.hid (own_sameI HO5.out (fun q hq => F6.same q (HO5.out.lt q hq).2 (by have := (HO5.out.lt q hq).1; omega)))
          have hW6 : w8.heap.size ≤ w6.heap.size := Nat.le_trans hW5 F6.size
          have HD6 := Lib.hid D6
          clear R6 F6 D6 HS5 HO5 hW5
          have hS6 : w6.cell? ⟨b3, 6, none⟩ = some vf ∧ True := ⟨HS6.out.box.cell 6, trivial⟩
          refine hK _ _ (fun _ => hS6) ?_
          clear hK K
          try simp only [Act.put, List.setIfInBounds_toArray, List.set_cons_zero, List.set_cons_succ]
          refine U_one 4 (by kernel_rfl) rfl rfl (fun K hK => ?_)
          go_simp
          have HS7 := Lib.hid (HS6.out.below ((Below.refl _ _).alloc (Nat.le_refl _) (.cells #[.int .u32 (n6 : Nat)] 32)))
          have HO7 := Lib.hid (own_sameI (w' := w6.alloc (.cells #[.int .u32 (n6 : Nat)] 32)) HO6.out (fun q hq => ((Below.refl w6.heap.size w6).alloc (Nat.le_refl _) (.cells #[.int .u32 (n6 : Nat)] 32)).block q (HO6.out.lt q hq).2))
          have hS7 : (w6.alloc (.cells #[.int .u32 (n6 : Nat)] 32)).cell? ⟨b3, 6, none⟩ = some vf ∧ True := ⟨HS7.out.box.cell 6, trivial⟩
          refine hK _ _ (fun _ => hS7) ?_
          clear hK K
          try simp only [Act.put, List.setIfInBounds_toArray, List.set_cons_zero, List.set_cons_succ]
          refine U_one 5 (by kernel_rfl) rfl rfl (fun K hK => ?_)
          refine wp_append_any _ (.tmp 98) (.tmp 101) _ rfl w8.heap.size 32 i0 _ 1 4 Tryz.underlying44 hi0 hz0 hz1 hz2 rfl (by omega) vf k' (u32s fs) rfl HO7.out (w6.heap.size + 1) (some ⟨w6.heap.size, 0, none⟩) 1 1 (u32s [n6]) rfl ⟨rfl, fun _ => ⟨_, rfl, by simp, cell_one_new _ _ _⟩⟩ (one_u32s _) (by simp only [maxLen]; omega) (by omega) (by simp; omega) ?_
          intro v8 w8' hown8 hg8 hat8
          obtain ⟨g8, c8, rfl, -, -, hge8⟩ := Row.of_any hown8 (by omega)
          have hsame : ∀ q, q < w8.heap.size → w8'.heap[q]? = (w6.alloc (.cells #[.int .u32 (n6 : Nat)] 32)).heap[q]? := fun q hq => hg8.block q (by simp; omega) (fun e => by have := (HO7.out.lt q (by first | exact e | exact e.symm)).1; omega)
          have HS8 := Lib.hid (show OrD L rg w w8' w.heap.size b3 (wrC ⟨n, fm, sp, c1, s⟩ vf 0) A6 c6 bs6 bad6 from
           ⟨⟨HS7.out.rd.box.same (hsame rg (by have := HS7.out.hrg; omega)), HS7.out.rd.cap, HS7.out.rd.rd.keep (fun p hp => World.cell?_of_block (hsame p.block (by have := HS7.out.rd.far; have := HS7.out.hrg; omega))), HS7.out.rd.far, HS7.out.rd.b8⟩, ⟨hg8.os.trans HS7.out.fr.os, hg8.tape.trans HS7.out.fr.tape, hg8.output.trans HS7.out.fr.output, Nat.le_trans HS7.out.fr.size hg8.size, fun q hq hne => (hsame q (by omega)).trans (HS7.out.fr.same q hq hne)⟩, HS7.out.res.same (hsame _ hb28), HS7.out.box.same (hsame _ hb38), HS7.out.h2, HS7.out.h3, HS7.out.ne, HS7.out.hrg⟩)
          have HO8 := Lib.hid hown8
          have hW8' : w8.heap.size ≤ w8'.heap.size := Nat.le_trans (by simp; omega) hg8.size
          clear hown8 hg8 hat8 hsame HS6 HO6 HS7 HO7
          have hS8 : w8'.cell? ⟨b3, 6, none⟩ = some vf ∧ True := ⟨HS8.out.box.cell 6, trivial⟩
          have hcu := hS8.1
          have hfz := HS8.out.box.frozen 6
          refine hK _ _ (fun _ => hS8) ?_
          clear hK K
          try simp only [Act.put, List.setIfInBounds_toArray, List.set_cons_zero, List.set_cons_succ]
          refine U_one 6 (by kernel_rfl) rfl rfl (fun K hK => ?_)
          go_simp
          refine hK _ _ (fun _ => hS8) ?_
          clear hK K
          try simp only [Act.put, List.setIfInBounds_toArray, List.set_cons_zero, List.set_cons_succ]
          refine U_one 7 (by kernel_rfl) rfl rfl (fun K hK => ?_)
          go_simp
          refine hK _ _ (fun h => absurd h (by decide)) ?_
          clear hK K
          try simp only [Act.put, List.setIfInBounds_toArray, List.set_cons_zero, List.set_cons_succ]
          refine U_done (by kernel_rfl) ?_ _
          simp only [Calm, Exit.then]
          have HS9 := Lib.hid (show OrD L rg w (w8'.setCell ⟨b3, 6, none⟩ (.slice (some ⟨g8, 0, none⟩) (k' + 1) c8)) w.heap.size b3 (wrC ⟨n, fm, sp, c1, s⟩ (.slice (some ⟨g8, 0, none⟩) (k' + 1) c8) 0) A6 c6 bs6 bad6 from HS8.out.set 6 (.slice (some ⟨g8, 0, none⟩) (k' + 1) c8))
          have HO9 := Lib.hid (own_sameI (w' := w8'.setCell ⟨b3, 6, none⟩ (.slice (some ⟨g8, 0, none⟩) (k' + 1) c8)) HO8.out (fun q hq => Below.heap_setCell w8' ⟨b3, 6, none⟩ (.slice (some ⟨g8, 0, none⟩) (k' + 1) c8) q (by show q ≠ b3; have := (HO8.out.lt q hq).1; omega)))
          have hW9 : w8.heap.size ≤ (w8'.setCell ⟨b3, 6, none⟩ (.slice (some ⟨g8, 0, none⟩) (k' + 1) c8)).heap.size := by simp [World.setCell]; exact hW8'
          clear HS8 HO8 hW8' hS hS6 hS7 hS8 hcu hfz
          generalize w8'.setCell ⟨b3, 6, none⟩ (.slice (some ⟨g8, 0, none⟩) (k' + 1) c8) = W9 at *
          go_wp2_with fail
          go_roundw
          case rel =>
           refine ⟨k' + 1, fs ++ [n6], _, A6, c6, bs6, bad6, by go_num, by omega, HS9.out, by have h := HO9.out; unfold u32s at h ⊢; rw [List.map_append]; exact h, by rw [List.length_append, HFL.out]; rfl, ?_, ?_, hW9, hl6⟩
           ·intro h
            have hnum := (HD6.out.1 h).2
            have h2 := rdK_snoc _ _ _ _ HK.out
            rw [hnum] at h2
            exact h2
           ·intro h
            have h1 : rdNum bs' = none := by
             cases hh : rdNum bs' with
             | none => rfl
             | some q => have := HD6.out.2 rfl ⟨q, hh⟩; rw [h] at this; cases this
            have h2 := rdK_snoc _ _ _ _ HK.out
            rw [h1] at h2
            exact rdK_stop n (k' + 1) bs4 h2 (by omega)
          case measure => simp [intOf]; omega
       ·obtain rfl : n = k' := by omega
        have hd : decide ((n : Int) < (n : Int)) = false := by simp
        have HEND := Lib.hid (show (bad' = true → rdObj bs = none) ∧ (bad' = false → rdObj bs = some (⟨⟨n, fm, sp, c1, s⟩, fs⟩, bs')) from by
         refine ⟨fun h => ?_, fun h => ?_⟩
         ·rw [HRD.out]; unfold rdFs; rw [if_neg HFM.out, HNN.out h]
         ·rw [HRD.out]; unfold rdFs; rw [if_neg HFM.out]; rw [show rdK (⟨n, fm, sp, c1, s⟩ : Hd).size bs4 = some (fs, bs') from HGO.out h])
        clear HGO HNN HRD
        obtain ⟨AF, cF, rfl, hrF⟩ := own_sliceI HO.out
        have hneF : 0 < n → ∀ a, AF = some a → a.block ≠ w.heap.size := fun _ a ha e => by have := (HO.out.lt a.block (by rw [ha]; rfl)).1; omega
        have HR8 := Lib.hid (reads8 (g := w.heap.size) hrF hneF (.int .i64 n) (.int .i64 fm) (.int .i64 sp) (.int .u32 0) (.int .u32 s) (.int .u32 c1) (.slice AF n cF) (.int .i64 0))
        have HNW := Lib.hid (show ∀ a, AF = some a → w.heap.size ≤ a.block from fun a ha => by have := (HO.out.lt a.block (by rw [ha]; rfl)).1; omega)
        clear hrF HO hneF q0 r1
        have q0 := HS.out.box.cell 0
        have r1 := HS.out.rd.box.cell 1
        unfold wrC at q0
        go_upto_region 28 with fail
        clear q0 r1
        have q0 := HS.out.box.cell 0
        have q1 := HS.out.box.cell 1
        have q2 := HS.out.box.cell 2
        have q3 := HS.out.box.cell 3
        have q4 := HS.out.box.cell 4
        have q5 := HS.out.box.cell 5
        have q6 := HS.out.box.cell 6
        have q7 := HS.out.box.cell 7
        unfold wrC at q0 q1 q2 q3 q4 q5 q6 q7
        have z0 := HS.out.res.frozen 0
        have z1 := HS.out.res.frozen 1
        have z2 := HS.out.res.frozen 2
        have z3 := HS.out.res.frozen 3
        have z4 := HS.out.res.frozen 4
        have z5 := HS.out.res.frozen 5
        have z6 := HS.out.res.frozen 6
        have z7 := HS.out.res.frozen 7
        have d0 := HS.out.res.cell 0
        have d1 := HS.out.res.cell 1
        have d2 := HS.out.res.cell 2
        have d3 := HS.out.res.cell 3
        have d4 := HS.out.res.cell 4
        have d5 := HS.out.res.cell 5
        have d6 := HS.out.res.cell 6
        have d7 := HS.out.res.cell 7
        have r1 := HS.out.rd.box.cell 1
        obtain ⟨BF, RF, FF⟩ := HS.out.fin (.int .i64 n) (.int .i64 fm) (.int .i64 sp) (.int .u32 0) (.int .u32 s) (.int .u32 c1) (.slice AF n cF) (.int .i64 0)
        have HBF := Lib.hid BF
        have HRF := Lib.hid RF
        have HFF := Lib.hid FF
        clear BF RF FF
        go_wp2_with fail
        generalize ((((((((wr.setCell ⟨w.heap.size, 0, none⟩ (.int .i64 (n : Int))).setCell ⟨w.heap.size, 1, none⟩ (.int .i64 (fm : Int))).setCell ⟨w.heap.size, 2, none⟩ (.int .i64 (sp : Int))).setCell ⟨w.heap.size, 3, none⟩ (.int .u32 0)).setCell ⟨w.heap.size, 4, none⟩ (.int .u32 (s : Int))).setCell ⟨w.heap.size, 5, none⟩ (.int .u32 (c1 : Int))).setCell ⟨w.heap.size, 6, none⟩ (.slice AF n cF)).setCell ⟨w.heap.size, 7, none⟩ (.int .i64 0)) = WF at *
        clear q0 z0 d0 q1 z1 d1 q2 z2 d2 q3 z3 d3 q4 z4 d4 q5 z5 d5 q6 z6 d6 q7 z7 d7
        have f0 := HBF.out.cell 0
        have f1 := HBF.out.cell 1
        have f2 := HBF.out.cell 2
        have f3 := HBF.out.cell 3
        have f4 := HBF.out.cell 4
        have f5 := HBF.out.cell 5
        have f6 := HBF.out.cell 6
        have f7 := HBF.out.cell 7
        refine bodyPost_ret (v := wrV ⟨n, fm, sp, c1, s⟩ (.slice AF n cF) 0) (by simp [results, Tryz.results52, go_sem, wrV, wrC, f0, f1, f2, f3, f4, f5, f6, f7]) rfl ?_
        exact ⟨_, _, _, _, bad', rfl, ⟨⟨n, fm, sp, c1, s⟩, _, _, _, hn65, rfl⟩, HRF.out, HFF.out, HEND.out.1, fun h => ⟨_, HEND.out.2 h, AF, cF, by rw [HFL.out], by rw [HFL.out]; exact HR8.out, fun a ha => HNW.out a ha⟩⟩
  ·have hno : okB ⟨n, fm, sp, c1, s⟩ = false := by simpa using hok
   rw [hno]
   have HNO := Lib.hid (show rdObj bs = none from rdObj_no (by
    cases d4 with
    | true => exact HD4.out.1 rfl
    | false => rw [HD4.out.2 rfl, hno]; rfl))
   have y1 := HS10.out.rd.box.frozen 1
   have q1 := HS10.out.rd.box.cell 1
   have HS11 := Lib.hid (HS10.out.bad_)
   clear HS10 HD4 hno hok
   go_upto_region 14 with fail
   generalize w8.setCell ⟨rg, 1, none⟩ (.bool true) = W9 at *
   clear y1 q1
   have r1 := HS11.out.rd.box.cell 1
   go_upto_region 15 with fail
   clear r1
   have q0 := HS11.out.box.cell 0
   have q1 := HS11.out.box.cell 1
   have q2 := HS11.out.box.cell 2
   have q3 := HS11.out.box.cell 3
   have q4 := HS11.out.box.cell 4
   have q5 := HS11.out.box.cell 5
   have q6 := HS11.out.box.cell 6
   have q7 := HS11.out.box.cell 7
   unfold wrC at q0 q1 q2 q3 q4 q5 q6 q7
   have z0 := HS11.out.res.frozen 0
   have z1 := HS11.out.res.frozen 1
   have z2 := HS11.out.res.frozen 2
   have z3 := HS11.out.res.frozen 3
   have z4 := HS11.out.res.frozen 4
   have z5 := HS11.out.res.frozen 5
   have z6 := HS11.out.res.frozen 6
   have z7 := HS11.out.res.frozen 7
   have d0 := HS11.out.res.cell 0
   have d1 := HS11.out.res.cell 1
   have d2 := HS11.out.res.cell 2
   have d3 := HS11.out.res.cell 3
   have d4 := HS11.out.res.cell 4
   have d5 := HS11.out.res.cell 5
   have d6 := HS11.out.res.cell 6
   have d7 := HS11.out.res.cell 7
   have r1 := HS11.out.rd.box.cell 1
   obtain ⟨BF, RF, FF⟩ := HS11.out.fin (.int .i64 n) (.int .i64 fm) (.int .i64 sp) (.int .u32 0) (.int .u32 s) (.int .u32 c1) (.slice none 0 0) (.int .i64 0)
   have HBF := Lib.hid BF
   have HRF := Lib.hid RF
   have HFF := Lib.hid FF
   clear BF RF FF
   go_wp2_with fail
   generalize ((((((((W9.setCell ⟨w.heap.size, 0, none⟩ (.int .i64 (n : Int))).setCell ⟨w.heap.size, 1, none⟩ (.int .i64 (fm : Int))).setCell ⟨w.heap.size, 2, none⟩ (.int .i64 (sp : Int))).setCell ⟨w.heap.size, 3, none⟩ (.int .u32 0)).setCell ⟨w.heap.size, 4, none⟩ (.int .u32 (s : Int))).setCell ⟨w.heap.size, 5, none⟩ (.int .u32 (c1 : Int))).setCell ⟨w.heap.size, 6, none⟩ (.slice none 0 0)).setCell ⟨w.heap.size, 7, none⟩ (.int .i64 0)) = WF at *
   clear q0 z0 d0 q1 z1 d1 q2 z2 d2 q3 z3 d3 q4 z4 d4 q5 z5 d5 q6 z6 d6 q7 z7 d7
   have f0 := HBF.out.cell 0
   have f1 := HBF.out.cell 1
   have f2 := HBF.out.cell 2
   have f3 := HBF.out.cell 3
   have f4 := HBF.out.cell 4
   have f5 := HBF.out.cell 5
   have f6 := HBF.out.cell 6
   have f7 := HBF.out.cell 7
   refine bodyPost_ret (v := wrV ⟨n, fm, sp, c1, s⟩ (.slice none 0 0) 0) (by simp [results, Tryz.results52, go_sem, wrV, wrC, f0, f1, f2, f3, f4, f5, f6, f7]) rfl ?_
   exact ⟨_, _, _, _, true, rfl, ⟨⟨n, fm, sp, c1, s⟩, _, _, _, hn65, rfl⟩, HRF.out, HFF.out, fun _ => HNO.out, fun h => by cases h⟩
end
end Go.Proofs.YthadjmhipckelaaGreatDoor
