import Derived.Test.YthadjmhipckelaaGreatDoorJIObjS
import Derived.Test.YthadjmhipckelaaGreatDoorJUntil
import Derived.Laws.EntriesVeiled
set_option linter.unusedVariables false
set_option linter.unusedSimpArgs false
namespace Go.Proofs.YthadjmhipckelaaGreatDoor
section
open Go.RowKit
attribute [local go_sem] Oper.semAt_some
def rdV (ver : Nat) (last : Nat) (vw vr : Value) : Value := .agg #[.int .i64 ver, .int .i64 0, .int .u32 last, vw, vr]
def LayP (g : Nat) (i : Img) (size : Nat) (w : World) (e : Ending) (w' : World) : Prop :=
 Fr1 g w w' ∧ (if size < placeT i.ts then e = .returned (.tuple #[rdV 0 0 (.slice none 0 0) (.slice none 0 0), .int .i64 4])
  else if i.wrong = true then e = .returned (.tuple #[rdV 0 0 (.slice none 0 0) (.slice none 0 0), .int .i64 145])
  else ∃ (A1 A2 : Option Addr) (c1 c2 : Nat), e = .returned (.tuple #[rdV 2 i.last (.slice A1 i.words.length c1) (.slice A2 i.roots.length c2), .int .i64 0]) ∧
   Reads w' w'.heap.size 1 A1 i.words.length (u32s i.words) ∧ Reads w' w'.heap.size 1 A2 i.roots.length (u32s i.roots) ∧ ∀ a, A1 = some a ∨ A2 = some a → w.heap.size ≤ a.block)
theorem placeT_bound {ts : List Th} (h : ∀ t ∈ ts, t.x.size ≤ 65535) : placeT ts ≤ 1 + ts.length * 65538 := by
 induction ts with
 | nil => simp [placeT]
 | cons a ts ih =>
   have h1 := h a (by simp)
   have h2 := ih (fun t ht => h t (by simp [ht]))
   unfold placeT at *
   simp only [List.map_cons, List.sum_cons, List.length_cons] at *
   omega
theorem words_place (ts l : List Th) (h : ∀ t ∈ l, t.Ok) : (0 :: wsOf (l.map (obOf ts))).length = placeT l := by
 induction l with
 | nil => rfl
 | cons t l ih =>
   have h1 := ih (fun x hx => h x (by simp [hx]))
   have h2 := (h t (by simp)).size
   have h3 : (obOf ts t).fs.length = t.fs.length := by unfold obOf; simp only; split <;> simp
   unfold placeT at *
   rw [List.map_cons, wsOf_cons, List.length_cons, List.length_append, Ob.ws_len, h3, List.map_cons, List.sum_cons]
   rw [List.length_cons] at h1
   omega
theorem frm5 {w W : World} {rg g : Nat} (h : Fr1 rg W w) (hB : W.heap.size ≤ g) (a' b' c' d' e' : Value) : Fr1 rg W (((((w.setCell ⟨g, 0, none⟩ a').setCell ⟨g, 1, none⟩ b').setCell ⟨g, 2, none⟩ c').setCell ⟨g, 3, none⟩ d').setCell ⟨g, 4, none⟩ e') := by
 have h1 : ∀ (V : World) (i : Nat) (v : Value), Fr1 rg W V → Fr1 rg W (V.setCell ⟨g, i, none⟩ v) := fun V i v F => ⟨F.os, F.tape, F.output, by have := F.size; simp [World.setCell]; exact this, fun k hk hne => (Below.heap_setCell V ⟨g, i, none⟩ v k (by show k ≠ g; omega)).trans (F.same k hk hne)⟩
 exact h1 _ _ _ (h1 _ _ _ (h1 _ _ _ (h1 _ _ _ (h1 _ _ _ h))))
theorem below5 {w W : World} {B g : Nat} (h : Below B W w) (hB : B ≤ g) (a' b' c' d' e' : Value) : Below B W (((((w.setCell ⟨g, 0, none⟩ a').setCell ⟨g, 1, none⟩ b').setCell ⟨g, 2, none⟩ c').setCell ⟨g, 3, none⟩ d').setCell ⟨g, 4, none⟩ e') :=
 ((((h.setCell (p := ⟨g, 0, none⟩) hB a').setCell (p := ⟨g, 1, none⟩) hB b').setCell (p := ⟨g, 2, none⟩) hB c').setCell (p := ⟨g, 3, none⟩) hB d').setCell (p := ⟨g, 4, none⟩) hB e'
set_option maxRecDepth 100000 in
set_option maxHeartbeats 8000000 in
theorem ilay_any {w : World} {Bg g c nr cr last size : Nat} {A Ar : Option Addr} {us : List Wr} {rts : List Nat} (hs : Spares w) (hsp : 0 < Bg) (hB : Bg ≤ g) (hg : g < w.heap.size) (hA : 0 < us.length → A = some ⟨g, 0, none⟩ ∧ Wrs w g us) (hlen : us.length ≤ 9000000)
 (hok : ∀ t ∈ us.map Wr.th, t.Ok) (hfl : WrB w w.heap.size g us) (hr : Reads w w.heap.size 1 Ar nr (u32s rts)) (hrg : ∀ a, Ar = some a → a.block ≠ g) (hr32 : ∀ r ∈ rts, r < 4294967296) (hnr : nr = 64) (hsize : size ≤ 1048576) (hlast : last < 4294967296) :
 Calls Tryz.prog 70 #[rdV 2 last (.slice none 0 0) (.slice none 0 0), .slice A us.length c, .slice Ar nr cr, .int .i64 size] w (LayP g ⟨us.map Wr.th, rts, last⟩ size w) := by
 have hbd : ∀ k, placeT ((us.map Wr.th).take k) ≤ 600000000000 := fun k => by
  have := placeT_bound (ts := (us.map Wr.th).take k) (fun t ht => by
   have hm := (hok t (List.mem_of_mem_take ht)).may
   unfold Hd.may at hm; simp at hm; omega)
  rw [List.length_take, List.length_map] at this
  have h2 : min k us.length * 65538 ≤ 9000000 * 65538 := Nat.mul_le_mul_right _ (by omega)
  omega
 have HOK := Lib.hid hok
 have HFL := Lib.hid hfl
 have HRR := Lib.hid hr
 have HRG := Lib.hid hrg
 have HR32 := Lib.hid hr32
 clear hok hfl hr hrg hr32
 unfold rdV
 go_enter Tryz.func70, Tryz.ntmps70
 go_wp2_with fail
 have b4 := ((Blk.new w 47 #[.int .i64 ((2 : Nat) : Int), .int .i64 0, .int .u32 last, .slice none 0 0, .slice none 0 0]).alloc (.cells #[.slice A us.length c] 130)).alloc (.cells #[.int .i64 0, .int .i64 0, .int .u32 0, .slice none 0 0, .slice none 0 0] 47)
 have b5 := (Blk.new (w.alloc (.cells #[.int .i64 ((2 : Nat) : Int), .int .i64 0, .int .u32 last, .slice none 0 0, .slice none 0 0] 47)) 130 #[.slice A us.length c]).alloc (.cells #[.int .i64 0, .int .i64 0, .int .u32 0, .slice none 0 0, .slice none 0 0] 47)
 have b8 := Blk.new ((w.alloc (.cells #[.int .i64 ((2 : Nat) : Int), .int .i64 0, .int .u32 last, .slice none 0 0, .slice none 0 0] 47)).alloc (.cells #[.slice A us.length c] 130)) 47 #[.int .i64 0, .int .i64 0, .int .u32 0, .slice none 0 0, .slice none 0 0]
 rw [World.size_alloc] at b5
 rw [World.size_alloc, World.size_alloc] at b8
 have hb0 : Below w.heap.size w (((w.alloc (.cells #[.int .i64 ((2 : Nat) : Int), .int .i64 0, .int .u32 last, .slice none 0 0, .slice none 0 0] 47)).alloc (.cells #[.slice A us.length c] 130)).alloc (.cells #[.int .i64 0, .int .i64 0, .int .u32 0, .slice none 0 0, .slice none 0 0] 47)) :=
  (((Below.refl _ w).alloc (Nat.le_refl _) _).alloc (by simp) _).alloc (by simp; omega) _
 have hsz : (((w.alloc (.cells #[.int .i64 ((2 : Nat) : Int), .int .i64 0, .int .u32 last, .slice none 0 0, .slice none 0 0] 47)).alloc (.cells #[.slice A us.length c] 130)).alloc (.cells #[.int .i64 0, .int .i64 0, .int .u32 0, .slice none 0 0, .slice none 0 0] 47)).heap.size = w.heap.size + 3 := by simp
 have HW := Lib.hid (fun h => (hA h).2.same (hb0.block g hg))
 have HB0 := Lib.hid hb0
 have HB4 := Lib.hid b4
 have HB5 := Lib.hid b5
 have HB8 := Lib.hid b8
 have HA := Lib.hid (fun h => (hA h).1)
 clear b4 b5 b8 hb0 hA
 generalize (((w.alloc (.cells #[.int .i64 ((2 : Nat) : Int), .int .i64 0, .int .u32 last, .slice none 0 0, .slice none 0 0] 47)).alloc (.cells #[.slice A us.length c] 130)).alloc (.cells #[.int .i64 0, .int .i64 0, .int .u32 0, .slice none 0 0, .slice none 0 0] 47)) = W0 at *
 go_loopw [10, 25] (fun a i wr => ∃ k : Nat, i = .int .i64 k ∧ k ≤ us.length ∧ a = .int .i64 (placeT ((us.map Wr.th).take k) : Nat) ∧ Fr1 g W0 wr ∧ (0 < us.length → Wrs wr g (usK us k))) (fun _ i _ => us.length - (intOf i).toNat)
 case atStart => exact ⟨0, rfl, Nat.zero_le _, rfl, Fr1.refl _ _, fun h => by rw [usK_zero]; exact HW.out h⟩
 case round =>
  clear HW
  obtain ⟨k, rfl, hk, rfl, F, hW⟩ := hrel
  have HF := Lib.hid F
  have n5 : w.heap.size + 1 ≠ g := by omega
  have q5 := (HB5.out.fr1 F n5).cell 0
  by_cases hkn : k < us.length
  ·have hd : decide ((k : Int) < (us.length : Int)) = true := by simp; omega
   have hkni : (k : Int) < (us.length : Int) := by omega
   have HWk := Lib.hid (hW (by omega))
   have hA0 := HA.out (by omega)
   subst hA0
   have hbk := hbd k
   have hpc := HWk.out.cell (i := k) (j := 7) (u := .int .i64 ((usK us k).getD k default).pl) (by rw [usK_len]; exact hkn) (by omega) rfl
   have hpz := HWk.out.frozen (k * 8 + 7)
   have HW1 := Lib.hid (show Wrs (wr.setCell ⟨g, k * 8 + 7, none⟩ (.int .i64 (placeT ((us.map Wr.th).take k) : Nat))) g (usK us (k + 1)) from by
    have h := HWk.out.place k (by rw [usK_len]; exact hkn) (placeT ((us.map Wr.th).take k))
    rw [usK_set us k hkn] at h
    exact h)
   have HF1 := Lib.hid (HF.out.trans (Fr1.set g (k * 8 + 7) wr (.int .i64 (placeT ((us.map Wr.th).take k) : Nat))))
   have HPL := Lib.hid (show placeT ((us.map Wr.th).take (k + 1)) = placeT ((us.map Wr.th).take k) + (3 + (us.getD k default).x.size) from by
    rw [List.take_add_one, List.getElem?_map, List.getElem?_eq_getElem hkn]
    simp only [Option.map_some, Option.toList_some, placeT_snoc]
    rw [List.getD_eq_getElem?_getD, List.getElem?_eq_getElem hkn]
    rfl)
   have hsx : (us.getD k default).x.size ≤ 65535 := by
    have hm := (HOK.out (us.getD k default).th (by rw [List.getD_eq_getElem?_getD, List.getElem?_eq_getElem hkn]; exact List.mem_map_of_mem (List.getElem_mem hkn))).may
    have hm2 : (us.getD k default).x.may = true := hm
    unfold Hd.may at hm2; simp only [Bool.and_eq_true, Bool.or_eq_true, decide_eq_true_eq] at hm2; omega
   clear F HWk hW HF
   generalize placeT ((us.map Wr.th).take k) = at_ at *
   go_upto_region 6 with fail
   generalize wr.setCell ⟨g, k * 8 + 7, none⟩ (.int .i64 (at_ : Int)) = W1 at *
   clear q5 hpc hpz
   have q5 := (HB5.out.fr1 HF1.out n5).cell 0
   have hsc : W1.cell? ⟨g, k * 8, none⟩ = some (.int .i64 (us.getD k default).x.size) := HW1.out.cell (i := k) (j := 0) (u := .int .i64 (us.getD k default).x.size) (by rw [usK_len]; exact hkn) (by omega) (by rw [usK_get us (k + 1) k hkn, if_pos (by omega)]; rfl)
   generalize (us.getD k default).x.size = sx at *
   go_wp2_with fail
   go_roundw
   case rel => exact ⟨k + 1, by go_num, by omega, by rw [HPL.out]; go_num, HF1.out, fun _ => HW1.out⟩
   case measure => simp [intOf]; omega
  ·obtain rfl : k = us.length := by omega
   have hd : decide ((us.length : Int) < (us.length : Int)) = false := by simp
   have hul : (us.map Wr.th).take us.length = us.map Wr.th := List.take_of_length_le (by simp)
   have HWf := Lib.hid hW
   have HF00 := Lib.hid (show Fr1 g w wr from (Fr1.of_below HB0.out).trans HF.out)
   have HF0 := Lib.hid (show Below Bg w wr from ⟨HF.out.os.trans HB0.out.os, HF.out.tape.trans HB0.out.tape, HF.out.output.trans HB0.out.output, Nat.le_trans HB0.out.size HF.out.size, fun k hk => (HF.out.same k (by omega) (by omega)).trans (HB0.out.block k (by omega))⟩)
   have hbt := hbd us.length
   rw [hul] at hbt
   rw [hul]
   have HZ8 := Lib.hid (HB8.out.fr1 HF.out (by omega))
   clear hW F hk hkn
   by_cases hbig : size < placeT (us.map Wr.th)
   ·have hdb : decide ((size : Int) < ((placeT (us.map Wr.th) : Nat) : Int)) = true := decide_eq_true (by omega)
    have hbi : (size : Int) < ((placeT (us.map Wr.th) : Nat) : Int) := by omega
    have HBG := Lib.hid hbig
    clear hbig
    have z0 := HZ8.out.frozen 0
    have z1 := HZ8.out.frozen 1
    have z2 := HZ8.out.frozen 2
    have z3 := HZ8.out.frozen 3
    have z4 := HZ8.out.frozen 4
    have d0 := HZ8.out.cell 0
    have d1 := HZ8.out.cell 1
    have d2 := HZ8.out.cell 2
    have d3 := HZ8.out.cell 3
    have d4 := HZ8.out.cell 4
    have HZ5 := Lib.hid (HZ8.out.setAll5 (.int .i64 0) (.int .i64 0) (.int .u32 0) (.slice none 0 0) (.slice none 0 0))
    have HFB := Lib.hid (frm5 HF00.out (g := w.heap.size + 1 + 1) (by omega) (.int .i64 0) (.int .i64 0) (.int .u32 0) (.slice none 0 0) (.slice none 0 0))
    go_wp2_with fail
    generalize (((((wr.setCell ⟨w.heap.size + 1 + 1, 0, none⟩ (.int .i64 0)).setCell ⟨w.heap.size + 1 + 1, 1, none⟩ (.int .i64 0)).setCell ⟨w.heap.size + 1 + 1, 2, none⟩ (.int .u32 0)).setCell ⟨w.heap.size + 1 + 1, 3, none⟩ (.slice none 0 0)).setCell ⟨w.heap.size + 1 + 1, 4, none⟩ (.slice none 0 0)) = WF at *
    clear z0 d0 z1 d1 z2 d2 z3 d3 z4 d4
    have f0 := HZ5.out.cell 0
    have f1 := HZ5.out.cell 1
    have f2 := HZ5.out.cell 2
    have f3 := HZ5.out.cell 3
    have f4 := HZ5.out.cell 4
    refine bodyPost_ret (v := .tuple #[.agg #[.int .i64 0, .int .i64 0, .int .u32 0, .slice none 0 0, .slice none 0 0], .int .i64 4]) (by simp [results, Tryz.results70, go_sem, f0, f1, f2, f3, f4]) rfl ?_
    exact ⟨HFB.out, by show (if size < placeT (us.map Wr.th) then _ else _); rw [if_pos HBG.out]; rfl⟩
   ·have hdb : decide ((size : Int) < ((placeT (us.map Wr.th) : Nat) : Int)) = false := decide_eq_false (by omega)
    have hbi : ¬ (size : Int) < ((placeT (us.map Wr.th) : Nat) : Int) := by omega
    go_upto_region 13 with fail
    have hbe : placeT (us.map Wr.th) ≤ size := by omega
    have HBG := Lib.hid hbig
    have HPLC := Lib.hid (show ∀ i, i < (usK us us.length).length → ((usK us us.length).getD i default).pl = placeT ((us.map Wr.th).take i) from fun i hi => by
     rw [usK_len] at hi
     rw [usK_get us _ i hi, if_pos hi])
    have HKL := Lib.hid (usK_len us us.length)
    have HKT := Lib.hid (usK_th us us.length)
    have HFK := Lib.hid ((HFL.out.usK us.length).keep (w' := wr) (fun k h1 h2 => (HF.out.same k (by omega) h2).trans (HB0.out.block k h1)))
    have HU4 := Lib.hid (HB4.out.fr1 HF.out (show w.heap.size ≠ g by omega))
    have HU5 := Lib.hid (HB5.out.fr1 HF.out n5)
    have hwr : w.heap.size + 3 ≤ wr.heap.size := by have := HF.out.size; omega
    have HSM := Lib.hid (show ∀ t ∈ us.map Wr.th, t.Ok from HOK.out)
    have HKP := Lib.hid (show ∀ k, k < w.heap.size → k ≠ g → wr.heap[k]? = w.heap[k]? from fun k h1 h2 => (HF.out.same k (by omega) h2).trans (HB0.out.block k h1))
    clear HFL HB4 HB5 HB8 HB0 HF HOK hbd hul hbig q5 n5 hd
    generalize usK us us.length = uf at *
    generalize us.map Wr.th = ts at *
    generalize us.length = n at *
    obtain rfl : uf.length = n := HKL.out
    clear HKL
    obtain rfl := HKT.out
    have hl9 := hlen
    have HA0 := HA
    clear HKT HA hlen
    have hb2 : Below wr.heap.size wr ((wr.alloc (.cells #[.bool true] 4)).alloc (.cells #[.func (.func 95) #[] #[.pointer (some ⟨w.heap.size + 1, 0, none⟩), .pointer (some ⟨wr.heap.size, 0, none⟩)]] 161)) :=
     ((Below.refl _ wr).alloc (Nat.le_refl _) _).alloc (by simp) _
    have bcl := Blk.new (wr.alloc (.cells #[.bool true] 4)) 161 #[.func (.func 95) #[] #[.pointer (some ⟨w.heap.size + 1, 0, none⟩), .pointer (some ⟨wr.heap.size, 0, none⟩)]]
    rw [World.size_alloc] at bcl
    have hsz2 : ((wr.alloc (.cells #[.bool true] 4)).alloc (.cells #[.func (.func 95) #[] #[.pointer (some ⟨w.heap.size + 1, 0, none⟩), .pointer (some ⟨wr.heap.size, 0, none⟩)]] 161)).heap.size = wr.heap.size + 2 := by simp
    have S0 : LaySt Bg w ((wr.alloc (.cells #[.bool true] 4)).alloc (.cells #[.func (.func 95) #[] #[.pointer (some ⟨w.heap.size + 1, 0, none⟩), .pointer (some ⟨wr.heap.size, 0, none⟩)]] 161)) w.heap.size (w.heap.size + 1) wr.heap.size (wr.heap.size + 1) (w.heap.size + 1 + 1) g A c uf last true (wr.heap.size + 2) (.slice none 0 0) [] (.slice none 0 0) [] :=
     ⟨⟨⟨HU5.out.below hb2 HU5.out.lt, (Blk.new wr 4 #[.bool true]).alloc _, fun h0 => ⟨g, HA0.out h0, (HWf.out h0).below hb2⟩, HPLC.out, by omega, hl9⟩, bcl⟩, HU4.out.below hb2 HU4.out.lt, HZ8.out.below hb2 HZ8.out.lt, ⟨rfl, .inl ⟨rfl, rfl⟩⟩, ⟨rfl, .inl ⟨rfl, rfl⟩⟩, ⟨hb2.os.trans HF0.out.os, hb2.tape.trans HF0.out.tape, hb2.output.trans HF0.out.output, Nat.le_trans HF0.out.size hb2.size, fun k hk => (hb2.block k (by omega)).trans (HF0.out.block k hk)⟩, HFK.out.keep (fun k h1 _ => hb2.block k (by omega)), by omega, by omega, by omega, by omega, by omega, hg, hB, HA0.out, by omega, by omega, fun k h1 h2 => (hb2.block k (by omega)).trans (HKP.out k h1 h2)⟩
    have HS0 := Lib.hid S0
    clear S0 hb2 bcl hsz2 HU4 HU5 HZ8 HWf HFK HF0 HPLC
    generalize ((wr.alloc (.cells #[.bool true] 4)).alloc (.cells #[.func (.func 95) #[] #[.pointer (some ⟨w.heap.size + 1, 0, none⟩), .pointer (some ⟨wr.heap.size, 0, none⟩)]] 161)) = W2 at *
    have hga : W2.grownBy (W2.alloc (.cells #[.int .u32 0] 32)) (none : Option Nat) := ⟨rfl, rfl, rfl, by simp, fun k hk _ => Below.heap_alloc W2 _ k hk⟩
    have HS3 := Lib.hid (HS0.out.appW (w' := W2.alloc (.cells #[.int .u32 0] 32)) (v' := .slice (some ⟨W2.heap.size, 0, none⟩) 1 1) (ys := [0]) (m := 1) rfl ⟨rfl, .inr ⟨W2.heap.size, 1, _, rfl, HS0.out.top, heap_alloc_new W2 _, by decide, by decide, rfl, rfl⟩⟩ hga)
    have q3 := (HS0.out.room hga).cell 3
    have y3 := (HS0.out.room hga).frozen 3
    clear HS0 hga
    go_upto_region 14 with fail
    generalize (W2.alloc (.cells #[.int .u32 0] 32)).setCell ⟨w.heap.size, 3, none⟩ (.slice (some ⟨W2.heap.size, 0, none⟩) 1 1) = W3 at *
    have HW0 := Lib.hid (show Spares w ∧ 0 < Bg from ⟨hs, hsp⟩)
    clear q3 y3 hs hsp hwr hsz
    generalize wr.heap.size + 1 = b13 at *
    generalize wr.heap.size + 2 = Bw at *
    generalize wr.heap.size = bf at *
    generalize hvw : Value.slice (some ⟨W2.heap.size, 0, none⟩) 1 1 = vw0 at *
    clear hvw
    have q5 := HS3.out.v.b.objs.cell 0
    have hlu : uf.length ≤ 9000000 := hl9
    have HLW := Lib.hid (show ∀ k, (0 :: wsOf (((uf.map Wr.th).take k).map (obOf (uf.map Wr.th)))).length ≤ 1048576 from fun k => by
     have h1 := words_place (uf.map Wr.th) ((uf.map Wr.th).take k) (fun t ht => HSM.out t (List.mem_of_mem_take ht))
     have h2 := placeT_le (uf.map Wr.th) k
     omega)
    go_wp2_with fail
    go_loopw [53] (fun i wr => ∃ (k : Nat) (vw : Value), i = .int .i64 k ∧ k ≤ uf.length ∧ LaySt Bg w wr w.heap.size (w.heap.size + 1) bf b13 (w.heap.size + 1 + 1) g A c uf last (!(((uf.map Wr.th).take k).any (wrongT (uf.map Wr.th)))) Bw vw (0 :: wsOf (((uf.map Wr.th).take k).map (obOf (uf.map Wr.th)))) (.slice none 0 0) []) (fun i _ => uf.length - (intOf i).toNat)
    case atStart => exact ⟨0, vw0, rfl, Nat.zero_le _, HS3.out⟩
    case round =>
     clear HS3 q5
     obtain ⟨k, vw, rfl, hk, S⟩ := hrel
     have HS := Lib.hid S
     clear S
     by_cases hkn : k < uf.length
     ·have hd : decide ((k : Int) < (uf.length : Int)) = true := by simp; omega
      have hkni : (k : Int) < (uf.length : Int) := by omega
      have hmem : uf.getD k default ∈ uf := by rw [List.getD_eq_getElem?_getD, List.getElem?_eq_getElem hkn]; exact List.getElem_mem hkn
      have hA1 := HS.out.eg (by omega)
      subst hA1
      obtain ⟨g', hg', hrow⟩ := HS.out.v.b.row (by omega)
      injection hg' with hg'
      injection hg' with hg'
      subst hg'
      have p0 : wr.cell? ⟨g, k * 8, none⟩ = _ := hrow.cell (i := k) (j := 0) (u := .int .i64 (uf.getD k default).x.size) hkn (by omega) rfl
      have p1 := hrow.cell (i := k) (j := 1) (u := .int .i64 (uf.getD k default).x.fmt) hkn (by omega) rfl
      have p2 := hrow.cell (i := k) (j := 2) (u := .int .i64 (uf.getD k default).x.spare) hkn (by omega) rfl
      have p3 := hrow.cell (i := k) (j := 3) (u := .int .u32 0) hkn (by omega) rfl
      have p4 := hrow.cell (i := k) (j := 4) (u := .int .u32 (uf.getD k default).x.ser) hkn (by omega) rfl
      have p5 := hrow.cell (i := k) (j := 5) (u := .int .u32 (uf.getD k default).x.cls) hkn (by omega) rfl
      have p6 := hrow.cell (i := k) (j := 6) (u := .slice (uf.getD k default).A (uf.getD k default).fs.length (uf.getD k default).c) hkn (by omega) rfl
      have p7 := hrow.cell (i := k) (j := 7) (u := .int .i64 (uf.getD k default).pl) hkn (by omega) rfl
      have HUO := Lib.hid (HSM.out (uf.getD k default).th (List.mem_map_of_mem hmem))
      have HTK := Lib.hid (show (uf.map Wr.th).take (k + 1) = (uf.map Wr.th).take k ++ [(uf.getD k default).th] from by
       rw [List.take_add_one, List.getElem?_map, List.getElem?_eq_getElem hkn, List.getD_eq_getElem?_getD, List.getElem?_eq_getElem hkn]
       rfl)
      have HUF := Lib.hid (fun (wr' : World) (h : WrB wr' w.heap.size g uf) => h _ hmem)
      clear hrow hmem
      generalize uf.getD k default = u at *
      obtain ⟨⟨sx, fx, px, cx, rx⟩, uA, uc, ufs, upl⟩ := u
      simp only at p0 p1 p2 p4 p5 p6 p7
      go_upto_region 17 with fail
      have HS5 := Lib.hid (HS.out.below ((Below.refl _ _).alloc (Nat.le_refl _) (.cells #[.int .i64 sx, .int .i64 fx, .int .i64 px, .int .u32 0, .int .u32 rx, .int .u32 cx, .slice uA ufs.length uc, .int .i64 upl] 132)))
      have HO5 := Lib.hid (Blk.new wr 132 #[.int .i64 sx, .int .i64 fx, .int .i64 px, .int .u32 0, .int .u32 rx, .int .u32 cx, .slice uA ufs.length uc, .int .i64 upl])
      have hbB : Bw ≤ wr.heap.size := HS.out.top
      clear HS p0 p1 p2 p3 p4 p5 p6 p7
      generalize wr.alloc (.cells #[.int .i64 sx, .int .i64 fx, .int .i64 px, .int .u32 0, .int .u32 rx, .int .u32 cx, .slice uA ufs.length uc, .int .i64 upl] 132) = W5 at *
      generalize wr.heap.size = b16 at *
      have c13 := HS5.out.v.cl.cell 0
      have o5 := HO5.out.cell 5
      have hcx : cx < 4294967296 := HUO.out.fit.cls
      have HNM := Lib.hid (laynamed_any HS5.out.v.b cx hcx)
      go_wp2_with fail
      refine HNM.out.mono ?_
      rintro e w6 ⟨rfl, hf6, F6⟩
      have HS6 := Lib.hid (HS5.out.fineS hf6 F6)
      have HO6 := Lib.hid (HS5.out.oFine HO5.out F6)
      have hcl : namedT (uf.map Wr.th) cx < 4294967296 := namedT_lt _ _
      obtain ⟨cl, hclE⟩ : ∃ cl, cl = namedT (uf.map Wr.th) cx := ⟨_, rfl⟩
      have HCL := Lib.hid hclE
      rw [← hclE] at hcl ⊢
      have o3 := HO6.out.cell 3
      have y3 := HO6.out.frozen 3
      have HS7 := Lib.hid (HS6.out.oSet HO6.out hbB 3 (.int .u32 (cl : Nat)))
      have HO7 := Lib.hid (HO6.out.set_ 3 (.int .u32 (cl : Nat)))
      clear HNM hf6 F6 HS5 HO5 c13 o5 HS6 HO6 hclE
      go_upto_region 18 with fail
      generalize w6.setCell ⟨b16, 3, none⟩ (.int .u32 (cl : Int)) = W7 at *
      have o0 := HO7.out.cell 0
      have o1 := HO7.out.cell 1
      have o2 := HO7.out.cell 2
      have o3' := HO7.out.cell 3
      have o4 := HO7.out.cell 4
      clear o3 y3
      have hfit : (⟨sx, fx, px, cl, rx⟩ : Hd).Fit := ⟨HUO.out.fit.size, HUO.out.fit.fmt, HUO.out.fit.spare, hcl, HUO.out.fit.ser⟩
      have HPK := Lib.hid (Pack_any ⟨sx, fx, px, cl, rx⟩ hfit HUO.out.may W7 (fun i hi => (World.cell?_of_block (a := ⟨0, i, none⟩) (HS7.out.fr.block _ HW0.out.2)).trans (HW0.out.1 i hi)))
      go_wp2_with fail
      refine HPK.out.mono ?_
      rintro e w8 ⟨rfl, hb8⟩
      rw [show (⟨sx, fx, px, cl, rx⟩ : Hd).packed = .agg #[.int .u32 (⟨sx, fx, px, cl, rx⟩ : Hd).w0, .int .u32 (cl : Nat), .int .u32 (rx : Nat)] from rfl]
      obtain ⟨wz, hwz⟩ : ∃ wz, wz = (⟨sx, fx, px, cl, rx⟩ : Hd).w0 := ⟨_, rfl⟩
      have HWZ := Lib.hid hwz
      rw [← hwz]
      have HS9 := Lib.hid ((HS7.out.below hb8).below ((Below.refl _ _).alloc (Nat.le_refl _) (.cells #[.int .u32 (wz : Nat), .int .u32 (cl : Nat), .int .u32 (rx : Nat)] 107)))
      have HO9 := Lib.hid ((HO7.out.below hb8 HO7.out.lt).alloc (.cells #[.int .u32 (wz : Nat), .int .u32 (cl : Nat), .int .u32 (rx : Nat)] 107))
      have HB9 := Lib.hid (Blk.new w8 107 #[.int .u32 (wz : Nat), .int .u32 (cl : Nat), .int .u32 (rx : Nat)])
      have HWE := Lib.hid (show ∀ fs', (obOf (uf.map Wr.th) ⟨⟨sx, fx, px, cx, rx⟩, ufs⟩).fs = fs' → 0 :: wsOf (((uf.map Wr.th).take (k + 1)).map (obOf (uf.map Wr.th))) = (0 :: wsOf (((uf.map Wr.th).take k).map (obOf (uf.map Wr.th)))) ++ [wz, cl, rx] ++ fs' from fun fs' hfs => by
       rw [HTK.out, List.map_append, wsOf_app, ← hfs, hwz, HCL.out]
       simp only [List.map_cons, List.map_nil, wsOf_cons, wsOf_nil, List.append_nil, List.cons_append, List.append_assoc, List.nil_append]
       rfl)
      have HFE2 := Lib.hid (show ∀ b, wrongT (uf.map Wr.th) ⟨⟨sx, fx, px, cx, rx⟩, ufs⟩ = (wrongN (uf.map Wr.th) cx || b) → (!(((uf.map Wr.th).take (k + 1)).any (wrongT (uf.map Wr.th)))) = ((!(((uf.map Wr.th).take k).any (wrongT (uf.map Wr.th))) && !wrongN (uf.map Wr.th) cx) && !b) from fun b hb => by
       rw [HTK.out, List.any_append]
       simp only [List.any_cons, List.any_nil, Bool.or_false]
       rw [show wrongT (uf.map Wr.th) (Wr.th ⟨⟨sx, fx, px, cx, rx⟩, uA, uc, ufs, upl⟩) = (wrongN (uf.map Wr.th) cx || b) from hb]
       cases ((uf.map Wr.th).take k).any (wrongT (uf.map Wr.th)) <;> cases wrongN (uf.map Wr.th) cx <;> cases b <;> rfl)
      have hl0 : (0 :: wsOf (((uf.map Wr.th).take k).map (obOf (uf.map Wr.th)))).length ≤ 1048576 := HLW.out k
      clear HPK HS7 HO7 hb8 o0 o1 o2 o3' o4 hwz hfit HTK
      generalize (0 :: wsOf (((uf.map Wr.th).take k).map (obOf (uf.map Wr.th)))) = ws0 at *
      generalize ((!(((uf.map Wr.th).take k).any (wrongT (uf.map Wr.th)))) && !wrongN (uf.map Wr.th) cx) = fb2 at *
      go_upto_region 19 with fail
      generalize w8.alloc (.cells #[.int .u32 (wz : Int), .int .u32 (cl : Int), .int .u32 (rx : Int)] 107) = W9 at *
      generalize w8.heap.size = b17 at *
      refine wp_region_U 5 (fun w' => w'.cell? ⟨w.heap.size, 3, none⟩ = some vw ∧ True) (by kernel_rfl) ?_
      have hbd : Below W9.heap.size W9 W9.drew := ⟨rfl, rfl, rfl, Nat.le_refl _, fun _ _ => rfl⟩
      have HSq := Lib.hid (HS9.out.below hbd)
      have HOq := Lib.hid (HO9.out.below hbd HO9.out.lt)
      have HBq := Lib.hid (HB9.out.below hbd HB9.out.lt)
      clear hbd HS9 HO9 HB9
      generalize W9.drew = wq at *
      have hS : wq.cell? ⟨w.heap.size, 3, none⟩ = some vw ∧ True := ⟨HSq.out.box.cell 3, trivial⟩
      obtain ⟨i0, hi0, hz0, hz1, hz2⟩ := info_parts info_u32
      refine U_read 0 (v := (.pointer (some ⟨w.heap.size, 3, none⟩))) rfl (by kernel_rfl) (fun _ _ _ h => h) hS (by rfl) (fun w' hw' => by obtain ⟨h0, h1⟩ := hw'; go_simp) ?_
      try simp only [Act.put, List.setIfInBounds_toArray, List.set_cons_zero, List.set_cons_succ]
      refine U_read 1 (v := vw) rfl (by kernel_rfl) (fun _ _ _ h => h) hS (by rfl) (fun w' hw' => by obtain ⟨h0, h1⟩ := hw'; go_simp) ?_
      try simp only [Act.put, List.setIfInBounds_toArray, List.set_cons_zero, List.set_cons_succ]
      refine U_read 2 (v := (.slice (some ⟨b17, 0, none⟩) 3 3)) rfl (by kernel_rfl) (fun _ _ _ h => h) hS (by rfl) (fun w' hw' => by obtain ⟨h0, h1⟩ := hw'; go_simp) ?_
      try simp only [Act.put, List.setIfInBounds_toArray, List.set_cons_zero, List.set_cons_succ]
      refine U_one 3 (by kernel_rfl) rfl rfl (fun K hK => ?_)
      have hrd3 : Reads wq wq.heap.size 1 (some ⟨b17, 0, none⟩) 3 (u32s [wz, cl, rx]) := ⟨rfl, fun _ => ⟨_, rfl, HBq.out.lt, fun jj v hv => by
       rw [WideShapes.add_plain, Nat.zero_add]
       refine (HBq.out.cell jj).trans ?_
       rw [← hv]
       simp [u32s]⟩⟩
      refine wp_append_any _ (.tmp 70) (.tmp 71) _ rfl Bw 32 i0 _ 1 4 Tryz.underlying44 hi0 hz0 hz1 hz2 rfl (by omega) vw ws0.length (u32s ws0) rfl HSq.out.wo wq.heap.size (some ⟨b17, 0, none⟩) 3 3 (u32s [wz, cl, rx]) rfl hrd3 (one_u32s _) (by simp only [maxLen]; omega) (by omega) HSq.out.top ?_
      intro v10 w10 hown10 hg10 hat10
      obtain ⟨g10, c10, rfl, -, -, -⟩ := Row.of_any hown10 (by omega)
      have HS11 := Lib.hid (HSq.out.appW (ys := [wz, cl, rx]) rfl hown10 hg10)
      have HO11 := Lib.hid (HSq.out.oAppW (v' := .slice (some ⟨g10, 0, none⟩) (ws0.length + 3) c10) HOq.out hg10)
      have hcu := (HSq.out.room hg10).cell 3
      have hfz := (HSq.out.room hg10).frozen 3
      have hS10 : w10.cell? ⟨w.heap.size, 3, none⟩ = some vw ∧ True := ⟨hcu, trivial⟩
      clear hown10 hg10 hat10 hrd3 HSq HOq HBq
      refine hK _ _ (fun _ => hS10) ?_
      clear hK K
      try simp only [Act.put, List.setIfInBounds_toArray, List.set_cons_zero, List.set_cons_succ]
      refine U_one 4 (by kernel_rfl) rfl rfl (fun K hK => ?_)
      go_simp
      refine hK _ _ (fun _ => hS10) ?_
      clear hK K
      try simp only [Act.put, List.setIfInBounds_toArray, List.set_cons_zero, List.set_cons_succ]
      refine U_one 5 (by kernel_rfl) rfl rfl (fun K hK => ?_)
      go_simp
      refine hK _ _ (fun h => absurd h (by decide)) ?_
      clear hK K
      try simp only [Act.put, List.setIfInBounds_toArray, List.set_cons_zero, List.set_cons_succ]
      refine U_done (by kernel_rfl) ?_ _
      simp only [Calm, Exit.then]
      clear hS hS10 hcu hfz
      generalize w10.setCell ⟨w.heap.size, 3, none⟩ (.slice (some ⟨g10, 0, none⟩) (ws0.length + 3) c10) = W12 at *
      have HS12 := HS11
      have HO12 := Lib.hid (show Blk W12 b16 132 #[.int .i64 sx, .int .i64 fx, .int .i64 px, .int .u32 cl, .int .u32 rx, .int .u32 cx, .slice uA ufs.length uc, .int .i64 upl] from HO11.out)
      clear HS11 HO11
      have o6 := HO12.out.cell 6
      have HWL := Lib.hid (show (ws0 ++ [wz, cl, rx]).length ≤ 1048579 ∧ ufs.length ≤ 65535 from by
       have h1 := HUO.out.size
       have h2 : ufs.length = sx := h1
       have h3 := HUO.out.may
       have h4 : (⟨sx, fx, px, cx, rx⟩ : Hd).may = true := h3
       unfold Hd.may at h4
       simp only [Bool.and_eq_true, Bool.or_eq_true, decide_eq_true_eq] at h4
       rw [List.length_append]
       simp only [List.length_cons, List.length_nil]
       omega)
      generalize ws0 ++ [wz, cl, rx] = ws1 at *
      have hufl : ufs.length ≤ 65535 := HWL.out.2
      by_cases hf1 : fx = 1
      ·have hd1 : ((fx : Int) == 1) = true := by simp; omega
       have HFX := Lib.hid hf1
       clear hf1
       go_wp2_with fail
       clear o6
       go_loopw [20, 77] (fun _ i wr => ∃ (j : Nat) (vw : Value), i = .int .i64 j ∧ j ≤ ufs.length ∧ LaySt Bg w wr w.heap.size (w.heap.size + 1) bf b13 (w.heap.size + 1 + 1) g (some ⟨g, 0, none⟩) c uf last (fb2 && !((ufs.take j).any (wrongV (uf.map Wr.th)))) Bw vw (ws1 ++ (ufs.take j).map (valT (uf.map Wr.th))) (.slice none 0 0) [] ∧ Blk wr b16 132 #[.int .i64 sx, .int .i64 fx, .int .i64 px, .int .u32 cl, .int .u32 rx, .int .u32 cx, .slice uA ufs.length uc, .int .i64 upl]) (fun _ i _ => ufs.length - (intOf i).toNat)
       case atStart => exact ⟨0, _, rfl, Nat.zero_le _, by simpa using HS12.out, HO12.out⟩
       case round =>
        clear HS12 HO12
        obtain ⟨j, vw, rfl, hj, S, O⟩ := hrel
        have HS := Lib.hid S
        have HO := Lib.hid O
        by_cases hjn : j < ufs.length
        ·have hd2 : decide ((j : Int) < (ufs.length : Int)) = true := by simp; omega
         have hjni : (j : Int) < (ufs.length : Int) := by omega
         obtain ⟨ad, v0, hA2, -, hv0, hcj⟩ := (HUF.out wr S.flds).1.at_ hjn
         rw [u32s_get hjn] at hv0
         injection hv0 with hv0
         subst hv0 hA2
         have hf32 : ufs.getD j 0 < 4294967296 := by rw [List.getD_eq_getElem?_getD, List.getElem?_eq_getElem hjn]; exact HUO.out.f32 _ (List.getElem_mem hjn)
         have HTJ := Lib.hid (show (ufs.take (j + 1)).map (valT (uf.map Wr.th)) = (ufs.take j).map (valT (uf.map Wr.th)) ++ [valT (uf.map Wr.th) (ufs.getD j 0)] from by rw [List.take_add_one, List.getElem?_eq_getElem hjn, List.map_append, List.getD_eq_getElem?_getD, List.getElem?_eq_getElem hjn]; rfl)
         have HFJ := Lib.hid (show (ufs.take (j + 1)).any (wrongV (uf.map Wr.th)) = ((ufs.take j).any (wrongV (uf.map Wr.th)) || wrongV (uf.map Wr.th) (ufs.getD j 0)) from by rw [List.take_add_one, List.getElem?_eq_getElem hjn, List.any_append, List.getD_eq_getElem?_getD, List.getElem?_eq_getElem hjn]; simp)
         have o1 := O.cell 1
         have o6 := O.cell 6
         have hwl : ((ws1 ++ (ufs.take j).map (valT (uf.map Wr.th))).length) ≤ 9000000 := by have := HWL.out; simp only [List.length_append, List.length_map, List.length_take]; omega
         clear S O
         generalize ufs.getD j 0 = f at *
         generalize (ufs.take j).map (valT (uf.map Wr.th)) = pk at *
         generalize (ufs.take j).any (wrongV (uf.map Wr.th)) = fbj at *
         have HVC := Lib.hid (layvalue_any HS.out.v f hf32)
         go_wp2_with fail
         refine HVC.out.mono ?_
         rintro e w13 ⟨rfl, hf13, F13⟩
         have HS13 := Lib.hid (HS.out.fineS hf13 F13)
         have HO13 := Lib.hid (HS.out.oFine HO.out F13)
         have hv32 := valT_lt (uf.map Wr.th) f
         have HFE := Lib.hid (show (fb2 && !fbj && !wrongV (uf.map Wr.th) f) = (fb2 && !(fbj || wrongV (uf.map Wr.th) f)) from by cases fb2 <;> cases fbj <;> cases wrongV (uf.map Wr.th) f <;> rfl)
         have hS13 := HS13.out
         rw [HFE.out] at hS13
         have HS14 := Lib.hid hS13
         clear HVC hf13 F13 HS HO hcj o1 o6 HS13 hS13 HFE
         generalize valT (uf.map Wr.th) f = y at *
         have q3 := HS14.out.box.cell 3
         have HSA := Lib.hid (HS14.out.below ((Below.refl _ _).alloc (Nat.le_refl _) (.cells #[.int .u32 (y : Nat)] 32)))
         have HOA := Lib.hid (HO13.out.below ((Below.refl _ _).alloc (Nat.le_refl _) (.cells #[.int .u32 (y : Nat)] 32)) HO13.out.lt)
         obtain ⟨nl, hnl⟩ : ∃ n, n = (ws1 ++ pk).length := ⟨_, rfl⟩
         have HWO := Lib.hid (show World.ownsRow _ Bw 32 1 vw nl (u32s (ws1 ++ pk)) from by rw [hnl]; exact HSA.out.wo)
         have HNL := Lib.hid hnl
         have hnb : nl ≤ 9000000 := by rw [hnl]; exact hwl
         clear hnl hwl
         go_wp2_with (at_builtin; refine wpList_append_any _ rfl (.tmp 95) (.tmp 97) _ rfl Bw 32 i0 _ 1 4 Tryz.underlying44 hi0 hz0 hz1 hz2 rfl (by omega) vw nl (u32s (ws1 ++ pk)) rfl HWO.out (w13.heap.size + 1) (some ⟨w13.heap.size, 0, none⟩) 1 1 (u32s [y]) rfl ⟨rfl, fun _ => ⟨_, rfl, by simp, cell_one_new _ _ _⟩⟩ (one_u32s _) (by simp only [maxLen]; omega) (by omega) (HSA.out.top) ?_; intro v15 w15 hown15 hg15 hat15; obtain ⟨g15, c15, rfl, -, -, -⟩ := Row.of_any hown15 (by omega); have HS15 := Lib.hid (HSA.out.appW (ys := [y]) rfl (by rw [← HNL.out]; exact hown15) hg15); have HO15 := Lib.hid (HSA.out.oAppW (v' := .slice (some ⟨g15, 0, none⟩) (nl + 1) c15) HOA.out hg15); have hfz := (HSA.out.room hg15).frozen 3; have hcu := (HSA.out.room hg15).cell 3; clear hown15 hg15 hat15 HSA HOA q3)
         go_roundw
         case rel => exact ⟨j + 1, _, by go_num, by omega, by rw [HTJ.out, HFJ.out, ← List.append_assoc]; exact HS15.out, HO15.out⟩
         case measure => simp [intOf]; omega
        ·obtain rfl : j = ufs.length := by omega
         have hd2 : decide ((ufs.length : Int) < (ufs.length : Int)) = false := by simp
         have hS := HS.out
         rw [List.take_length] at hS
         have HSE := Lib.hid (show LaySt Bg w wr w.heap.size (w.heap.size + 1) bf b13 (w.heap.size + 1 + 1) g (some ⟨g, 0, none⟩) c uf last (!(((uf.map Wr.th).take (k + 1)).any (wrongT (uf.map Wr.th)))) Bw vw (0 :: wsOf (((uf.map Wr.th).take (k + 1)).map (obOf (uf.map Wr.th)))) (.slice none 0 0) [] from by
          have e1 := HWE.out (ufs.map (valT (uf.map Wr.th))) (by unfold obOf; rw [if_pos (by show Hd.ptrT ⟨sx, fx, px, cx, rx⟩ = true; unfold Hd.ptrT; simp [HFX.out])])
          have e2 := HFE2.out (ufs.any (wrongV (uf.map Wr.th))) (by unfold wrongT; rw [show (⟨⟨sx, fx, px, cx, rx⟩, ufs⟩ : Th).x.ptrT = true by show Hd.ptrT ⟨sx, fx, px, cx, rx⟩ = true; unfold Hd.ptrT; simp [HFX.out]]; simp)
          rw [e1, e2]
          exact hS
         )
         clear hS HS HO hj hjn S O
         go_wp2_with fail
         go_roundw
         case rel => exact ⟨k + 1, vw, by go_num, by omega, HSE.out⟩
         case measure => simp [intOf]; omega
      ·have hd1 : ((fx : Int) == 1) = false := by simp; omega
       by_cases hf4 : fx = 4
       ·have hd4 : ((fx : Int) == 4) = true := by simp; omega
        have HFX := Lib.hid hf4
        clear hf1 hf4
        go_wp2_with fail
        clear o6
        go_loopw [20, 77] (fun _ i wr => ∃ (j : Nat) (vw : Value), i = .int .i64 j ∧ j ≤ ufs.length ∧ LaySt Bg w wr w.heap.size (w.heap.size + 1) bf b13 (w.heap.size + 1 + 1) g (some ⟨g, 0, none⟩) c uf last (fb2 && !((ufs.take j).any (wrongV (uf.map Wr.th)))) Bw vw (ws1 ++ (ufs.take j).map (valT (uf.map Wr.th))) (.slice none 0 0) [] ∧ Blk wr b16 132 #[.int .i64 sx, .int .i64 fx, .int .i64 px, .int .u32 cl, .int .u32 rx, .int .u32 cx, .slice uA ufs.length uc, .int .i64 upl]) (fun _ i _ => ufs.length - (intOf i).toNat)
        case atStart => exact ⟨0, _, rfl, Nat.zero_le _, by simpa using HS12.out, HO12.out⟩
        case round =>
         clear HS12 HO12
         obtain ⟨j, vw, rfl, hj, S, O⟩ := hrel
         have HS := Lib.hid S
         have HO := Lib.hid O
         by_cases hjn : j < ufs.length
         ·have hd2 : decide ((j : Int) < (ufs.length : Int)) = true := by simp; omega
          have hjni : (j : Int) < (ufs.length : Int) := by omega
          obtain ⟨ad, v0, hA2, -, hv0, hcj⟩ := (HUF.out wr S.flds).1.at_ hjn
          rw [u32s_get hjn] at hv0
          injection hv0 with hv0
          subst hv0 hA2
          have hf32 : ufs.getD j 0 < 4294967296 := by rw [List.getD_eq_getElem?_getD, List.getElem?_eq_getElem hjn]; exact HUO.out.f32 _ (List.getElem_mem hjn)
          have HTJ := Lib.hid (show (ufs.take (j + 1)).map (valT (uf.map Wr.th)) = (ufs.take j).map (valT (uf.map Wr.th)) ++ [valT (uf.map Wr.th) (ufs.getD j 0)] from by rw [List.take_add_one, List.getElem?_eq_getElem hjn, List.map_append, List.getD_eq_getElem?_getD, List.getElem?_eq_getElem hjn]; rfl)
          have HFJ := Lib.hid (show (ufs.take (j + 1)).any (wrongV (uf.map Wr.th)) = ((ufs.take j).any (wrongV (uf.map Wr.th)) || wrongV (uf.map Wr.th) (ufs.getD j 0)) from by rw [List.take_add_one, List.getElem?_eq_getElem hjn, List.any_append, List.getD_eq_getElem?_getD, List.getElem?_eq_getElem hjn]; simp)
          have o1 := O.cell 1
          have o6 := O.cell 6
          have hwl : ((ws1 ++ (ufs.take j).map (valT (uf.map Wr.th))).length) ≤ 9000000 := by have := HWL.out; simp only [List.length_append, List.length_map, List.length_take]; omega
          clear S O
          generalize ufs.getD j 0 = f at *
          generalize (ufs.take j).map (valT (uf.map Wr.th)) = pk at *
          generalize (ufs.take j).any (wrongV (uf.map Wr.th)) = fbj at *
          have HVC := Lib.hid (layvalue_any HS.out.v f hf32)
          go_wp2_with fail
          refine HVC.out.mono ?_
          rintro e w13 ⟨rfl, hf13, F13⟩
          have HS13 := Lib.hid (HS.out.fineS hf13 F13)
          have HO13 := Lib.hid (HS.out.oFine HO.out F13)
          have hv32 := valT_lt (uf.map Wr.th) f
          have HFE := Lib.hid (show (fb2 && !fbj && !wrongV (uf.map Wr.th) f) = (fb2 && !(fbj || wrongV (uf.map Wr.th) f)) from by cases fb2 <;> cases fbj <;> cases wrongV (uf.map Wr.th) f <;> rfl)
          have hS13 := HS13.out
          rw [HFE.out] at hS13
          have HS14 := Lib.hid hS13
          clear HVC hf13 F13 HS HO hcj o1 o6 HS13 hS13 HFE
          generalize valT (uf.map Wr.th) f = y at *
          have q3 := HS14.out.box.cell 3
          have HSA := Lib.hid (HS14.out.below ((Below.refl _ _).alloc (Nat.le_refl _) (.cells #[.int .u32 (y : Nat)] 32)))
          have HOA := Lib.hid (HO13.out.below ((Below.refl _ _).alloc (Nat.le_refl _) (.cells #[.int .u32 (y : Nat)] 32)) HO13.out.lt)
          obtain ⟨nl, hnl⟩ : ∃ n, n = (ws1 ++ pk).length := ⟨_, rfl⟩
          have HWO := Lib.hid (show World.ownsRow _ Bw 32 1 vw nl (u32s (ws1 ++ pk)) from by rw [hnl]; exact HSA.out.wo)
          have HNL := Lib.hid hnl
          have hnb : nl ≤ 9000000 := by rw [hnl]; exact hwl
          clear hnl hwl
          go_wp2_with (at_builtin; refine wpList_append_any _ rfl (.tmp 95) (.tmp 97) _ rfl Bw 32 i0 _ 1 4 Tryz.underlying44 hi0 hz0 hz1 hz2 rfl (by omega) vw nl (u32s (ws1 ++ pk)) rfl HWO.out (w13.heap.size + 1) (some ⟨w13.heap.size, 0, none⟩) 1 1 (u32s [y]) rfl ⟨rfl, fun _ => ⟨_, rfl, by simp, cell_one_new _ _ _⟩⟩ (one_u32s _) (by simp only [maxLen]; omega) (by omega) (HSA.out.top) ?_; intro v15 w15 hown15 hg15 hat15; obtain ⟨g15, c15, rfl, -, -, -⟩ := Row.of_any hown15 (by omega); have HS15 := Lib.hid (HSA.out.appW (ys := [y]) rfl (by rw [← HNL.out]; exact hown15) hg15); have HO15 := Lib.hid (HSA.out.oAppW (v' := .slice (some ⟨g15, 0, none⟩) (nl + 1) c15) HOA.out hg15); have hfz := (HSA.out.room hg15).frozen 3; have hcu := (HSA.out.room hg15).cell 3; clear hown15 hg15 hat15 HSA HOA q3)
          go_roundw
          case rel => exact ⟨j + 1, _, by go_num, by omega, by rw [HTJ.out, HFJ.out, ← List.append_assoc]; exact HS15.out, HO15.out⟩
          case measure => simp [intOf]; omega
         ·obtain rfl : j = ufs.length := by omega
          have hd2 : decide ((ufs.length : Int) < (ufs.length : Int)) = false := by simp
          have hS := HS.out
          rw [List.take_length] at hS
          have HSE := Lib.hid (show LaySt Bg w wr w.heap.size (w.heap.size + 1) bf b13 (w.heap.size + 1 + 1) g (some ⟨g, 0, none⟩) c uf last (!(((uf.map Wr.th).take (k + 1)).any (wrongT (uf.map Wr.th)))) Bw vw (0 :: wsOf (((uf.map Wr.th).take (k + 1)).map (obOf (uf.map Wr.th)))) (.slice none 0 0) [] from by
           have e1 := HWE.out (ufs.map (valT (uf.map Wr.th))) (by unfold obOf; rw [if_pos (by show Hd.ptrT ⟨sx, fx, px, cx, rx⟩ = true; unfold Hd.ptrT; simp [HFX.out])])
           have e2 := HFE2.out (ufs.any (wrongV (uf.map Wr.th))) (by unfold wrongT; rw [show (⟨⟨sx, fx, px, cx, rx⟩, ufs⟩ : Th).x.ptrT = true by show Hd.ptrT ⟨sx, fx, px, cx, rx⟩ = true; unfold Hd.ptrT; simp [HFX.out]]; simp)
           rw [e1, e2]
           exact hS
          )
          clear hS HS HO hj hjn S O
          go_wp2_with fail
          go_roundw
          case rel => exact ⟨k + 1, vw, by go_num, by omega, HSE.out⟩
          case measure => simp [intOf]; omega
       ·have hd4 : ((fx : Int) == 4) = false := by simp; omega
        have HFX := Lib.hid (And.intro hf1 hf4)
        clear hf1 hf4
        go_wp2_with fail
        clear o6
        go_loopw [20, 77] (fun _ i wr => ∃ (j : Nat) (vw : Value), i = .int .i64 j ∧ j ≤ ufs.length ∧ LaySt Bg w wr w.heap.size (w.heap.size + 1) bf b13 (w.heap.size + 1 + 1) g (some ⟨g, 0, none⟩) c uf last fb2 Bw vw (ws1 ++ ufs.take j) (.slice none 0 0) [] ∧ Blk wr b16 132 #[.int .i64 sx, .int .i64 fx, .int .i64 px, .int .u32 cl, .int .u32 rx, .int .u32 cx, .slice uA ufs.length uc, .int .i64 upl]) (fun _ i _ => ufs.length - (intOf i).toNat)
        case atStart => exact ⟨0, _, rfl, Nat.zero_le _, by simpa using HS12.out, HO12.out⟩
        case round =>
         clear HS12 HO12
         obtain ⟨j, vw, rfl, hj, S, O⟩ := hrel
         have HS := Lib.hid S
         have HO := Lib.hid O
         by_cases hjn : j < ufs.length
         ·have hd2 : decide ((j : Int) < (ufs.length : Int)) = true := by simp; omega
          have hjni : (j : Int) < (ufs.length : Int) := by omega
          obtain ⟨ad, v0, hA2, -, hv0, hcj⟩ := (HUF.out wr S.flds).1.at_ hjn
          rw [u32s_get hjn] at hv0
          injection hv0 with hv0
          subst hv0 hA2
          have hf32 : ufs.getD j 0 < 4294967296 := by rw [List.getD_eq_getElem?_getD, List.getElem?_eq_getElem hjn]; exact HUO.out.f32 _ (List.getElem_mem hjn)
          have HTJ := Lib.hid (show ufs.take (j + 1) = ufs.take j ++ [ufs.getD j 0] from by rw [List.take_add_one, List.getElem?_eq_getElem hjn, List.getD_eq_getElem?_getD, List.getElem?_eq_getElem hjn]; rfl)
          have o1 := O.cell 1
          have o6 := O.cell 6
          have hwl : ((ws1 ++ ufs.take j).length) ≤ 9000000 := by have := HWL.out; simp only [List.length_append, List.length_take]; omega
          clear S O
          generalize ufs.getD j 0 = f at *
          generalize ufs.take j = pk at *
          generalize hyf : f = y at *
          clear hyf
          have q3 := HS.out.box.cell 3
          have HSA := Lib.hid (HS.out.below ((Below.refl _ _).alloc (Nat.le_refl _) (.cells #[.int .u32 (y : Nat)] 32)))
          have HOA := Lib.hid (HO.out.below ((Below.refl _ _).alloc (Nat.le_refl _) (.cells #[.int .u32 (y : Nat)] 32)) HO.out.lt)
          obtain ⟨nl, hnl⟩ : ∃ n, n = (ws1 ++ pk).length := ⟨_, rfl⟩
          have HWO := Lib.hid (show World.ownsRow _ Bw 32 1 vw nl (u32s (ws1 ++ pk)) from by rw [hnl]; exact HSA.out.wo)
          have HNL := Lib.hid hnl
          have hnb : nl ≤ 9000000 := by rw [hnl]; exact hwl
          clear hnl hwl
          go_wp2_with (at_builtin; refine wpList_append_any _ rfl (.tmp 95) (.tmp 97) _ rfl Bw 32 i0 _ 1 4 Tryz.underlying44 hi0 hz0 hz1 hz2 rfl (by omega) vw nl (u32s (ws1 ++ pk)) rfl HWO.out (wr.heap.size + 1) (some ⟨wr.heap.size, 0, none⟩) 1 1 (u32s [y]) rfl ⟨rfl, fun _ => ⟨_, rfl, by simp, cell_one_new _ _ _⟩⟩ (one_u32s _) (by simp only [maxLen]; omega) (by omega) (HSA.out.top) ?_; intro v15 w15 hown15 hg15 hat15; obtain ⟨g15, c15, rfl, -, -, -⟩ := Row.of_any hown15 (by omega); have HS15 := Lib.hid (HSA.out.appW (ys := [y]) rfl (by rw [← HNL.out]; exact hown15) hg15); have HO15 := Lib.hid (HSA.out.oAppW (v' := .slice (some ⟨g15, 0, none⟩) (nl + 1) c15) HOA.out hg15); have hfz := (HSA.out.room hg15).frozen 3; have hcu := (HSA.out.room hg15).cell 3; clear hown15 hg15 hat15 HSA HOA q3)
          go_roundw
          case rel => exact ⟨j + 1, _, by go_num, by omega, by rw [HTJ.out, ← List.append_assoc]; exact HS15.out, HO15.out⟩
          case measure => simp [intOf]; omega
         ·obtain rfl : j = ufs.length := by omega
          have hd2 : decide ((ufs.length : Int) < (ufs.length : Int)) = false := by simp
          have hS := HS.out
          rw [List.take_length] at hS
          have HSE := Lib.hid (show LaySt Bg w wr w.heap.size (w.heap.size + 1) bf b13 (w.heap.size + 1 + 1) g (some ⟨g, 0, none⟩) c uf last (!(((uf.map Wr.th).take (k + 1)).any (wrongT (uf.map Wr.th)))) Bw vw (0 :: wsOf (((uf.map Wr.th).take (k + 1)).map (obOf (uf.map Wr.th)))) (.slice none 0 0) [] from by
           have e1 := HWE.out (ufs) (by unfold obOf; rw [if_neg (by show ¬ Hd.ptrT ⟨sx, fx, px, cx, rx⟩ = true; unfold Hd.ptrT; simp; have := HFX.out; omega)])
           have e2 := HFE2.out false (by unfold wrongT; rw [show (⟨⟨sx, fx, px, cx, rx⟩, ufs⟩ : Th).x.ptrT = false by show Hd.ptrT ⟨sx, fx, px, cx, rx⟩ = false; unfold Hd.ptrT; simp; have := HFX.out; omega]; simp)
           rw [e1, e2]
           simpa using hS
          )
          clear hS HS HO hj hjn S O
          go_wp2_with fail
          go_roundw
          case rel => exact ⟨k + 1, vw, by go_num, by omega, HSE.out⟩
          case measure => simp [intOf]; omega
     ·obtain rfl : k = uf.length := by omega
      have hd : decide ((uf.length : Int) < (uf.length : Int)) = false := by simp
      have hS := HS.out
      rw [show (uf.map Wr.th).take uf.length = uf.map Wr.th from List.take_of_length_le (by simp)] at hS
      have HW9 := Lib.hid (show (0 :: wsOf ((uf.map Wr.th).map (obOf (uf.map Wr.th)))) = (⟨uf.map Wr.th, rts, last⟩ : Img).words from rfl)
      have HFW := Lib.hid (show (!(uf.map Wr.th).any (wrongT (uf.map Wr.th)) && !(rts.any (wrongV (uf.map Wr.th)))) = !(⟨uf.map Wr.th, rts, last⟩ : Img).wrong from by
       unfold Img.wrong
       cases (uf.map Wr.th).any (wrongT (uf.map Wr.th)) <;> cases rts.any (wrongV (uf.map Wr.th)) <;> rfl)
      have HRO := Lib.hid (show rts.map (valT (uf.map Wr.th)) = (⟨uf.map Wr.th, rts, last⟩ : Img).roots from rfl)
      have HSW := Lib.hid hS
      have hrl : rts.length = 64 := by have := HRR.out.1; rw [u32s_len] at this; omega
      clear hS HS hk hkn HLW
      generalize (0 :: wsOf ((uf.map Wr.th).map (obOf (uf.map Wr.th)))) = wsF at *
      generalize (!(uf.map Wr.th).any (wrongT (uf.map Wr.th))) = fbO at *
      go_wp2_with fail
      clear hd
      obtain ⟨i0, hi0, hz0, hz1, hz2⟩ := info_parts info_oop
      go_loopw [104] (fun i wr => ∃ (k : Nat) (vr : Value), i = .int .i64 k ∧ k ≤ 64 ∧ LaySt Bg w wr w.heap.size (w.heap.size + 1) bf b13 (w.heap.size + 1 + 1) g A c uf last (fbO && !((rts.take k).any (wrongV (uf.map Wr.th)))) Bw vw wsF vr ((rts.take k).map (valT (uf.map Wr.th)))) (fun i _ => 64 - (intOf i).toNat)
      case atStart => exact ⟨0, _, rfl, Nat.zero_le _, by simpa using HSW.out⟩
      case round =>
       clear HSW
       obtain ⟨k, vr, rfl, hk, S⟩ := hrel
       have HS := Lib.hid S
       by_cases hkn : k < 64
       ·have hd : decide ((k : Int) < 64) = true := by simp; omega
        have hkni : (k : Int) < 64 := by omega
        have hkr : k < rts.length := by omega
        have hkr0 : k < nr := by omega
        obtain ⟨ad, v0, hA2, hbl, hv0, hc0⟩ := HRR.out.at_ hkr0
        have hcj : wr.cell? (ad.add k) = some v0 := (World.cell?_of_block (a := ad.add k) (by rw [block_of_add]; exact S.kept ad.block hbl (HRG.out ad hA2))).trans hc0
        rw [u32s_get hkr] at hv0
        injection hv0 with hv0
        subst hv0 hA2
        have hx32 : rts.getD k 0 < 4294967296 := by rw [List.getD_eq_getElem?_getD, List.getElem?_eq_getElem hkr]; exact HR32.out _ (List.getElem_mem hkr)
        have HTJ := Lib.hid (show (rts.take (k + 1)).map (valT (uf.map Wr.th)) = (rts.take k).map (valT (uf.map Wr.th)) ++ [valT (uf.map Wr.th) (rts.getD k 0)] from by rw [List.take_add_one, List.getElem?_eq_getElem hkr, List.map_append, List.getD_eq_getElem?_getD, List.getElem?_eq_getElem hkr]; rfl)
        have HFJ := Lib.hid (show (rts.take (k + 1)).any (wrongV (uf.map Wr.th)) = ((rts.take k).any (wrongV (uf.map Wr.th)) || wrongV (uf.map Wr.th) (rts.getD k 0)) from by rw [List.take_add_one, List.getElem?_eq_getElem hkr, List.any_append, List.getD_eq_getElem?_getD, List.getElem?_eq_getElem hkr]; simp)
        have hpl : ((rts.take k).map (valT (uf.map Wr.th))).length ≤ 64 := by rw [List.length_map, List.length_take]; omega
        clear S hc0
        generalize rts.getD k 0 = x at *
        generalize (rts.take k).map (valT (uf.map Wr.th)) = pk at *
        generalize (rts.take k).any (wrongV (uf.map Wr.th)) = fbj at *
        go_upto_region 31 with fail
        refine wp_region_U 8 (fun w' => w'.cell? ⟨w.heap.size, 4, none⟩ = some vr ∧ True) (by kernel_rfl) ?_
        have hbd : Below wr.heap.size wr wr.drew := ⟨rfl, rfl, rfl, Nat.le_refl _, fun _ _ => rfl⟩
        have HSq := Lib.hid (HS.out.below hbd)
        clear hbd HS hcj
        generalize wr.drew = wq at *
        have hS : wq.cell? ⟨w.heap.size, 4, none⟩ = some vr ∧ True := ⟨HSq.out.box.cell 4, trivial⟩
        refine U_read 0 (v := (.pointer (some ⟨w.heap.size, 4, none⟩))) rfl (by kernel_rfl) (fun _ _ _ h => h) hS (by rfl) (fun w' hw' => by obtain ⟨h0, h1⟩ := hw'; go_simp) ?_
        try simp only [Act.put, List.setIfInBounds_toArray, List.set_cons_zero, List.set_cons_succ]
        refine U_read 1 (v := vr) rfl (by kernel_rfl) (fun _ _ _ h => h) hS (by rfl) (fun w' hw' => by obtain ⟨h0, h1⟩ := hw'; go_simp) ?_
        try simp only [Act.put, List.setIfInBounds_toArray, List.set_cons_zero, List.set_cons_succ]
        refine U_read 2 (v := (.func (.func 97) #[] #[.pointer (some ⟨b13, 0, none⟩)])) rfl (by kernel_rfl) (fun _ _ _ h => h) hS (by rfl) (fun w' hw' => by obtain ⟨h0, h1⟩ := hw'; go_simp) ?_
        try simp only [Act.put, List.setIfInBounds_toArray, List.set_cons_zero, List.set_cons_succ]
        refine U_read 3 (v := (.int .u32 (x : Int))) rfl (by kernel_rfl) (fun _ _ _ h => h) hS (by rfl) (fun w' hw' => by obtain ⟨h0, h1⟩ := hw'; go_simp) ?_
        try simp only [Act.put, List.setIfInBounds_toArray, List.set_cons_zero, List.set_cons_succ]
        refine U_one 4 (by kernel_rfl) rfl rfl (fun K hK => ?_)
        go_simp
        refine (layvalue_any HSq.out.v x hx32).mono ?_
        rintro e w13 ⟨rfl, hf13, F13⟩
        have HFE := Lib.hid (show (fbO && !fbj && !wrongV (uf.map Wr.th) x) = (fbO && !(fbj || wrongV (uf.map Wr.th) x)) from by cases fbO <;> cases fbj <;> cases wrongV (uf.map Wr.th) x <;> rfl)
        have hS13 := HSq.out.fineS hf13 F13
        rw [HFE.out] at hS13
        have HS14 := Lib.hid hS13
        have hv32 := valT_lt (uf.map Wr.th) x
        clear hf13 F13 HSq hS13 HFE
        generalize valT (uf.map Wr.th) x = y at *
        have hS14 : w13.cell? ⟨w.heap.size, 4, none⟩ = some vr ∧ True := ⟨HS14.out.box.cell 4, trivial⟩
        refine hK _ _ (fun _ => hS14) ?_
        clear hK K
        try simp only [Act.put, List.setIfInBounds_toArray, List.set_cons_zero, List.set_cons_succ]
        refine U_one 5 (by kernel_rfl) rfl rfl (fun K hK => ?_)
        go_simp
        have HSA := Lib.hid (HS14.out.below ((Below.refl _ _).alloc (Nat.le_refl _) (.cells #[.int .u32 (y : Nat)] 72)))
        have hSA : (w13.alloc (.cells #[.int .u32 (y : Nat)] 72)).cell? ⟨w.heap.size, 4, none⟩ = some vr ∧ True := ⟨HSA.out.box.cell 4, trivial⟩
        refine hK _ _ (fun _ => hSA) ?_
        clear hK K
        try simp only [Act.put, List.setIfInBounds_toArray, List.set_cons_zero, List.set_cons_succ]
        refine U_one 6 (by kernel_rfl) rfl rfl (fun K hK => ?_)
        refine wp_append_any _ (.tmp 109) (.tmp 113) _ rfl Bw 72 i0 _ 1 4 Tryz.underlying45 hi0 hz0 hz1 hz2 rfl (by omega) vr pk.length (u32s pk) rfl HSA.out.ro (w13.heap.size + 1) (some ⟨w13.heap.size, 0, none⟩) 1 1 (u32s [y]) rfl ⟨rfl, fun _ => ⟨_, rfl, by simp, cell_one_new _ _ _⟩⟩ (one_u32s _) (by simp only [maxLen]; omega) (by omega) HSA.out.top ?_
        intro v15 w15 hown15 hg15 hat15
        obtain ⟨g15, c15, rfl, -, -, -⟩ := Row.of_any hown15 (by omega)
        have HS15 := Lib.hid (HSA.out.appR (ys := [y]) rfl hown15 hg15)
        have hfz := (HSA.out.roomR hg15).frozen 4
        have hcu := (HSA.out.roomR hg15).cell 4
        have hS15 : w15.cell? ⟨w.heap.size, 4, none⟩ = some vr ∧ True := ⟨hcu, trivial⟩
        clear hown15 hg15 hat15 HSA HS14
        refine hK _ _ (fun _ => hS15) ?_
        clear hK K
        try simp only [Act.put, List.setIfInBounds_toArray, List.set_cons_zero, List.set_cons_succ]
        refine U_one 7 (by kernel_rfl) rfl rfl (fun K hK => ?_)
        go_simp
        refine hK _ _ (fun _ => hS15) ?_
        clear hK K
        try simp only [Act.put, List.setIfInBounds_toArray, List.set_cons_zero, List.set_cons_succ]
        refine U_one 8 (by kernel_rfl) rfl rfl (fun K hK => ?_)
        go_simp
        refine hK _ _ (fun h => absurd h (by decide)) ?_
        clear hK K
        try simp only [Act.put, List.setIfInBounds_toArray, List.set_cons_zero, List.set_cons_succ]
        refine U_done (by kernel_rfl) ?_ _
        simp only [Calm, Exit.then]
        clear hS hS14 hSA hS15 hcu hfz
        go_wp2_with fail
        go_roundw
        case rel => exact ⟨k + 1, _, by go_num, by omega, by rw [HTJ.out, HFJ.out]; exact HS15.out⟩
        case measure => simp [intOf]; omega
       ·obtain rfl : k = 64 := by omega
        have hd : decide ((64 : Int) < 64) = false := by decide
        have hS := S
        rw [show rts.take 64 = rts from List.take_of_length_le (by omega), HFW.out, HRO.out, HW9.out] at hS
        have HSE := Lib.hid hS
        clear hS S HS hk hkn HFW HRO HW9
        have HBG' := Lib.hid (show ¬ size < placeT (⟨uf.map Wr.th, rts, last⟩ : Img).ts from HBG.out)
        have HIL := Lib.hid (show (⟨uf.map Wr.th, rts, last⟩ : Img).last = last from rfl)
        generalize (⟨uf.map Wr.th, rts, last⟩ : Img) = im at *
        have cf := HSE.out.v.b.fn.cell 0
        have HRS := Lib.hid HSE.out.res
        have HFR := Lib.hid (show Fr1 g w wr from ⟨HSE.out.fr.os, HSE.out.fr.tape, HSE.out.fr.output, HSE.out.fr.size, HSE.out.kept⟩)
        have hw3 : w.heap.size ≤ w.heap.size + 1 + 1 := by omega
        have hbg : Bg ≤ w.heap.size := by omega
        by_cases hwr : im.wrong = true
        ·have HWR := Lib.hid hwr
         rw [hwr] at cf
         clear hwr
         simp only [Bool.not_true] at cf
         have z0 := HRS.out.frozen 0
         have z1 := HRS.out.frozen 1
         have z2 := HRS.out.frozen 2
         have z3 := HRS.out.frozen 3
         have z4 := HRS.out.frozen 4
         have d0 := HRS.out.cell 0
         have d1 := HRS.out.cell 1
         have d2 := HRS.out.cell 2
         have d3 := HRS.out.cell 3
         have d4 := HRS.out.cell 4
         have HZ5 := Lib.hid (HRS.out.setAll5 (.int .i64 0) (.int .i64 0) (.int .u32 0) (.slice none 0 0) (.slice none 0 0))
         have HFB := Lib.hid (frm5 HFR.out (g := w.heap.size + 1 + 1) (by omega) (.int .i64 0) (.int .i64 0) (.int .u32 0) (.slice none 0 0) (.slice none 0 0))
         go_wp2_with fail
         generalize (((((wr.setCell ⟨w.heap.size + 1 + 1, 0, none⟩ (.int .i64 0)).setCell ⟨w.heap.size + 1 + 1, 1, none⟩ (.int .i64 0)).setCell ⟨w.heap.size + 1 + 1, 2, none⟩ (.int .u32 0)).setCell ⟨w.heap.size + 1 + 1, 3, none⟩ (.slice none 0 0)).setCell ⟨w.heap.size + 1 + 1, 4, none⟩ (.slice none 0 0)) = WF at *
         clear z0 d0 z1 d1 z2 d2 z3 d3 z4 d4
         have f0 := HZ5.out.cell 0
         have f1 := HZ5.out.cell 1
         have f2 := HZ5.out.cell 2
         have f3 := HZ5.out.cell 3
         have f4 := HZ5.out.cell 4
         refine bodyPost_ret (v := .tuple #[.agg #[.int .i64 0, .int .i64 0, .int .u32 0, .slice none 0 0, .slice none 0 0], .int .i64 145]) (by simp [results, Tryz.results70, go_sem, f0, f1, f2, f3, f4]) rfl ?_
         exact ⟨HFB.out, by rw [if_neg HBG'.out, if_pos HWR.out]; rfl⟩
        ·have HWR := Lib.hid hwr
         rw [show im.wrong = false by simpa using hwr] at cf
         clear hwr
         simp only [Bool.not_false] at cf
         obtain ⟨AW, cW, rfl, hrW⟩ := own_sliceI HSE.out.wo
         obtain ⟨AR, cR, rfl, hrR⟩ := own_sliceI HSE.out.ro
         have hn8 := HSE.out.l8.2
         have HX1 := Lib.hid (reads5 (g := w.heap.size + 1 + 1) hrW (fun _ a ha e => by have := (HSE.out.wo.lt a.block (by rw [ha]; rfl)).1; omega) (.int .i64 2) (.int .i64 0) (.int .u32 last) (.slice AW im.words.length cW) (.slice AR im.roots.length cR))
         have HX2 := Lib.hid (reads5 (g := w.heap.size + 1 + 1) hrR (fun _ a ha e => by have := (HSE.out.ro.lt a.block (by rw [ha]; rfl)).1; omega) (.int .i64 2) (.int .i64 0) (.int .u32 last) (.slice AW im.words.length cW) (.slice AR im.roots.length cR))
         have HNW := Lib.hid (show ∀ a, AW = some a ∨ AR = some a → w.heap.size ≤ a.block from fun a ha => by
          have hl4 := HSE.out.l4
          rcases ha with ha | ha
          ·have := (HSE.out.wo.lt a.block (by rw [ha]; rfl)).1; omega
          ·have := (HSE.out.ro.lt a.block (by rw [ha]; rfl)).1; omega)
         have e0 := HSE.out.box.cell 0
         have e1 := HSE.out.box.cell 1
         have e2 := HSE.out.box.cell 2
         have e3 := HSE.out.box.cell 3
         have e4 := HSE.out.box.cell 4
         clear hrW hrR HSE
         have z0 := HRS.out.frozen 0
         have z1 := HRS.out.frozen 1
         have z2 := HRS.out.frozen 2
         have z3 := HRS.out.frozen 3
         have z4 := HRS.out.frozen 4
         have d0 := HRS.out.cell 0
         have d1 := HRS.out.cell 1
         have d2 := HRS.out.cell 2
         have d3 := HRS.out.cell 3
         have d4 := HRS.out.cell 4
         have HZ5 := Lib.hid (HRS.out.setAll5 (.int .i64 2) (.int .i64 0) (.int .u32 last) (.slice AW im.words.length cW) (.slice AR im.roots.length cR))
         have HFB := Lib.hid (frm5 HFR.out (g := w.heap.size + 1 + 1) (by omega) (.int .i64 2) (.int .i64 0) (.int .u32 last) (.slice AW im.words.length cW) (.slice AR im.roots.length cR))
         go_wp2_with fail
         generalize (((((wr.setCell ⟨w.heap.size + 1 + 1, 0, none⟩ (.int .i64 2)).setCell ⟨w.heap.size + 1 + 1, 1, none⟩ (.int .i64 0)).setCell ⟨w.heap.size + 1 + 1, 2, none⟩ (.int .u32 last)).setCell ⟨w.heap.size + 1 + 1, 3, none⟩ (.slice AW im.words.length cW)).setCell ⟨w.heap.size + 1 + 1, 4, none⟩ (.slice AR im.roots.length cR)) = WF at *
         clear z0 d0 z1 d1 z2 d2 z3 d3 z4 d4
         have f0 := HZ5.out.cell 0
         have f1 := HZ5.out.cell 1
         have f2 := HZ5.out.cell 2
         have f3 := HZ5.out.cell 3
         have f4 := HZ5.out.cell 4
         refine bodyPost_ret (v := .tuple #[.agg #[.int .i64 2, .int .i64 0, .int .u32 last, .slice AW im.words.length cW, .slice AR im.roots.length cR], .int .i64 0]) (by simp [results, Tryz.results70, go_sem, f0, f1, f2, f3, f4]) rfl ?_
         exact ⟨HFB.out, by rw [if_neg HBG'.out, if_neg HWR.out]; exact ⟨AW, AR, cW, cR, by rw [HIL.out]; rfl, HX1.out, HX2.out, HNW.out⟩⟩
end
end Go.Proofs.YthadjmhipckelaaGreatDoor
