import Derived.Test.YtlkahgagmfhdaaaGreatDoorJISec
import Derived.Test.YtlkahgagmfhdaaaGreatDoorJUntil
import Derived.Laws.EntriesVeiled
import Derived.BigQuiet
import Derived.Laws.BytesArg
set_option linter.unusedVariables false
set_option linter.unusedSimpArgs false
set_option linter.unusedSectionVars false
namespace Go.Proofs.YtlkahgagmfhdaaaGreatDoor
section
open Go.RowKit
attribute [local go_sem] Oper.semAt_some
def rdV (ver : Nat) (last : Nat) (vw vr : Value) : Value := .agg #[.int .i64 ver, .int .i64 0, .int .u32 last, vw, vr]
def LayP (g : Nat) (i : Img) (size : Nat) (w : World) (e : Ending) (w' : World) : Prop :=
 Fr1 g w w' ∧ (if size < placeT i.ts then e = .returned (.tuple #[rdV 0 0 (.slice none 0 0) (.slice none 0 0), .int .i64 4])
  else if i.wrong = true then e = .returned (.tuple #[rdV 0 0 (.slice none 0 0) (.slice none 0 0), .int .i64 145])
  else ∃ (A1 A2 : Option Addr) (c1 c2 : Nat), e = .returned (.tuple #[rdV 2 i.last (.slice A1 i.words.length c1) (.slice A2 i.roots.length c2), .int .i64 0]) ∧
   Reads w' w'.heap.size 1 A1 i.words.length (u32s i.words) ∧ Reads w' w'.heap.size 1 A2 i.roots.length (u32s i.roots) ∧ ∀ a, A1 = some a ∨ A2 = some a → w.heap.size ≤ a.block)
theorem placeT_bound {ts : List Th} (h : ∀ t ∈ ts, t.x.size ≤ 65535) : placeT ts ≤ 1 + ts.length * 65538 := by
 induction ts with
 | nil => simp [placeT]
 | cons a ts ih =>
   have h1 := h a (by simp)
   have h2 := ih (fun t ht => h t (by simp [ht]))
   unfold placeT at *
   simp only [List.map_cons, List.sum_cons, List.length_cons] at *
   omega
theorem words_place (ts l : List Th) (h : ∀ t ∈ l, t.Ok) : (0 :: wsOf (l.map (obOf ts))).length = placeT l := by
 induction l with
 | nil => rfl
 | cons t l ih =>
   have h1 := ih (fun x hx => h x (by simp [hx]))
   have h2 := (h t (by simp)).size
   have h3 : (obOf ts t).fs.length = t.fs.length := by unfold obOf; simp only; split <;> simp
   unfold placeT at *
   rw [List.map_cons, wsOf_cons, List.length_cons, List.length_append, Ob.ws_len, h3, List.map_cons, List.sum_cons]
   rw [List.length_cons] at h1
   omega
theorem frm5 {w W : World} {rg g : Nat} (h : Fr1 rg W w) (hB : W.heap.size ≤ g) (a' b' c' d' e' : Value) : Fr1 rg W (((((w.setCell ⟨g, 0, none⟩ a').setCell ⟨g, 1, none⟩ b').setCell ⟨g, 2, none⟩ c').setCell ⟨g, 3, none⟩ d').setCell ⟨g, 4, none⟩ e') := by
 have h1 : ∀ (V : World) (i : Nat) (v : Value), Fr1 rg W V → Fr1 rg W (V.setCell ⟨g, i, none⟩ v) := fun V i v F => ⟨F.os, F.tape, F.output, by have := F.size; simp [World.setCell]; exact this, fun k hk hne => (Below.heap_setCell V ⟨g, i, none⟩ v k (by show k ≠ g; omega)).trans (F.same k hk hne)⟩
 exact h1 _ _ _ (h1 _ _ _ (h1 _ _ _ (h1 _ _ _ (h1 _ _ _ h))))
theorem below5 {w W : World} {B g : Nat} (h : Below B W w) (hB : B ≤ g) (a' b' c' d' e' : Value) : Below B W (((((w.setCell ⟨g, 0, none⟩ a').setCell ⟨g, 1, none⟩ b').setCell ⟨g, 2, none⟩ c').setCell ⟨g, 3, none⟩ d').setCell ⟨g, 4, none⟩ e') :=
 ((((h.setCell (p := ⟨g, 0, none⟩) hB a').setCell (p := ⟨g, 1, none⟩) hB b').setCell (p := ⟨g, 2, none⟩) hB c').setCell (p := ⟨g, 3, none⟩) hB d').setCell (p := ⟨g, 4, none⟩) hB e'
set_option maxRecDepth 100000 in
set_option maxHeartbeats 8000000 in
theorem ilay_any {w : World} {Bg g c nr cr last size : Nat} {A Ar : Option Addr} {us : List Wr} {rts : List Nat} (hs : Spares w) (hsp : 0 < Bg) (hB : Bg ≤ g) (hg : g < w.heap.size) (hA : 0 < us.length → A = some ⟨g, 0, none⟩ ∧ Wrs w g us) (hlen : us.length ≤ 9000000)
 (hok : ∀ t ∈ us.map Wr.th, t.Ok) (hfl : WrB w w.heap.size g us) (hr : Reads w w.heap.size 1 Ar nr (u32s rts)) (hrg : ∀ a, Ar = some a → a.block ≠ g) (hr32 : ∀ r ∈ rts, r < 4294967296) (hnr : nr = 64) (hsize : size ≤ 1048576) (hlast : last < 4294967296) :
 Calls Tryz.prog 199 #[rdV 2 last (.slice none 0 0) (.slice none 0 0), .slice A us.length c, .slice Ar nr cr, .int .i64 size] w (LayP g ⟨us.map Wr.th, rts, last⟩ size w) := by
 have hbd : ∀ k, placeT ((us.map Wr.th).take k) ≤ 600000000000 := fun k => by
  have := placeT_bound (ts := (us.map Wr.th).take k) (fun t ht => by
   have hm := (hok t (List.mem_of_mem_take ht)).may
   unfold Hd.may at hm; simp at hm; omega)
  rw [List.length_take, List.length_map] at this
  have h2 : min k us.length * 65538 ≤ 9000000 * 65538 := Nat.mul_le_mul_right _ (by omega)
  omega
 have HOK := Lib.hid hok
 have HFL := Lib.hid hfl
 have HRR := Lib.hid hr
 have HRG := Lib.hid hrg
 have HR32 := Lib.hid hr32
 clear hok hfl hr hrg hr32
 unfold rdV
 go_enter Tryz.func199, Tryz.ntmps199
 go_wp2_with fail
 have b4 := ((Blk.new w 130 #[.int .i64 ((2 : Nat) : Int), .int .i64 0, .int .u32 last, .slice none 0 0, .slice none 0 0]).alloc (.cells #[.slice A us.length c] 301)).alloc (.cells #[.int .i64 0, .int .i64 0, .int .u32 0, .slice none 0 0, .slice none 0 0] 130)
 have b5 := (Blk.new (w.alloc (.cells #[.int .i64 ((2 : Nat) : Int), .int .i64 0, .int .u32 last, .slice none 0 0, .slice none 0 0] 130)) 301 #[.slice A us.length c]).alloc (.cells #[.int .i64 0, .int .i64 0, .int .u32 0, .slice none 0 0, .slice none 0 0] 130)
 have b8 := Blk.new ((w.alloc (.cells #[.int .i64 ((2 : Nat) : Int), .int .i64 0, .int .u32 last, .slice none 0 0, .slice none 0 0] 130)).alloc (.cells #[.slice A us.length c] 301)) 130 #[.int .i64 0, .int .i64 0, .int .u32 0, .slice none 0 0, .slice none 0 0]
 rw [World.size_alloc] at b5
 rw [World.size_alloc, World.size_alloc] at b8
 have hb0 : Below w.heap.size w (((w.alloc (.cells #[.int .i64 ((2 : Nat) : Int), .int .i64 0, .int .u32 last, .slice none 0 0, .slice none 0 0] 130)).alloc (.cells #[.slice A us.length c] 301)).alloc (.cells #[.int .i64 0, .int .i64 0, .int .u32 0, .slice none 0 0, .slice none 0 0] 130)) :=
  (((Below.refl _ w).alloc (Nat.le_refl _) _).alloc (by simp) _).alloc (by simp; omega) _
 have hsz : (((w.alloc (.cells #[.int .i64 ((2 : Nat) : Int), .int .i64 0, .int .u32 last, .slice none 0 0, .slice none 0 0] 130)).alloc (.cells #[.slice A us.length c] 301)).alloc (.cells #[.int .i64 0, .int .i64 0, .int .u32 0, .slice none 0 0, .slice none 0 0] 130)).heap.size = w.heap.size + 3 := by simp
 have HW := Lib.hid (fun h => (hA h).2.same (hb0.block g hg))
 have HB0 := Lib.hid hb0
 have HB4 := Lib.hid b4
 have HB5 := Lib.hid b5
 have HB8 := Lib.hid b8
 have HA := Lib.hid (fun h => (hA h).1)
 clear b4 b5 b8 hb0 hA
 generalize (((w.alloc (.cells #[.int .i64 ((2 : Nat) : Int), .int .i64 0, .int .u32 last, .slice none 0 0, .slice none 0 0] 130)).alloc (.cells #[.slice A us.length c] 301)).alloc (.cells #[.int .i64 0, .int .i64 0, .int .u32 0, .slice none 0 0, .slice none 0 0] 130)) = W0 at *
 go_loopw [10, 25] (fun a i wr => ∃ k : Nat, i = .int .i64 k ∧ k ≤ us.length ∧ a = .int .i64 (placeT ((us.map Wr.th).take k) : Nat) ∧ Fr1 g W0 wr ∧ (0 < us.length → Wrs wr g (usK us k))) (fun _ i _ => us.length - (intOf i).toNat)
 case atStart => exact ⟨0, rfl, Nat.zero_le _, rfl, Fr1.refl _ _, fun h => by rw [usK_zero]; exact HW.out h⟩
 case round =>
  clear HW
  obtain ⟨k, rfl, hk, rfl, F, hW⟩ := hrel
  have HF := Lib.hid F
  have n5 : w.heap.size + 1 ≠ g := by omega
  have q5 := (HB5.out.fr1 F n5).cell 0
  by_cases hkn : k < us.length
  ·have hd : decide ((k : Int) < (us.length : Int)) = true := by simp; omega
   have hkni : (k : Int) < (us.length : Int) := by omega
   have HWk := Lib.hid (hW (by omega))
   have hA0 := HA.out (by omega)
   subst hA0
   have hbk := hbd k
   have hpc := HWk.out.cell (i := k) (j := 7) (u := .int .i64 ((usK us k).getD k default).pl) (by rw [usK_len]; exact hkn) (by omega) rfl
   have hpz := HWk.out.frozen (k * 8 + 7)
   have HW1 := Lib.hid (show Wrs (wr.setCell ⟨g, k * 8 + 7, none⟩ (.int .i64 (placeT ((us.map Wr.th).take k) : Nat))) g (usK us (k + 1)) from by
    have h := HWk.out.place k (by rw [usK_len]; exact hkn) (placeT ((us.map Wr.th).take k))
    rw [usK_set us k hkn] at h
    exact h)
   have HF1 := Lib.hid (HF.out.trans (Fr1.set g (k * 8 + 7) wr (.int .i64 (placeT ((us.map Wr.th).take k) : Nat))))
   have HPL := Lib.hid (show placeT ((us.map Wr.th).take (k + 1)) = placeT ((us.map Wr.th).take k) + (3 + (us.getD k default).x.size) from by
    rw [List.take_add_one, List.getElem?_map, List.getElem?_eq_getElem hkn]
    simp only [Option.map_some, Option.toList_some, placeT_snoc]
    rw [List.getD_eq_getElem?_getD, List.getElem?_eq_getElem hkn]
    rfl)
   have hsx : (us.getD k default).x.size ≤ 65535 := by
    have hm := (HOK.out (us.getD k default).th (by rw [List.getD_eq_getElem?_getD, List.getElem?_eq_getElem hkn]; exact List.mem_map_of_mem (List.getElem_mem hkn))).may
    have hm2 : (us.getD k default).x.may = true := hm
    unfold Hd.may at hm2; simp only [Bool.and_eq_true, Bool.or_eq_true, decide_eq_true_eq] at hm2; omega
   clear F HWk hW HF
   generalize placeT ((us.map Wr.th).take k) = at_ at *
   go_upto_region 6 with fail
   generalize wr.setCell ⟨g, k * 8 + 7, none⟩ (.int .i64 (at_ : Int)) = W1 at *
   clear q5 hpc hpz
   have q5 := (HB5.out.fr1 HF1.out n5).cell 0
   have hsc : W1.cell? ⟨g, k * 8, none⟩ = some (.int .i64 (us.getD k default).x.size) := HW1.out.cell (i := k) (j := 0) (u := .int .i64 (us.getD k default).x.size) (by rw [usK_len]; exact hkn) (by omega) (by rw [usK_get us (k + 1) k hkn, if_pos (by omega)]; rfl)
   generalize (us.getD k default).x.size = sx at *
   go_wp2_with fail
   go_roundw
   case rel => exact ⟨k + 1, by go_num, by omega, by rw [HPL.out]; go_num, HF1.out, fun _ => HW1.out⟩
   case measure => simp [intOf]; omega
  ·obtain rfl : k = us.length := by omega
   have hd : decide ((us.length : Int) < (us.length : Int)) = false := by simp
   have hul : (us.map Wr.th).take us.length = us.map Wr.th := List.take_of_length_le (by simp)
   have HWf := Lib.hid hW
   have HF00 := Lib.hid (show Fr1 g w wr from (Fr1.of_below HB0.out).trans HF.out)
   have HF0 := Lib.hid (show Below Bg w wr from ⟨HF.out.os.trans HB0.out.os, HF.out.tape.trans HB0.out.tape, HF.out.output.trans HB0.out.output, Nat.le_trans HB0.out.size HF.out.size, fun k hk => (HF.out.same k (by omega) (by omega)).trans (HB0.out.block k (by omega))⟩)
   have hbt := hbd us.length
   rw [hul] at hbt
   rw [hul]
   have HZ8 := Lib.hid (HB8.out.fr1 HF.out (by omega))
   clear hW F hk hkn
   by_cases hbig : size < placeT (us.map Wr.th)
   ·have hdb : decide ((size : Int) < ((placeT (us.map Wr.th) : Nat) : Int)) = true := decide_eq_true (by omega)
    have hbi : (size : Int) < ((placeT (us.map Wr.th) : Nat) : Int) := by omega
    have HBG := Lib.hid hbig
    clear hbig
    have z0 := HZ8.out.frozen 0
    have z1 := HZ8.out.frozen 1
    have z2 := HZ8.out.frozen 2
    have z3 := HZ8.out.frozen 3
    have z4 := HZ8.out.frozen 4
    have d0 := HZ8.out.cell 0
    have d1 := HZ8.out.cell 1
    have d2 := HZ8.out.cell 2
    have d3 := HZ8.out.cell 3
    have d4 := HZ8.out.cell 4
    have HZ5 := Lib.hid (HZ8.out.setAll5 (.int .i64 0) (.int .i64 0) (.int .u32 0) (.slice none 0 0) (.slice none 0 0))
    have HFB := Lib.hid (frm5 HF00.out (g := w.heap.size + 1 + 1) (by omega) (.int .i64 0) (.int .i64 0) (.int .u32 0) (.slice none 0 0) (.slice none 0 0))
    go_wp2_with fail
    generalize (((((wr.setCell ⟨w.heap.size + 1 + 1, 0, none⟩ (.int .i64 0)).setCell ⟨w.heap.size + 1 + 1, 1, none⟩ (.int .i64 0)).setCell ⟨w.heap.size + 1 + 1, 2, none⟩ (.int .u32 0)).setCell ⟨w.heap.size + 1 + 1, 3, none⟩ (.slice none 0 0)).setCell ⟨w.heap.size + 1 + 1, 4, none⟩ (.slice none 0 0)) = WF at *
    clear z0 d0 z1 d1 z2 d2 z3 d3 z4 d4
    have f0 := HZ5.out.cell 0
    have f1 := HZ5.out.cell 1
    have f2 := HZ5.out.cell 2
    have f3 := HZ5.out.cell 3
    have f4 := HZ5.out.cell 4
    refine bodyPost_ret (v := .tuple #[.agg #[.int .i64 0, .int .i64 0, .int .u32 0, .slice none 0 0, .slice none 0 0], .int .i64 4]) (by simp [results, Tryz.results199, go_sem, f0, f1, f2, f3, f4]) rfl ?_
    exact ⟨HFB.out, by show (if size < placeT (us.map Wr.th) then _ else _); rw [if_pos HBG.out]; rfl⟩
   ·have hdb : decide ((size : Int) < ((placeT (us.map Wr.th) : Nat) : Int)) = false := decide_eq_false (by omega)
    have hbi : ¬ (size : Int) < ((placeT (us.map Wr.th) : Nat) : Int) := by omega
    go_upto_region 13 with fail
    have hbe : placeT (us.map Wr.th) ≤ size := by omega
    have HBG := Lib.hid hbig
    have HPLC := Lib.hid (show ∀ i, i < (usK us us.length).length → ((usK us us.length).getD i default).pl = placeT ((us.map Wr.th).take i) from fun i hi => by
     rw [usK_len] at hi
     rw [usK_get us _ i hi, if_pos hi])
    have HKL := Lib.hid (usK_len us us.length)
    have HKT := Lib.hid (usK_th us us.length)
    have HFK := Lib.hid ((HFL.out.usK us.length).keep (w' := wr) (fun k h1 h2 => (HF.out.same k (by omega) h2).trans (HB0.out.block k h1)))
    have HU4 := Lib.hid (HB4.out.fr1 HF.out (show w.heap.size ≠ g by omega))
    have HU5 := Lib.hid (HB5.out.fr1 HF.out n5)
    have hwr : w.heap.size + 3 ≤ wr.heap.size := by have := HF.out.size; omega
    have HSM := Lib.hid (show ∀ t ∈ us.map Wr.th, t.Ok from HOK.out)
    have HKP := Lib.hid (show ∀ k, k < w.heap.size → k ≠ g → wr.heap[k]? = w.heap[k]? from fun k h1 h2 => (HF.out.same k (by omega) h2).trans (HB0.out.block k h1))
    clear HFL HB4 HB5 HB8 HB0 HF HOK hbd hul hbig q5 n5 hd
    generalize usK us us.length = uf at *
    generalize us.map Wr.th = ts at *
    generalize us.length = n at *
    obtain rfl : uf.length = n := HKL.out
    clear HKL
    obtain rfl := HKT.out
    have hl9 := hlen
    have HA0 := HA
    clear HKT HA hlen
    have hb2 : Below wr.heap.size wr ((wr.alloc (.cells #[.bool true] 4)).alloc (.cells #[.func (.func 251) #[] #[.pointer (some ⟨w.heap.size + 1, 0, none⟩), .pointer (some ⟨wr.heap.size, 0, none⟩)]] 55)) :=
     ((Below.refl _ wr).alloc (Nat.le_refl _) _).alloc (by simp) _
    have bcl := Blk.new (wr.alloc (.cells #[.bool true] 4)) 55 #[.func (.func 251) #[] #[.pointer (some ⟨w.heap.size + 1, 0, none⟩), .pointer (some ⟨wr.heap.size, 0, none⟩)]]
    rw [World.size_alloc] at bcl
    have hsz2 : ((wr.alloc (.cells #[.bool true] 4)).alloc (.cells #[.func (.func 251) #[] #[.pointer (some ⟨w.heap.size + 1, 0, none⟩), .pointer (some ⟨wr.heap.size, 0, none⟩)]] 55)).heap.size = wr.heap.size + 2 := by simp
    have S0 : LaySt Bg w ((wr.alloc (.cells #[.bool true] 4)).alloc (.cells #[.func (.func 251) #[] #[.pointer (some ⟨w.heap.size + 1, 0, none⟩), .pointer (some ⟨wr.heap.size, 0, none⟩)]] 55)) w.heap.size (w.heap.size + 1) wr.heap.size (wr.heap.size + 1) (w.heap.size + 1 + 1) g A c uf last true (wr.heap.size + 2) (.slice none 0 0) [] (.slice none 0 0) [] :=
     ⟨⟨⟨HU5.out.below hb2 HU5.out.lt, (Blk.new wr 4 #[.bool true]).alloc _, fun h0 => ⟨g, HA0.out h0, (HWf.out h0).below hb2⟩, HPLC.out, by omega, hl9⟩, bcl⟩, HU4.out.below hb2 HU4.out.lt, HZ8.out.below hb2 HZ8.out.lt, ⟨rfl, .inl ⟨rfl, rfl⟩⟩, ⟨rfl, .inl ⟨rfl, rfl⟩⟩, ⟨hb2.os.trans HF0.out.os, hb2.tape.trans HF0.out.tape, hb2.output.trans HF0.out.output, Nat.le_trans HF0.out.size hb2.size, fun k hk => (hb2.block k (by omega)).trans (HF0.out.block k hk)⟩, HFK.out.keep (fun k h1 _ => hb2.block k (by omega)), by omega, by omega, by omega, by omega, by omega, hg, hB, HA0.out, by omega, by omega, fun k h1 h2 => (hb2.block k (by omega)).trans (HKP.out k h1 h2)⟩
    have HS0 := Lib.hid S0
    clear S0 hb2 bcl hsz2 HU4 HU5 HZ8 HWf HFK HF0 HPLC
    generalize ((wr.alloc (.cells #[.bool true] 4)).alloc (.cells #[.func (.func 251) #[] #[.pointer (some ⟨w.heap.size + 1, 0, none⟩), .pointer (some ⟨wr.heap.size, 0, none⟩)]] 55)) = W2 at *
    have hga : W2.grownBy (W2.alloc (.cells #[.int .u32 0] 32)) (none : Option Nat) := ⟨rfl, rfl, rfl, by simp, fun k hk _ => Below.heap_alloc W2 _ k hk⟩
    have HS3 := Lib.hid (HS0.out.appW (w' := W2.alloc (.cells #[.int .u32 0] 32)) (v' := .slice (some ⟨W2.heap.size, 0, none⟩) 1 1) (ys := [0]) (m := 1) rfl ⟨rfl, .inr ⟨W2.heap.size, 1, _, rfl, HS0.out.top, heap_alloc_new W2 _, by decide, by decide, rfl, rfl⟩⟩ hga)
    have q3 := (HS0.out.room hga).cell 3
    have y3 := (HS0.out.room hga).frozen 3
    clear HS0 hga
    go_upto_region 14 with fail
    generalize (W2.alloc (.cells #[.int .u32 0] 32)).setCell ⟨w.heap.size, 3, none⟩ (.slice (some ⟨W2.heap.size, 0, none⟩) 1 1) = W3 at *
    have HW0 := Lib.hid (show Spares w ∧ 0 < Bg from ⟨hs, hsp⟩)
    clear q3 y3 hs hsp hwr hsz
    generalize wr.heap.size + 1 = b13 at *
    generalize wr.heap.size + 2 = Bw at *
    generalize wr.heap.size = bf at *
    generalize hvw : Value.slice (some ⟨W2.heap.size, 0, none⟩) 1 1 = vw0 at *
    clear hvw
    have q5 := HS3.out.v.b.objs.cell 0
    have hlu : uf.length ≤ 9000000 := hl9
    have HLW := Lib.hid (show ∀ k, (0 :: wsOf (((uf.map Wr.th).take k).map (obOf (uf.map Wr.th)))).length ≤ 1048576 from fun k => by
     have h1 := words_place (uf.map Wr.th) ((uf.map Wr.th).take k) (fun t ht => HSM.out t (List.mem_of_mem_take ht))
     have h2 := placeT_le (uf.map Wr.th) k
     omega)
    go_wp2_with fail
    go_loopw [53] (fun i wr => ∃ (k : Nat) (vw : Value), i = .int .i64 k ∧ k ≤ uf.length ∧ LaySt Bg w wr w.heap.size (w.heap.size + 1) bf b13 (w.heap.size + 1 + 1) g A c uf last (!(((uf.map Wr.th).take k).any (wrongT (uf.map Wr.th)))) Bw vw (0 :: wsOf (((uf.map Wr.th).take k).map (obOf (uf.map Wr.th)))) (.slice none 0 0) []) (fun i _ => uf.length - (intOf i).toNat)
    case atStart => exact ⟨0, vw0, rfl, Nat.zero_le _, HS3.out⟩
    case round =>
     clear HS3 q5
     obtain ⟨k, vw, rfl, hk, S⟩ := hrel
     have HS := Lib.hid S
     clear S
     by_cases hkn : k < uf.length
     ·have hd : decide ((k : Int) < (uf.length : Int)) = true := by simp; omega
      have hkni : (k : Int) < (uf.length : Int) := by omega
      have hmem : uf.getD k default ∈ uf := by rw [List.getD_eq_getElem?_getD, List.getElem?_eq_getElem hkn]; exact List.getElem_mem hkn
      have hA1 := HS.out.eg (by omega)
      subst hA1
      obtain ⟨g', hg', hrow⟩ := HS.out.v.b.row (by omega)
      injection hg' with hg'
      injection hg' with hg'
      subst hg'
      have p0 : wr.cell? ⟨g, k * 8, none⟩ = _ := hrow.cell (i := k) (j := 0) (u := .int .i64 (uf.getD k default).x.size) hkn (by omega) rfl
      have p1 := hrow.cell (i := k) (j := 1) (u := .int .i64 (uf.getD k default).x.fmt) hkn (by omega) rfl
      have p2 := hrow.cell (i := k) (j := 2) (u := .int .i64 (uf.getD k default).x.spare) hkn (by omega) rfl
      have p3 := hrow.cell (i := k) (j := 3) (u := .int .u32 0) hkn (by omega) rfl
      have p4 := hrow.cell (i := k) (j := 4) (u := .int .u32 (uf.getD k default).x.ser) hkn (by omega) rfl
      have p5 := hrow.cell (i := k) (j := 5) (u := .int .u32 (uf.getD k default).x.cls) hkn (by omega) rfl
      have p6 := hrow.cell (i := k) (j := 6) (u := .slice (uf.getD k default).A (uf.getD k default).fs.length (uf.getD k default).c) hkn (by omega) rfl
      have p7 := hrow.cell (i := k) (j := 7) (u := .int .i64 (uf.getD k default).pl) hkn (by omega) rfl
      have HUO := Lib.hid (HSM.out (uf.getD k default).th (List.mem_map_of_mem hmem))
      have HTK := Lib.hid (show (uf.map Wr.th).take (k + 1) = (uf.map Wr.th).take k ++ [(uf.getD k default).th] from by
       rw [List.take_add_one, List.getElem?_map, List.getElem?_eq_getElem hkn, List.getD_eq_getElem?_getD, List.getElem?_eq_getElem hkn]
       rfl)
      have HUF := Lib.hid (fun (wr' : World) (h : WrB wr' w.heap.size g uf) => h _ hmem)
      clear hrow hmem
      generalize uf.getD k default = u at *
      obtain ⟨⟨sx, fx, px, cx, rx⟩, uA, uc, ufs, upl⟩ := u
      simp only at p0 p1 p2 p4 p5 p6 p7
      go_upto_region 17 with fail
      have HS5 := Lib.hid (HS.out.below ((Below.refl _ _).alloc (Nat.le_refl _) (.cells #[.int .i64 sx, .int .i64 fx, .int .i64 px, .int .u32 0, .int .u32 rx, .int .u32 cx, .slice uA ufs.length uc, .int .i64 upl] 303)))
      have HO5 := Lib.hid (Blk.new wr 303 #[.int .i64 sx, .int .i64 fx, .int .i64 px, .int .u32 0, .int .u32 rx, .int .u32 cx, .slice uA ufs.length uc, .int .i64 upl])
      have hbB : Bw ≤ wr.heap.size := HS.out.top
      clear HS p0 p1 p2 p3 p4 p5 p6 p7
      generalize wr.alloc (.cells #[.int .i64 sx, .int .i64 fx, .int .i64 px, .int .u32 0, .int .u32 rx, .int .u32 cx, .slice uA ufs.length uc, .int .i64 upl] 303) = W5 at *
      generalize wr.heap.size = b16 at *
      have c13 := HS5.out.v.cl.cell 0
      have o5 := HO5.out.cell 5
      have hcx : cx < 4294967296 := HUO.out.fit.cls
      have HNM := Lib.hid (laynamed_any HS5.out.v.b cx hcx)
      go_wp2_with fail
      refine HNM.out.mono ?_
      rintro e w6 ⟨rfl, hf6, F6⟩
      have HS6 := Lib.hid (HS5.out.fineS hf6 F6)
      have HO6 := Lib.hid (HS5.out.oFine HO5.out F6)
      have hcl : namedT (uf.map Wr.th) cx < 4294967296 := namedT_lt _ _
      obtain ⟨cl, hclE⟩ : ∃ cl, cl = namedT (uf.map Wr.th) cx := ⟨_, rfl⟩
      have HCL := Lib.hid hclE
      rw [← hclE] at hcl ⊢
      have o3 := HO6.out.cell 3
      have y3 := HO6.out.frozen 3
      have HS7 := Lib.hid (HS6.out.oSet HO6.out hbB 3 (.int .u32 (cl : Nat)))
      have HO7 := Lib.hid (HO6.out.set_ 3 (.int .u32 (cl : Nat)))
      clear HNM hf6 F6 HS5 HO5 c13 o5 HS6 HO6 hclE
      go_upto_region 18 with fail
      generalize w6.setCell ⟨b16, 3, none⟩ (.int .u32 (cl : Int)) = W7 at *
      have o0 := HO7.out.cell 0
      have o1 := HO7.out.cell 1
      have o2 := HO7.out.cell 2
      have o3' := HO7.out.cell 3
      have o4 := HO7.out.cell 4
      clear o3 y3
      have hfit : (⟨sx, fx, px, cl, rx⟩ : Hd).Fit := ⟨HUO.out.fit.size, HUO.out.fit.fmt, HUO.out.fit.spare, hcl, HUO.out.fit.ser⟩
      have HPK := Lib.hid (Pack_any ⟨sx, fx, px, cl, rx⟩ hfit HUO.out.may W7 (fun i hi => (World.cell?_of_block (a := ⟨0, i, none⟩) (HS7.out.fr.block _ HW0.out.2)).trans (HW0.out.1 i hi)))
      go_wp2_with fail
      refine HPK.out.mono ?_
      rintro e w8 ⟨rfl, hb8⟩
      rw [show (⟨sx, fx, px, cl, rx⟩ : Hd).packed = .agg #[.int .u32 (⟨sx, fx, px, cl, rx⟩ : Hd).w0, .int .u32 (cl : Nat), .int .u32 (rx : Nat)] from rfl]
      obtain ⟨wz, hwz⟩ : ∃ wz, wz = (⟨sx, fx, px, cl, rx⟩ : Hd).w0 := ⟨_, rfl⟩
      have HWZ := Lib.hid hwz
      rw [← hwz]
      have HS9 := Lib.hid ((HS7.out.below hb8).below ((Below.refl _ _).alloc (Nat.le_refl _) (.cells #[.int .u32 (wz : Nat), .int .u32 (cl : Nat), .int .u32 (rx : Nat)] 248)))
      have HO9 := Lib.hid ((HO7.out.below hb8 HO7.out.lt).alloc (.cells #[.int .u32 (wz : Nat), .int .u32 (cl : Nat), .int .u32 (rx : Nat)] 248))
      have HB9 := Lib.hid (Blk.new w8 248 #[.int .u32 (wz : Nat), .int .u32 (cl : Nat), .int .u32 (rx : Nat)])
      have HWE := Lib.hid (show ∀ fs', (obOf (uf.map Wr.th) ⟨⟨sx, fx, px, cx, rx⟩, ufs⟩).fs = fs' → 0 :: wsOf (((uf.map Wr.th).take (k + 1)).map (obOf (uf.map Wr.th))) = (0 :: wsOf (((uf.map Wr.th).take k).map (obOf (uf.map Wr.th)))) ++ [wz, cl, rx] ++ fs' from fun fs' hfs => by
       rw [HTK.out, List.map_append, wsOf_app, ← hfs, hwz, HCL.out]
       simp only [List.map_cons, List.map_nil, wsOf_cons, wsOf_nil, List.append_nil, List.cons_append, List.append_assoc, List.nil_append]
       rfl)
      have HFE2 := Lib.hid (show ∀ b, wrongT (uf.map Wr.th) ⟨⟨sx, fx, px, cx, rx⟩, ufs⟩ = (wrongN (uf.map Wr.th) cx || b) → (!(((uf.map Wr.th).take (k + 1)).any (wrongT (uf.map Wr.th)))) = ((!(((uf.map Wr.th).take k).any (wrongT (uf.map Wr.th))) && !wrongN (uf.map Wr.th) cx) && !b) from fun b hb => by
       rw [HTK.out, List.any_append]
       simp only [List.any_cons, List.any_nil, Bool.or_false]
       rw [show wrongT (uf.map Wr.th) (Wr.th ⟨⟨sx, fx, px, cx, rx⟩, uA, uc, ufs, upl⟩) = (wrongN (uf.map Wr.th) cx || b) from hb]
       cases ((uf.map Wr.th).take k).any (wrongT (uf.map Wr.th)) <;> cases wrongN (uf.map Wr.th) cx <;> cases b <;> rfl)
      have hl0 : (0 :: wsOf (((uf.map Wr.th).take k).map (obOf (uf.map Wr.th)))).length ≤ 1048576 := HLW.out k
      clear HPK HS7 HO7 hb8 o0 o1 o2 o3' o4 hwz hfit HTK
      generalize (0 :: wsOf (((uf.map Wr.th).take k).map (obOf (uf.map Wr.th)))) = ws0 at *
      generalize ((!(((uf.map Wr.th).take k).any (wrongT (uf.map Wr.th)))) && !wrongN (uf.map Wr.th) cx) = fb2 at *
      go_upto_region 19 with fail
      generalize w8.alloc (.cells #[.int .u32 (wz : Int), .int .u32 (cl : Int), .int .u32 (rx : Int)] 248) = W9 at *
      generalize w8.heap.size = b17 at *
      refine wp_region_U 5 (fun w' => w'.cell? ⟨w.heap.size, 3, none⟩ = some vw ∧ True) (by kernel_rfl) ?_
      have hbd : Below W9.heap.size W9 W9.drew := ⟨rfl, rfl, rfl, Nat.le_refl _, fun _ _ => rfl⟩
      have HSq := Lib.hid (HS9.out.below hbd)
      have HOq := Lib.hid (HO9.out.below hbd HO9.out.lt)
      have HBq := Lib.hid (HB9.out.below hbd HB9.out.lt)
      clear hbd HS9 HO9 HB9
      generalize W9.drew = wq at *
      have hS : wq.cell? ⟨w.heap.size, 3, none⟩ = some vw ∧ True := ⟨HSq.out.box.cell 3, trivial⟩
      obtain ⟨i0, hi0, hz0, hz1, hz2⟩ := info_parts info_u32
      refine U_read 0 (v := (.pointer (some ⟨w.heap.size, 3, none⟩))) rfl (by kernel_rfl) (fun _ _ _ h => h) hS (by rfl) (fun w' hw' => by obtain ⟨h0, h1⟩ := hw'; go_simp) ?_
      try simp only [Act.put, List.setIfInBounds_toArray, List.set_cons_zero, List.set_cons_succ]
      refine U_read 1 (v := vw) rfl (by kernel_rfl) (fun _ _ _ h => h) hS (by rfl) (fun w' hw' => by obtain ⟨h0, h1⟩ := hw'; go_simp) ?_
      try simp only [Act.put, List.setIfInBounds_toArray, List.set_cons_zero, List.set_cons_succ]
      refine U_read 2 (v := (.slice (some ⟨b17, 0, none⟩) 3 3)) rfl (by kernel_rfl) (fun _ _ _ h => h) hS (by rfl) (fun w' hw' => by obtain ⟨h0, h1⟩ := hw'; go_simp) ?_
      try simp only [Act.put, List.setIfInBounds_toArray, List.set_cons_zero, List.set_cons_succ]
      refine U_one 3 (by kernel_rfl) rfl rfl (fun K hK => ?_)
      have hrd3 : Reads wq wq.heap.size 1 (some ⟨b17, 0, none⟩) 3 (u32s [wz, cl, rx]) := ⟨rfl, fun _ => ⟨_, rfl, HBq.out.lt, fun jj v hv => by
       rw [WideShapes.add_plain, Nat.zero_add]
       refine (HBq.out.cell jj).trans ?_
       rw [← hv]
       simp [u32s]⟩⟩
      refine wp_append_any _ (.tmp 70) (.tmp 71) _ rfl Bw 32 i0 _ 1 4 Tryz.underlying84 hi0 hz0 hz1 hz2 rfl (by omega) vw ws0.length (u32s ws0) rfl HSq.out.wo wq.heap.size (some ⟨b17, 0, none⟩) 3 3 (u32s [wz, cl, rx]) rfl hrd3 (one_u32s _) (by simp only [maxLen]; omega) (by omega) HSq.out.top ?_
      intro v10 w10 hown10 hg10 hat10
      obtain ⟨g10, c10, rfl, -, -, -⟩ := Row.of_any hown10 (by omega)
      have HS11 := Lib.hid (HSq.out.appW (ys := [wz, cl, rx]) rfl hown10 hg10)
      have HO11 := Lib.hid (HSq.out.oAppW (v' := .slice (some ⟨g10, 0, none⟩) (ws0.length + 3) c10) HOq.out hg10)
      have hcu := (HSq.out.room hg10).cell 3
      have hfz := (HSq.out.room hg10).frozen 3
      have hS10 : w10.cell? ⟨w.heap.size, 3, none⟩ = some vw ∧ True := ⟨hcu, trivial⟩
      clear hown10 hg10 hat10 hrd3 HSq HOq HBq
      refine hK _ _ (fun _ => hS10) ?_
      clear hK K
      try simp only [Act.put, List.setIfInBounds_toArray, List.set_cons_zero, List.set_cons_succ]
      refine U_one 4 (by kernel_rfl) rfl rfl (fun K hK => ?_)
      go_simp
      refine hK _ _ (fun _ => hS10) ?_
      clear hK K
      try simp only [Act.put, List.setIfInBounds_toArray, List.set_cons_zero, List.set_cons_succ]
      refine U_one 5 (by kernel_rfl) rfl rfl (fun K hK => ?_)
      go_simp
      refine hK _ _ (fun h => absurd h (by decide)) ?_
      clear hK K
      try simp only [Act.put, List.setIfInBounds_toArray, List.set_cons_zero, List.set_cons_succ]
      refine U_done (by kernel_rfl) ?_ _
      simp only [Calm, Exit.then]
      clear hS hS10 hcu hfz
      generalize w10.setCell ⟨w.heap.size, 3, none⟩ (.slice (some ⟨g10, 0, none⟩) (ws0.length + 3) c10) = W12 at *
      have HS12 := HS11
      have HO12 := Lib.hid (show Blk W12 b16 303 #[.int .i64 sx, .int .i64 fx, .int .i64 px, .int .u32 cl, .int .u32 rx, .int .u32 cx, .slice uA ufs.length uc, .int .i64 upl] from HO11.out)
      clear HS11 HO11
      have o6 := HO12.out.cell 6
      have HWL := Lib.hid (show (ws0 ++ [wz, cl, rx]).length ≤ 1048579 ∧ ufs.length ≤ 65535 from by
       have h1 := HUO.out.size
       have h2 : ufs.length = sx := h1
       have h3 := HUO.out.may
       have h4 : (⟨sx, fx, px, cx, rx⟩ : Hd).may = true := h3
       unfold Hd.may at h4
       simp only [Bool.and_eq_true, Bool.or_eq_true, decide_eq_true_eq] at h4
       rw [List.length_append]
       simp only [List.length_cons, List.length_nil]
       omega)
      generalize ws0 ++ [wz, cl, rx] = ws1 at *
      have hufl : ufs.length ≤ 65535 := HWL.out.2
      by_cases hf1 : fx = 1
      ·have hd1 : ((fx : Int) == 1) = true := by simp; omega
       have HFX := Lib.hid hf1
       clear hf1
       go_wp2_with fail
       clear o6
       go_loopw [20, 77] (fun _ i wr => ∃ (j : Nat) (vw : Value), i = .int .i64 j ∧ j ≤ ufs.length ∧ LaySt Bg w wr w.heap.size (w.heap.size + 1) bf b13 (w.heap.size + 1 + 1) g (some ⟨g, 0, none⟩) c uf last (fb2 && !((ufs.take j).any (wrongV (uf.map Wr.th)))) Bw vw (ws1 ++ (ufs.take j).map (valT (uf.map Wr.th))) (.slice none 0 0) [] ∧ Blk wr b16 303 #[.int .i64 sx, .int .i64 fx, .int .i64 px, .int .u32 cl, .int .u32 rx, .int .u32 cx, .slice uA ufs.length uc, .int .i64 upl]) (fun _ i _ => ufs.length - (intOf i).toNat)
       case atStart => exact ⟨0, _, rfl, Nat.zero_le _, by simpa using HS12.out, HO12.out⟩
       case round =>
        clear HS12 HO12
        obtain ⟨j, vw, rfl, hj, S, O⟩ := hrel
        have HS := Lib.hid S
        have HO := Lib.hid O
        by_cases hjn : j < ufs.length
        ·have hd2 : decide ((j : Int) < (ufs.length : Int)) = true := by simp; omega
         have hjni : (j : Int) < (ufs.length : Int) := by omega
         obtain ⟨ad, v0, hA2, -, hv0, hcj⟩ := (HUF.out wr S.flds).1.at_ hjn
         rw [u32s_get hjn] at hv0
         injection hv0 with hv0
         subst hv0 hA2
         have hf32 : ufs.getD j 0 < 4294967296 := by rw [List.getD_eq_getElem?_getD, List.getElem?_eq_getElem hjn]; exact HUO.out.f32 _ (List.getElem_mem hjn)
         have HTJ := Lib.hid (show (ufs.take (j + 1)).map (valT (uf.map Wr.th)) = (ufs.take j).map (valT (uf.map Wr.th)) ++ [valT (uf.map Wr.th) (ufs.getD j 0)] from by rw [List.take_add_one, List.getElem?_eq_getElem hjn, List.map_append, List.getD_eq_getElem?_getD, List.getElem?_eq_getElem hjn]; rfl)
         have HFJ := Lib.hid (show (ufs.take (j + 1)).any (wrongV (uf.map Wr.th)) = ((ufs.take j).any (wrongV (uf.map Wr.th)) || wrongV (uf.map Wr.th) (ufs.getD j 0)) from by rw [List.take_add_one, List.getElem?_eq_getElem hjn, List.any_append, List.getD_eq_getElem?_getD, List.getElem?_eq_getElem hjn]; simp)
         have o1 := O.cell 1
         have o6 := O.cell 6
         have hwl : ((ws1 ++ (ufs.take j).map (valT (uf.map Wr.th))).length) ≤ 9000000 := by have := HWL.out; simp only [List.length_append, List.length_map, List.length_take]; omega
         clear S O
         generalize ufs.getD j 0 = f at *
         generalize (ufs.take j).map (valT (uf.map Wr.th)) = pk at *
         generalize (ufs.take j).any (wrongV (uf.map Wr.th)) = fbj at *
         have HVC := Lib.hid (layvalue_any HS.out.v f hf32)
         go_wp2_with fail
         refine HVC.out.mono ?_
         rintro e w13 ⟨rfl, hf13, F13⟩
         have HS13 := Lib.hid (HS.out.fineS hf13 F13)
         have HO13 := Lib.hid (HS.out.oFine HO.out F13)
         have hv32 := valT_lt (uf.map Wr.th) f
         have HFE := Lib.hid (show (fb2 && !fbj && !wrongV (uf.map Wr.th) f) = (fb2 && !(fbj || wrongV (uf.map Wr.th) f)) from by cases fb2 <;> cases fbj <;> cases wrongV (uf.map Wr.th) f <;> rfl)
         have hS13 := HS13.out
         rw [HFE.out] at hS13
         have HS14 := Lib.hid hS13
         clear HVC hf13 F13 HS HO hcj o1 o6 HS13 hS13 HFE
         generalize valT (uf.map Wr.th) f = y at *
         have q3 := HS14.out.box.cell 3
         have HSA := Lib.hid (HS14.out.below ((Below.refl _ _).alloc (Nat.le_refl _) (.cells #[.int .u32 (y : Nat)] 32)))
         have HOA := Lib.hid (HO13.out.below ((Below.refl _ _).alloc (Nat.le_refl _) (.cells #[.int .u32 (y : Nat)] 32)) HO13.out.lt)
         obtain ⟨nl, hnl⟩ : ∃ n, n = (ws1 ++ pk).length := ⟨_, rfl⟩
         have HWO := Lib.hid (show World.ownsRow _ Bw 32 1 vw nl (u32s (ws1 ++ pk)) from by rw [hnl]; exact HSA.out.wo)
         have HNL := Lib.hid hnl
         have hnb : nl ≤ 9000000 := by rw [hnl]; exact hwl
         clear hnl hwl
         go_wp2_with (at_builtin; refine wpList_append_any _ rfl (.tmp 95) (.tmp 97) _ rfl Bw 32 i0 _ 1 4 Tryz.underlying84 hi0 hz0 hz1 hz2 rfl (by omega) vw nl (u32s (ws1 ++ pk)) rfl HWO.out (w13.heap.size + 1) (some ⟨w13.heap.size, 0, none⟩) 1 1 (u32s [y]) rfl ⟨rfl, fun _ => ⟨_, rfl, by simp, cell_one_new _ _ _⟩⟩ (one_u32s _) (by simp only [maxLen]; omega) (by omega) (HSA.out.top) ?_; intro v15 w15 hown15 hg15 hat15; obtain ⟨g15, c15, rfl, -, -, -⟩ := Row.of_any hown15 (by omega); have HS15 := Lib.hid (HSA.out.appW (ys := [y]) rfl (by rw [← HNL.out]; exact hown15) hg15); have HO15 := Lib.hid (HSA.out.oAppW (v' := .slice (some ⟨g15, 0, none⟩) (nl + 1) c15) HOA.out hg15); have hfz := (HSA.out.room hg15).frozen 3; have hcu := (HSA.out.room hg15).cell 3; clear hown15 hg15 hat15 HSA HOA q3)
         go_roundw
         case rel => exact ⟨j + 1, _, by go_num, by omega, by rw [HTJ.out, HFJ.out, ← List.append_assoc]; exact HS15.out, HO15.out⟩
         case measure => simp [intOf]; omega
        ·obtain rfl : j = ufs.length := by omega
         have hd2 : decide ((ufs.length : Int) < (ufs.length : Int)) = false := by simp
         have hS := HS.out
         rw [List.take_length] at hS
         have HSE := Lib.hid (show LaySt Bg w wr w.heap.size (w.heap.size + 1) bf b13 (w.heap.size + 1 + 1) g (some ⟨g, 0, none⟩) c uf last (!(((uf.map Wr.th).take (k + 1)).any (wrongT (uf.map Wr.th)))) Bw vw (0 :: wsOf (((uf.map Wr.th).take (k + 1)).map (obOf (uf.map Wr.th)))) (.slice none 0 0) [] from by
          have e1 := HWE.out (ufs.map (valT (uf.map Wr.th))) (by unfold obOf; rw [if_pos (by show Hd.ptrT ⟨sx, fx, px, cx, rx⟩ = true; unfold Hd.ptrT; simp [HFX.out])])
          have e2 := HFE2.out (ufs.any (wrongV (uf.map Wr.th))) (by unfold wrongT; rw [show (⟨⟨sx, fx, px, cx, rx⟩, ufs⟩ : Th).x.ptrT = true by show Hd.ptrT ⟨sx, fx, px, cx, rx⟩ = true; unfold Hd.ptrT; simp [HFX.out]]; simp)
          rw [e1, e2]
          exact hS
         )
         clear hS HS HO hj hjn S O
         go_wp2_with fail
         go_roundw
         case rel => exact ⟨k + 1, vw, by go_num, by omega, HSE.out⟩
         case measure => simp [intOf]; omega
      ·have hd1 : ((fx : Int) == 1) = false := by simp; omega
       by_cases hf4 : fx = 4
       ·have hd4 : ((fx : Int) == 4) = true := by simp; omega
        have HFX := Lib.hid hf4
        clear hf1 hf4
        go_wp2_with fail
        clear o6
        go_loopw [20, 77] (fun _ i wr => ∃ (j : Nat) (vw : Value), i = .int .i64 j ∧ j ≤ ufs.length ∧ LaySt Bg w wr w.heap.size (w.heap.size + 1) bf b13 (w.heap.size + 1 + 1) g (some ⟨g, 0, none⟩) c uf last (fb2 && !((ufs.take j).any (wrongV (uf.map Wr.th)))) Bw vw (ws1 ++ (ufs.take j).map (valT (uf.map Wr.th))) (.slice none 0 0) [] ∧ Blk wr b16 303 #[.int .i64 sx, .int .i64 fx, .int .i64 px, .int .u32 cl, .int .u32 rx, .int .u32 cx, .slice uA ufs.length uc, .int .i64 upl]) (fun _ i _ => ufs.length - (intOf i).toNat)
        case atStart => exact ⟨0, _, rfl, Nat.zero_le _, by simpa using HS12.out, HO12.out⟩
        case round =>
         clear HS12 HO12
         obtain ⟨j, vw, rfl, hj, S, O⟩ := hrel
         have HS := Lib.hid S
         have HO := Lib.hid O
         by_cases hjn : j < ufs.length
         ·have hd2 : decide ((j : Int) < (ufs.length : Int)) = true := by simp; omega
          have hjni : (j : Int) < (ufs.length : Int) := by omega
          obtain ⟨ad, v0, hA2, -, hv0, hcj⟩ := (HUF.out wr S.flds).1.at_ hjn
          rw [u32s_get hjn] at hv0
          injection hv0 with hv0
          subst hv0 hA2
          have hf32 : ufs.getD j 0 < 4294967296 := by rw [List.getD_eq_getElem?_getD, List.getElem?_eq_getElem hjn]; exact HUO.out.f32 _ (List.getElem_mem hjn)
          have HTJ := Lib.hid (show (ufs.take (j + 1)).map (valT (uf.map Wr.th)) = (ufs.take j).map (valT (uf.map Wr.th)) ++ [valT (uf.map Wr.th) (ufs.getD j 0)] from by rw [List.take_add_one, List.getElem?_eq_getElem hjn, List.map_append, List.getD_eq_getElem?_getD, List.getElem?_eq_getElem hjn]; rfl)
          have HFJ := Lib.hid (show (ufs.take (j + 1)).any (wrongV (uf.map Wr.th)) = ((ufs.take j).any (wrongV (uf.map Wr.th)) || wrongV (uf.map Wr.th) (ufs.getD j 0)) from by rw [List.take_add_one, List.getElem?_eq_getElem hjn, List.any_append, List.getD_eq_getElem?_getD, List.getElem?_eq_getElem hjn]; simp)
          have o1 := O.cell 1
          have o6 := O.cell 6
          have hwl : ((ws1 ++ (ufs.take j).map (valT (uf.map Wr.th))).length) ≤ 9000000 := by have := HWL.out; simp only [List.length_append, List.length_map, List.length_take]; omega
          clear S O
          generalize ufs.getD j 0 = f at *
          generalize (ufs.take j).map (valT (uf.map Wr.th)) = pk at *
          generalize (ufs.take j).any (wrongV (uf.map Wr.th)) = fbj at *
          have HVC := Lib.hid (layvalue_any HS.out.v f hf32)
          go_wp2_with fail
          refine HVC.out.mono ?_
          rintro e w13 ⟨rfl, hf13, F13⟩
          have HS13 := Lib.hid (HS.out.fineS hf13 F13)
          have HO13 := Lib.hid (HS.out.oFine HO.out F13)
          have hv32 := valT_lt (uf.map Wr.th) f
          have HFE := Lib.hid (show (fb2 && !fbj && !wrongV (uf.map Wr.th) f) = (fb2 && !(fbj || wrongV (uf.map Wr.th) f)) from by cases fb2 <;> cases fbj <;> cases wrongV (uf.map Wr.th) f <;> rfl)
          have hS13 := HS13.out
          rw [HFE.out] at hS13
          have HS14 := Lib.hid hS13
          clear HVC hf13 F13 HS HO hcj o1 o6 HS13 hS13 HFE
          generalize valT (uf.map Wr.th) f = y at *
          have q3 := HS14.out.box.cell 3
          have HSA := Lib.hid (HS14.out.below ((Below.refl _ _).alloc (Nat.le_refl _) (.cells #[.int .u32 (y : Nat)] 32)))
          have HOA := Lib.hid (HO13.out.below ((Below.refl _ _).alloc (Nat.le_refl _) (.cells #[.int .u32 (y : Nat)] 32)) HO13.out.lt)
          obtain ⟨nl, hnl⟩ : ∃ n, n = (ws1 ++ pk).length := ⟨_, rfl⟩
          have HWO := Lib.hid (show World.ownsRow _ Bw 32 1 vw nl (u32s (ws1 ++ pk)) from by rw [hnl]; exact HSA.out.wo)
          have HNL := Lib.hid hnl
          have hnb : nl ≤ 9000000 := by rw [hnl]; exact hwl
          clear hnl hwl
          go_wp2_with (at_builtin; refine wpList_append_any _ rfl (.tmp 95) (.tmp 97) _ rfl Bw 32 i0 _ 1 4 Tryz.underlying84 hi0 hz0 hz1 hz2 rfl (by omega) vw nl (u32s (ws1 ++ pk)) rfl HWO.out (w13.heap.size + 1) (some ⟨w13.heap.size, 0, none⟩) 1 1 (u32s [y]) rfl ⟨rfl, fun _ => ⟨_, rfl, by simp, cell_one_new _ _ _⟩⟩ (one_u32s _) (by simp only [maxLen]; omega) (by omega) (HSA.out.top) ?_; intro v15 w15 hown15 hg15 hat15; obtain ⟨g15, c15, rfl, -, -, -⟩ := Row.of_any hown15 (by omega); have HS15 := Lib.hid (HSA.out.appW (ys := [y]) rfl (by rw [← HNL.out]; exact hown15) hg15); have HO15 := Lib.hid (HSA.out.oAppW (v' := .slice (some ⟨g15, 0, none⟩) (nl + 1) c15) HOA.out hg15); have hfz := (HSA.out.room hg15).frozen 3; have hcu := (HSA.out.room hg15).cell 3; clear hown15 hg15 hat15 HSA HOA q3)
          go_roundw
          case rel => exact ⟨j + 1, _, by go_num, by omega, by rw [HTJ.out, HFJ.out, ← List.append_assoc]; exact HS15.out, HO15.out⟩
          case measure => simp [intOf]; omega
         ·obtain rfl : j = ufs.length := by omega
          have hd2 : decide ((ufs.length : Int) < (ufs.length : Int)) = false := by simp
          have hS := HS.out
          rw [List.take_length] at hS
          have HSE := Lib.hid (show LaySt Bg w wr w.heap.size (w.heap.size + 1) bf b13 (w.heap.size + 1 + 1) g (some ⟨g, 0, none⟩) c uf last (!(((uf.map Wr.th).take (k + 1)).any (wrongT (uf.map Wr.th)))) Bw vw (0 :: wsOf (((uf.map Wr.th).take (k + 1)).map (obOf (uf.map Wr.th)))) (.slice none 0 0) [] from by
           have e1 := HWE.out (ufs.map (valT (uf.map Wr.th))) (by unfold obOf; rw [if_pos (by show Hd.ptrT ⟨sx, fx, px, cx, rx⟩ = true; unfold Hd.ptrT; simp [HFX.out])])
           have e2 := HFE2.out (ufs.any (wrongV (uf.map Wr.th))) (by unfold wrongT; rw [show (⟨⟨sx, fx, px, cx, rx⟩, ufs⟩ : Th).x.ptrT = true by show Hd.ptrT ⟨sx, fx, px, cx, rx⟩ = true; unfold Hd.ptrT; simp [HFX.out]]; simp)
           rw [e1, e2]
           exact hS
          )
          clear hS HS HO hj hjn S O
          go_wp2_with fail
          go_roundw
          case rel => exact ⟨k + 1, vw, by go_num, by omega, HSE.out⟩
          case measure => simp [intOf]; omega
       ·have hd4 : ((fx : Int) == 4) = false := by simp; omega
        have HFX := Lib.hid (And.intro hf1 hf4)
        clear hf1 hf4
        go_wp2_with fail
        clear o6
        go_loopw [20, 77] (fun _ i wr => ∃ (j : Nat) (vw : Value), i = .int .i64 j ∧ j ≤ ufs.length ∧ LaySt Bg w wr w.heap.size (w.heap.size + 1) bf b13 (w.heap.size + 1 + 1) g (some ⟨g, 0, none⟩) c uf last fb2 Bw vw (ws1 ++ ufs.take j) (.slice none 0 0) [] ∧ Blk wr b16 303 #[.int .i64 sx, .int .i64 fx, .int .i64 px, .int .u32 cl, .int .u32 rx, .int .u32 cx, .slice uA ufs.length uc, .int .i64 upl]) (fun _ i _ => ufs.length - (intOf i).toNat)
        case atStart => exact ⟨0, _, rfl, Nat.zero_le _, by simpa using HS12.out, HO12.out⟩
        case round =>
         clear HS12 HO12
         obtain ⟨j, vw, rfl, hj, S, O⟩ := hrel
         have HS := Lib.hid S
         have HO := Lib.hid O
         by_cases hjn : j < ufs.length
         ·have hd2 : decide ((j : Int) < (ufs.length : Int)) = true := by simp; omega
          have hjni : (j : Int) < (ufs.length : Int) := by omega
          obtain ⟨ad, v0, hA2, -, hv0, hcj⟩ := (HUF.out wr S.flds).1.at_ hjn
          rw [u32s_get hjn] at hv0
          injection hv0 with hv0
          subst hv0 hA2
          have hf32 : ufs.getD j 0 < 4294967296 := by rw [List.getD_eq_getElem?_getD, List.getElem?_eq_getElem hjn]; exact HUO.out.f32 _ (List.getElem_mem hjn)
          have HTJ := Lib.hid (show ufs.take (j + 1) = ufs.take j ++ [ufs.getD j 0] from by rw [List.take_add_one, List.getElem?_eq_getElem hjn, List.getD_eq_getElem?_getD, List.getElem?_eq_getElem hjn]; rfl)
          have o1 := O.cell 1
          have o6 := O.cell 6
          have hwl : ((ws1 ++ ufs.take j).length) ≤ 9000000 := by have := HWL.out; simp only [List.length_append, List.length_take]; omega
          clear S O
          generalize ufs.getD j 0 = f at *
          generalize ufs.take j = pk at *
          generalize hyf : f = y at *
          clear hyf
          have q3 := HS.out.box.cell 3
          have HSA := Lib.hid (HS.out.below ((Below.refl _ _).alloc (Nat.le_refl _) (.cells #[.int .u32 (y : Nat)] 32)))
          have HOA := Lib.hid (HO.out.below ((Below.refl _ _).alloc (Nat.le_refl _) (.cells #[.int .u32 (y : Nat)] 32)) HO.out.lt)
          obtain ⟨nl, hnl⟩ : ∃ n, n = (ws1 ++ pk).length := ⟨_, rfl⟩
          have HWO := Lib.hid (show World.ownsRow _ Bw 32 1 vw nl (u32s (ws1 ++ pk)) from by rw [hnl]; exact HSA.out.wo)
          have HNL := Lib.hid hnl
          have hnb : nl ≤ 9000000 := by rw [hnl]; exact hwl
          clear hnl hwl
          go_wp2_with (at_builtin; refine wpList_append_any _ rfl (.tmp 95) (.tmp 97) _ rfl Bw 32 i0 _ 1 4 Tryz.underlying84 hi0 hz0 hz1 hz2 rfl (by omega) vw nl (u32s (ws1 ++ pk)) rfl HWO.out (wr.heap.size + 1) (some ⟨wr.heap.size, 0, none⟩) 1 1 (u32s [y]) rfl ⟨rfl, fun _ => ⟨_, rfl, by simp, cell_one_new _ _ _⟩⟩ (one_u32s _) (by simp only [maxLen]; omega) (by omega) (HSA.out.top) ?_; intro v15 w15 hown15 hg15 hat15; obtain ⟨g15, c15, rfl, -, -, -⟩ := Row.of_any hown15 (by omega); have HS15 := Lib.hid (HSA.out.appW (ys := [y]) rfl (by rw [← HNL.out]; exact hown15) hg15); have HO15 := Lib.hid (HSA.out.oAppW (v' := .slice (some ⟨g15, 0, none⟩) (nl + 1) c15) HOA.out hg15); have hfz := (HSA.out.room hg15).frozen 3; have hcu := (HSA.out.room hg15).cell 3; clear hown15 hg15 hat15 HSA HOA q3)
          go_roundw
          case rel => exact ⟨j + 1, _, by go_num, by omega, by rw [HTJ.out, ← List.append_assoc]; exact HS15.out, HO15.out⟩
          case measure => simp [intOf]; omega
         ·obtain rfl : j = ufs.length := by omega
          have hd2 : decide ((ufs.length : Int) < (ufs.length : Int)) = false := by simp
          have hS := HS.out
          rw [List.take_length] at hS
          have HSE := Lib.hid (show LaySt Bg w wr w.heap.size (w.heap.size + 1) bf b13 (w.heap.size + 1 + 1) g (some ⟨g, 0, none⟩) c uf last (!(((uf.map Wr.th).take (k + 1)).any (wrongT (uf.map Wr.th)))) Bw vw (0 :: wsOf (((uf.map Wr.th).take (k + 1)).map (obOf (uf.map Wr.th)))) (.slice none 0 0) [] from by
           have e1 := HWE.out (ufs) (by unfold obOf; rw [if_neg (by show ¬ Hd.ptrT ⟨sx, fx, px, cx, rx⟩ = true; unfold Hd.ptrT; simp; have := HFX.out; omega)])
           have e2 := HFE2.out false (by unfold wrongT; rw [show (⟨⟨sx, fx, px, cx, rx⟩, ufs⟩ : Th).x.ptrT = false by show Hd.ptrT ⟨sx, fx, px, cx, rx⟩ = false; unfold Hd.ptrT; simp; have := HFX.out; omega]; simp)
           rw [e1, e2]
           simpa using hS
          )
          clear hS HS HO hj hjn S O
          go_wp2_with fail
          go_roundw
          case rel => exact ⟨k + 1, vw, by go_num, by omega, HSE.out⟩
          case measure => simp [intOf]; omega
     ·obtain rfl : k = uf.length := by omega
      have hd : decide ((uf.length : Int) < (uf.length : Int)) = false := by simp
      have hS := HS.out
      rw [show (uf.map Wr.th).take uf.length = uf.map Wr.th from List.take_of_length_le (by simp)] at hS
      have HW9 := Lib.hid (show (0 :: wsOf ((uf.map Wr.th).map (obOf (uf.map Wr.th)))) = (⟨uf.map Wr.th, rts, last⟩ : Img).words from rfl)
      have HFW := Lib.hid (show (!(uf.map Wr.th).any (wrongT (uf.map Wr.th)) && !(rts.any (wrongV (uf.map Wr.th)))) = !(⟨uf.map Wr.th, rts, last⟩ : Img).wrong from by
       unfold Img.wrong
       cases (uf.map Wr.th).any (wrongT (uf.map Wr.th)) <;> cases rts.any (wrongV (uf.map Wr.th)) <;> rfl)
      have HRO := Lib.hid (show rts.map (valT (uf.map Wr.th)) = (⟨uf.map Wr.th, rts, last⟩ : Img).roots from rfl)
      have HSW := Lib.hid hS
      have hrl : rts.length = 64 := by have := HRR.out.1; rw [u32s_len] at this; omega
      clear hS HS hk hkn HLW
      generalize (0 :: wsOf ((uf.map Wr.th).map (obOf (uf.map Wr.th)))) = wsF at *
      generalize (!(uf.map Wr.th).any (wrongT (uf.map Wr.th))) = fbO at *
      go_wp2_with fail
      clear hd
      obtain ⟨i0, hi0, hz0, hz1, hz2⟩ := info_parts info_oop
      go_loopw [104] (fun i wr => ∃ (k : Nat) (vr : Value), i = .int .i64 k ∧ k ≤ 64 ∧ LaySt Bg w wr w.heap.size (w.heap.size + 1) bf b13 (w.heap.size + 1 + 1) g A c uf last (fbO && !((rts.take k).any (wrongV (uf.map Wr.th)))) Bw vw wsF vr ((rts.take k).map (valT (uf.map Wr.th)))) (fun i _ => 64 - (intOf i).toNat)
      case atStart => exact ⟨0, _, rfl, Nat.zero_le _, by simpa using HSW.out⟩
      case round =>
       clear HSW
       obtain ⟨k, vr, rfl, hk, S⟩ := hrel
       have HS := Lib.hid S
       by_cases hkn : k < 64
       ·have hd : decide ((k : Int) < 64) = true := by simp; omega
        have hkni : (k : Int) < 64 := by omega
        have hkr : k < rts.length := by omega
        have hkr0 : k < nr := by omega
        obtain ⟨ad, v0, hA2, hbl, hv0, hc0⟩ := HRR.out.at_ hkr0
        have hcj : wr.cell? (ad.add k) = some v0 := (World.cell?_of_block (a := ad.add k) (by rw [block_of_add]; exact S.kept ad.block hbl (HRG.out ad hA2))).trans hc0
        rw [u32s_get hkr] at hv0
        injection hv0 with hv0
        subst hv0 hA2
        have hx32 : rts.getD k 0 < 4294967296 := by rw [List.getD_eq_getElem?_getD, List.getElem?_eq_getElem hkr]; exact HR32.out _ (List.getElem_mem hkr)
        have HTJ := Lib.hid (show (rts.take (k + 1)).map (valT (uf.map Wr.th)) = (rts.take k).map (valT (uf.map Wr.th)) ++ [valT (uf.map Wr.th) (rts.getD k 0)] from by rw [List.take_add_one, List.getElem?_eq_getElem hkr, List.map_append, List.getD_eq_getElem?_getD, List.getElem?_eq_getElem hkr]; rfl)
        have HFJ := Lib.hid (show (rts.take (k + 1)).any (wrongV (uf.map Wr.th)) = ((rts.take k).any (wrongV (uf.map Wr.th)) || wrongV (uf.map Wr.th) (rts.getD k 0)) from by rw [List.take_add_one, List.getElem?_eq_getElem hkr, List.any_append, List.getD_eq_getElem?_getD, List.getElem?_eq_getElem hkr]; simp)
        have hpl : ((rts.take k).map (valT (uf.map Wr.th))).length ≤ 64 := by rw [List.length_map, List.length_take]; omega
        clear S hc0
        generalize rts.getD k 0 = x at *
        generalize (rts.take k).map (valT (uf.map Wr.th)) = pk at *
        generalize (rts.take k).any (wrongV (uf.map Wr.th)) = fbj at *
        go_upto_region 31 with fail
        refine wp_region_U 8 (fun w' => w'.cell? ⟨w.heap.size, 4, none⟩ = some vr ∧ True) (by kernel_rfl) ?_
        have hbd : Below wr.heap.size wr wr.drew := ⟨rfl, rfl, rfl, Nat.le_refl _, fun _ _ => rfl⟩
        have HSq := Lib.hid (HS.out.below hbd)
        clear hbd HS hcj
        generalize wr.drew = wq at *
        have hS : wq.cell? ⟨w.heap.size, 4, none⟩ = some vr ∧ True := ⟨HSq.out.box.cell 4, trivial⟩
        refine U_read 0 (v := (.pointer (some ⟨w.heap.size, 4, none⟩))) rfl (by kernel_rfl) (fun _ _ _ h => h) hS (by rfl) (fun w' hw' => by obtain ⟨h0, h1⟩ := hw'; go_simp) ?_
        try simp only [Act.put, List.setIfInBounds_toArray, List.set_cons_zero, List.set_cons_succ]
        refine U_read 1 (v := vr) rfl (by kernel_rfl) (fun _ _ _ h => h) hS (by rfl) (fun w' hw' => by obtain ⟨h0, h1⟩ := hw'; go_simp) ?_
        try simp only [Act.put, List.setIfInBounds_toArray, List.set_cons_zero, List.set_cons_succ]
        refine U_read 2 (v := (.func (.func 252) #[] #[.pointer (some ⟨b13, 0, none⟩)])) rfl (by kernel_rfl) (fun _ _ _ h => h) hS (by rfl) (fun w' hw' => by obtain ⟨h0, h1⟩ := hw'; go_simp) ?_
        try simp only [Act.put, List.setIfInBounds_toArray, List.set_cons_zero, List.set_cons_succ]
        refine U_read 3 (v := (.int .u32 (x : Int))) rfl (by kernel_rfl) (fun _ _ _ h => h) hS (by rfl) (fun w' hw' => by obtain ⟨h0, h1⟩ := hw'; go_simp) ?_
        try simp only [Act.put, List.setIfInBounds_toArray, List.set_cons_zero, List.set_cons_succ]
        refine U_one 4 (by kernel_rfl) rfl rfl (fun K hK => ?_)
        go_simp
        refine (layvalue_any HSq.out.v x hx32).mono ?_
        rintro e w13 ⟨rfl, hf13, F13⟩
        have HFE := Lib.hid (show (fbO && !fbj && !wrongV (uf.map Wr.th) x) = (fbO && !(fbj || wrongV (uf.map Wr.th) x)) from by cases fbO <;> cases fbj <;> cases wrongV (uf.map Wr.th) x <;> rfl)
        have hS13 := HSq.out.fineS hf13 F13
        rw [HFE.out] at hS13
        have HS14 := Lib.hid hS13
        have hv32 := valT_lt (uf.map Wr.th) x
        clear hf13 F13 HSq hS13 HFE
        generalize valT (uf.map Wr.th) x = y at *
        have hS14 : w13.cell? ⟨w.heap.size, 4, none⟩ = some vr ∧ True := ⟨HS14.out.box.cell 4, trivial⟩
        refine hK _ _ (fun _ => hS14) ?_
        clear hK K
        try simp only [Act.put, List.setIfInBounds_toArray, List.set_cons_zero, List.set_cons_succ]
        refine U_one 5 (by kernel_rfl) rfl rfl (fun K hK => ?_)
        go_simp
        have HSA := Lib.hid (HS14.out.below ((Below.refl _ _).alloc (Nat.le_refl _) (.cells #[.int .u32 (y : Nat)] 54)))
        have hSA : (w13.alloc (.cells #[.int .u32 (y : Nat)] 54)).cell? ⟨w.heap.size, 4, none⟩ = some vr ∧ True := ⟨HSA.out.box.cell 4, trivial⟩
        refine hK _ _ (fun _ => hSA) ?_
        clear hK K
        try simp only [Act.put, List.setIfInBounds_toArray, List.set_cons_zero, List.set_cons_succ]
        refine U_one 6 (by kernel_rfl) rfl rfl (fun K hK => ?_)
        refine wp_append_any _ (.tmp 109) (.tmp 113) _ rfl Bw 54 i0 _ 1 4 Tryz.underlying101 hi0 hz0 hz1 hz2 rfl (by omega) vr pk.length (u32s pk) rfl HSA.out.ro (w13.heap.size + 1) (some ⟨w13.heap.size, 0, none⟩) 1 1 (u32s [y]) rfl ⟨rfl, fun _ => ⟨_, rfl, by simp, cell_one_new _ _ _⟩⟩ (one_u32s _) (by simp only [maxLen]; omega) (by omega) HSA.out.top ?_
        intro v15 w15 hown15 hg15 hat15
        obtain ⟨g15, c15, rfl, -, -, -⟩ := Row.of_any hown15 (by omega)
        have HS15 := Lib.hid (HSA.out.appR (ys := [y]) rfl hown15 hg15)
        have hfz := (HSA.out.roomR hg15).frozen 4
        have hcu := (HSA.out.roomR hg15).cell 4
        have hS15 : w15.cell? ⟨w.heap.size, 4, none⟩ = some vr ∧ True := ⟨hcu, trivial⟩
        clear hown15 hg15 hat15 HSA HS14
        refine hK _ _ (fun _ => hS15) ?_
        clear hK K
        try simp only [Act.put, List.setIfInBounds_toArray, List.set_cons_zero, List.set_cons_succ]
        refine U_one 7 (by kernel_rfl) rfl rfl (fun K hK => ?_)
        go_simp
        refine hK _ _ (fun _ => hS15) ?_
        clear hK K
        try simp only [Act.put, List.setIfInBounds_toArray, List.set_cons_zero, List.set_cons_succ]
        refine U_one 8 (by kernel_rfl) rfl rfl (fun K hK => ?_)
        go_simp
        refine hK _ _ (fun h => absurd h (by decide)) ?_
        clear hK K
        try simp only [Act.put, List.setIfInBounds_toArray, List.set_cons_zero, List.set_cons_succ]
        refine U_done (by kernel_rfl) ?_ _
        simp only [Calm, Exit.then]
        clear hS hS14 hSA hS15 hcu hfz
        go_wp2_with fail
        go_roundw
        case rel => exact ⟨k + 1, _, by go_num, by omega, by rw [HTJ.out, HFJ.out]; exact HS15.out⟩
        case measure => simp [intOf]; omega
       ·obtain rfl : k = 64 := by omega
        have hd : decide ((64 : Int) < 64) = false := by decide
        have hS := S
        rw [show rts.take 64 = rts from List.take_of_length_le (by omega), HFW.out, HRO.out, HW9.out] at hS
        have HSE := Lib.hid hS
        clear hS S HS hk hkn HFW HRO HW9
        have HBG' := Lib.hid (show ¬ size < placeT (⟨uf.map Wr.th, rts, last⟩ : Img).ts from HBG.out)
        have HIL := Lib.hid (show (⟨uf.map Wr.th, rts, last⟩ : Img).last = last from rfl)
        generalize (⟨uf.map Wr.th, rts, last⟩ : Img) = im at *
        have cf := HSE.out.v.b.fn.cell 0
        have HRS := Lib.hid HSE.out.res
        have HFR := Lib.hid (show Fr1 g w wr from ⟨HSE.out.fr.os, HSE.out.fr.tape, HSE.out.fr.output, HSE.out.fr.size, HSE.out.kept⟩)
        have hw3 : w.heap.size ≤ w.heap.size + 1 + 1 := by omega
        have hbg : Bg ≤ w.heap.size := by omega
        by_cases hwr : im.wrong = true
        ·have HWR := Lib.hid hwr
         rw [hwr] at cf
         clear hwr
         simp only [Bool.not_true] at cf
         have z0 := HRS.out.frozen 0
         have z1 := HRS.out.frozen 1
         have z2 := HRS.out.frozen 2
         have z3 := HRS.out.frozen 3
         have z4 := HRS.out.frozen 4
         have d0 := HRS.out.cell 0
         have d1 := HRS.out.cell 1
         have d2 := HRS.out.cell 2
         have d3 := HRS.out.cell 3
         have d4 := HRS.out.cell 4
         have HZ5 := Lib.hid (HRS.out.setAll5 (.int .i64 0) (.int .i64 0) (.int .u32 0) (.slice none 0 0) (.slice none 0 0))
         have HFB := Lib.hid (frm5 HFR.out (g := w.heap.size + 1 + 1) (by omega) (.int .i64 0) (.int .i64 0) (.int .u32 0) (.slice none 0 0) (.slice none 0 0))
         go_wp2_with fail
         generalize (((((wr.setCell ⟨w.heap.size + 1 + 1, 0, none⟩ (.int .i64 0)).setCell ⟨w.heap.size + 1 + 1, 1, none⟩ (.int .i64 0)).setCell ⟨w.heap.size + 1 + 1, 2, none⟩ (.int .u32 0)).setCell ⟨w.heap.size + 1 + 1, 3, none⟩ (.slice none 0 0)).setCell ⟨w.heap.size + 1 + 1, 4, none⟩ (.slice none 0 0)) = WF at *
         clear z0 d0 z1 d1 z2 d2 z3 d3 z4 d4
         have f0 := HZ5.out.cell 0
         have f1 := HZ5.out.cell 1
         have f2 := HZ5.out.cell 2
         have f3 := HZ5.out.cell 3
         have f4 := HZ5.out.cell 4
         refine bodyPost_ret (v := .tuple #[.agg #[.int .i64 0, .int .i64 0, .int .u32 0, .slice none 0 0, .slice none 0 0], .int .i64 145]) (by simp [results, Tryz.results199, go_sem, f0, f1, f2, f3, f4]) rfl ?_
         exact ⟨HFB.out, by rw [if_neg HBG'.out, if_pos HWR.out]; rfl⟩
        ·have HWR := Lib.hid hwr
         rw [show im.wrong = false by simpa using hwr] at cf
         clear hwr
         simp only [Bool.not_false] at cf
         obtain ⟨AW, cW, rfl, hrW⟩ := own_sliceI HSE.out.wo
         obtain ⟨AR, cR, rfl, hrR⟩ := own_sliceI HSE.out.ro
         have hn8 := HSE.out.l8.2
         have HX1 := Lib.hid (reads5 (g := w.heap.size + 1 + 1) hrW (fun _ a ha e => by have := (HSE.out.wo.lt a.block (by rw [ha]; rfl)).1; omega) (.int .i64 2) (.int .i64 0) (.int .u32 last) (.slice AW im.words.length cW) (.slice AR im.roots.length cR))
         have HX2 := Lib.hid (reads5 (g := w.heap.size + 1 + 1) hrR (fun _ a ha e => by have := (HSE.out.ro.lt a.block (by rw [ha]; rfl)).1; omega) (.int .i64 2) (.int .i64 0) (.int .u32 last) (.slice AW im.words.length cW) (.slice AR im.roots.length cR))
         have HNW := Lib.hid (show ∀ a, AW = some a ∨ AR = some a → w.heap.size ≤ a.block from fun a ha => by
          have hl4 := HSE.out.l4
          rcases ha with ha | ha
          ·have := (HSE.out.wo.lt a.block (by rw [ha]; rfl)).1; omega
          ·have := (HSE.out.ro.lt a.block (by rw [ha]; rfl)).1; omega)
         have e0 := HSE.out.box.cell 0
         have e1 := HSE.out.box.cell 1
         have e2 := HSE.out.box.cell 2
         have e3 := HSE.out.box.cell 3
         have e4 := HSE.out.box.cell 4
         clear hrW hrR HSE
         have z0 := HRS.out.frozen 0
         have z1 := HRS.out.frozen 1
         have z2 := HRS.out.frozen 2
         have z3 := HRS.out.frozen 3
         have z4 := HRS.out.frozen 4
         have d0 := HRS.out.cell 0
         have d1 := HRS.out.cell 1
         have d2 := HRS.out.cell 2
         have d3 := HRS.out.cell 3
         have d4 := HRS.out.cell 4
         have HZ5 := Lib.hid (HRS.out.setAll5 (.int .i64 2) (.int .i64 0) (.int .u32 last) (.slice AW im.words.length cW) (.slice AR im.roots.length cR))
         have HFB := Lib.hid (frm5 HFR.out (g := w.heap.size + 1 + 1) (by omega) (.int .i64 2) (.int .i64 0) (.int .u32 last) (.slice AW im.words.length cW) (.slice AR im.roots.length cR))
         go_wp2_with fail
         generalize (((((wr.setCell ⟨w.heap.size + 1 + 1, 0, none⟩ (.int .i64 2)).setCell ⟨w.heap.size + 1 + 1, 1, none⟩ (.int .i64 0)).setCell ⟨w.heap.size + 1 + 1, 2, none⟩ (.int .u32 last)).setCell ⟨w.heap.size + 1 + 1, 3, none⟩ (.slice AW im.words.length cW)).setCell ⟨w.heap.size + 1 + 1, 4, none⟩ (.slice AR im.roots.length cR)) = WF at *
         clear z0 d0 z1 d1 z2 d2 z3 d3 z4 d4
         have f0 := HZ5.out.cell 0
         have f1 := HZ5.out.cell 1
         have f2 := HZ5.out.cell 2
         have f3 := HZ5.out.cell 3
         have f4 := HZ5.out.cell 4
         refine bodyPost_ret (v := .tuple #[.agg #[.int .i64 2, .int .i64 0, .int .u32 last, .slice AW im.words.length cW, .slice AR im.roots.length cR], .int .i64 0]) (by simp [results, Tryz.results199, go_sem, f0, f1, f2, f3, f4]) rfl ?_
         exact ⟨HFB.out, by rw [if_neg HBG'.out, if_neg HWR.out]; exact ⟨AW, AR, cW, cR, by rw [HIL.out]; rfl, HX1.out, HX2.out, HNW.out⟩⟩
end
section
open Go.RowKit
attribute [local go_sem] Oper.semAt_some
def NewP (bs : List Nat) (size : Nat) (w : World) (e : Ending) (w' : World) : Prop :=
 Below w.heap.size w w' ∧ match newM bs with
  | .error E => e = .returned (.tuple #[rdV 0 0 (.slice none 0 0) (.slice none 0 0), .int .i64 (E : Nat)])
  | .ok i => if size < placeT i.ts then e = .returned (.tuple #[rdV 0 0 (.slice none 0 0) (.slice none 0 0), .int .i64 4])
    else if i.wrong = true then e = .returned (.tuple #[rdV 0 0 (.slice none 0 0) (.slice none 0 0), .int .i64 145])
    else ∃ (A1 A2 : Option Addr) (c1 c2 : Nat), e = .returned (.tuple #[rdV 2 i.last (.slice A1 i.words.length c1) (.slice A2 i.roots.length c2), .int .i64 0]) ∧
     Reads w' w'.heap.size 1 A1 i.words.length (u32s i.words) ∧ Reads w' w'.heap.size 1 A2 i.roots.length (u32s i.roots) ∧ ∀ a, A1 = some a ∨ A2 = some a → w.heap.size ≤ a.block
theorem NewP.err {bs : List Nat} {size E : Nat} {w w' : World} (hb : Below w.heap.size w w') (h : newM bs = .error E) : NewP bs size w (.returned (.tuple #[.agg #[.int .i64 0, .int .i64 0, .int .u32 0, .slice none 0 0, .slice none 0 0], .int .i64 (E : Nat)])) w' :=
 ⟨hb, by rw [h]; rfl⟩
structure PnS (w0 W : World) (L b4 b8 gp cp last : Nat) (vs : List Value) (ps : List (List Nat)) : Prop where
 res : Blk W b4 130 #[.int .i64 0, .int .i64 0, .int .u32 0, .slice none 0 0, .slice none 0 0]
 box : Blk W b8 130 #[.int .i64 2, .int .i64 0, .int .u32 last, .slice none 0 0, .slice none 0 0]
 row : Row W gp 22 cp vs
 pay : PayV W L vs ps
 fr : Below w0.heap.size w0 W
 h4 : w0.heap.size ≤ b4
 h8 : w0.heap.size ≤ b8
 hp : w0.heap.size ≤ gp
 hL : w0.heap.size ≤ L
section
variable {w0 W W' : World} {L b4 b8 gp cp last rg : Nat} {vs : List Value} {ps : List (List Nat)}
theorem PnS.read (S : PnS w0 W L b4 b8 gp cp last vs ps) (F : Fr1 rg W W') (h1 : b4 ≠ rg) (h2 : b8 ≠ rg) (h3 : gp ≠ rg) (h4 : L ≤ rg) (h5 : L ≤ W.heap.size) : PnS w0 W' L b4 b8 gp cp last vs ps :=
 ⟨S.res.fr1 F h1, S.box.fr1 F h2, S.row.same (F.same _ S.row.lt h3), S.pay.below (F.below h4 h5), ⟨F.os.trans S.fr.os, F.tape.trans S.fr.tape, F.output.trans S.fr.output, Nat.le_trans S.fr.size F.size, fun k hk => (F.same k (Nat.lt_of_lt_of_le hk S.fr.size) (by have := S.hL; omega)).trans (S.fr.block k hk)⟩, S.h4, S.h8, S.hp, S.hL⟩
theorem PnS.below (S : PnS w0 W L b4 b8 gp cp last vs ps) (h : Below W.heap.size W W') (h5 : L ≤ W.heap.size) : PnS w0 W' L b4 b8 gp cp last vs ps :=
 ⟨S.res.below h S.res.lt, S.box.below h S.box.lt, S.row.below h, S.pay.below (h.mono h5), below_top S.fr h, S.h4, S.h8, S.hp, S.hL⟩
theorem PnS.spares (S : PnS w0 W L b4 b8 gp cp last vs ps) (hs : Spares w0) : Spares W := hs.below S.fr
end
theorem PnS.setLast {w0 W : World} {L b4 b8 gp cp last : Nat} {vs : List Value} {ps : List (List Nat)} (S : PnS w0 W L b4 b8 gp cp last vs ps) (hLb : L ≤ b8) (v : Nat) : PnS w0 (W.setCell ⟨b8, 2, none⟩ (.int .u32 v)) L b4 b8 gp cp v vs ps := by
 have hfar : ∀ k, k ≠ b8 → (W.setCell ⟨b8, 2, none⟩ (.int .u32 v)).heap[k]? = W.heap[k]? := fun k h => Below.heap_setCell W ⟨b8, 2, none⟩ (.int .u32 v) k h
 have n48 : b4 ≠ b8 := fun e => by
  have h1 := S.res
  have h2 := S.box
  unfold Blk at h1 h2
  rw [e, h2] at h1
  injection h1 with h1
  injection h1 with h1 _
  simp at h1
 exact ⟨S.res.same (hfar _ n48), S.box.set_ 2 _, S.row.same (hfar _ (S.row.ne_blk S.box (by decide))), S.pay.below (Below.setCell (Below.refl _ _) (p := ⟨b8, 2, none⟩) hLb _), S.fr.setCell (p := ⟨b8, 2, none⟩) S.h8 _, S.h4, S.h8, S.hp, S.hL⟩
theorem partsM_err {bs : List Nat} {ps : List (List Nat)} (h : rdSecs [72, 79, 82, 90] bs = .ok (ps, [])) (hp : partsM (ps.getD 0 []) (ps.getD 1 []) (ps.getD 2 []) (ps.getD 3 []) = none) : newM bs = .error 143 := by
 unfold newM
 rw [h]
 simp only [ne_eq, not_true_eq_false, if_false, hp]
theorem partsM_ok {bs : List Nat} {ps : List (List Nat)} {i : Img} (h : rdSecs [72, 79, 82, 90] bs = .ok (ps, [])) (hp : partsM (ps.getD 0 []) (ps.getD 1 []) (ps.getD 2 []) (ps.getD 3 []) = some i) : newM bs = .ok i := by
 unfold newM
 rw [h]
 simp only [ne_eq, not_true_eq_false, if_false, hp]
def WrN (w : World) (B : Nat) (v : Value) (us : List Wr) : Prop := ∀ u ∈ us, Reads w w.heap.size 1 u.A u.fs.length (u32s u.fs) ∧ ∀ a, u.A = some a → B ≤ a.block ∧ (0 < u.fs.length → v.ownBlock ≠ some a.block)
theorem WrN.read {w w' : World} {B : Nat} {v : Value} {us : List Wr} (N : WrN w B v us) (hsz : w.heap.size ≤ w'.heap.size) (hk : ∀ q, q < w.heap.size → B ≤ q → w'.heap[q]? = w.heap[q]?) : WrN w' B v us := fun u hu => by
 obtain ⟨h1, h2⟩ := N u hu
 refine ⟨⟨h1.1, fun hn => ?_⟩, h2⟩
 obtain ⟨a, ha, hb, hc⟩ := h1.2 hn
 exact ⟨a, ha, by omega, fun j x hx => (World.cell?_of_block (a := a.add j) (by rw [block_of_add]; exact hk a.block hb (h2 a ha).1)).trans (hc j x hx)⟩
theorem reads_wr (w : World) (u : Wr) : Reads (w.alloc (.cells u.cells.toArray 303)) (w.heap.size + 1) 8 (some ⟨w.heap.size, 0, none⟩) 1 u.cells := by
 refine ⟨rfl, fun _ => ⟨_, rfl, by simp, fun j v hv => ?_⟩⟩
 rw [WideShapes.add_plain, Nat.zero_add]
 refine ((Blk.new w _ _).cell j).trans ?_
 rw [← hv]
 simp
theorem WrN.snoc {w9 w10 : World} {Bo lo : Nat} {v v10 : Value} {us : List Wr} {u : Wr} {o : Obj} (N : WrN w9 Bo v us) (hrx : Reads w9 w9.heap.size 1 u.A u.fs.length (u32s u.fs)) (hnx : ∀ a, u.A = some a → lo ≤ a.block) (hlo : Bo ≤ lo) (hol : ∀ q, v.ownBlock = some q → q < lo) {b12 : Nat} (hb : lo ≤ b12)
 (hg : (w9.alloc o).grownBy w10 v.ownBlock) (hat : v10.ownBlock = v.ownBlock ∨ v10.ownBlock = some (w9.alloc o).heap.size) : WrN w10 Bo v10 (us ++ [u]) := by
 have hs : ∀ q, q < w9.heap.size → v.ownBlock ≠ some q → w10.heap[q]? = w9.heap[q]? := fun q h1 h2 => (hg.block q (by simp; omega) (fun e => h2 (by first | exact e | exact e.symm))).trans (Below.heap_alloc w9 o q h1)
 have hsz : w9.heap.size ≤ w10.heap.size := Nat.le_trans (by simp) hg.size
 have key : ∀ x : Wr, Reads w9 w9.heap.size 1 x.A x.fs.length (u32s x.fs) → (∀ a, x.A = some a → Bo ≤ a.block ∧ (0 < x.fs.length → v.ownBlock ≠ some a.block)) → Reads w10 w10.heap.size 1 x.A x.fs.length (u32s x.fs) ∧ ∀ a, x.A = some a → Bo ≤ a.block ∧ (0 < x.fs.length → v10.ownBlock ≠ some a.block) := fun x h1 h2 => by
  refine ⟨⟨h1.1, fun hn => ?_⟩, fun a ha => ⟨(h2 a ha).1, fun hn e => ?_⟩⟩
  ·obtain ⟨a, ha, hbk, hc⟩ := h1.2 hn
   exact ⟨a, ha, by omega, fun j y hy => (World.cell?_of_block (a := a.add j) (by rw [block_of_add]; exact hs a.block hbk ((h2 a ha).2 hn))).trans (hc j y hy)⟩
  ·obtain ⟨a', ha', hbk, _⟩ := h1.2 hn
   rw [ha] at ha'
   injection ha' with ha'
   subst ha'
   rcases hat with e2 | e2
   ·exact (h2 a ha).2 hn (e2 ▸ e)
   ·rw [e2] at e
    injection e with e
    simp at e
    omega
 intro x hx
 rcases List.mem_append.1 hx with hx | hx
 ·obtain ⟨h1, h2⟩ := N x hx
  exact key x h1 h2
 ·rcases List.mem_singleton.1 hx with rfl
  exact key x hrx (fun a ha => ⟨Nat.le_trans hlo (hnx a ha), fun _ e => by have := hol _ e; have := hnx a ha; omega⟩)
theorem PnS.low {w0 W W' : World} {L b4 b8 gp cp last B : Nat} {vs : List Value} {ps : List (List Nat)} (S : PnS w0 W L b4 b8 gp cp last vs ps) (h1 : W'.os = W.os) (h2 : W'.tape = W.tape) (h3 : W'.output = W.output) (h4 : W.heap.size ≤ W'.heap.size) (hk : ∀ q, q < B → W'.heap[q]? = W.heap[q]?)
 (k4 : b4 < B) (k8 : b8 < B) (kp : gp < B) (kL : L ≤ B) : PnS w0 W' L b4 b8 gp cp last vs ps :=
 ⟨S.res.same (hk _ k4), S.box.same (hk _ k8), S.row.same (hk _ kp), ⟨S.pay.1, fun i p hp => by
   obtain ⟨A, c, a1, a2, a3, a4⟩ := S.pay.2 i p hp
   exact ⟨A, c, a1, a2, a3.keep (fun q hq => World.cell?_of_block (hk q.block (by omega))), a4⟩⟩, ⟨h1.trans S.fr.os, h2.trans S.fr.tape, h3.trans S.fr.output, Nat.le_trans S.fr.size h4, fun q hq => (hk q (by have := S.hL; omega)).trans (S.fr.block q hq)⟩, S.h4, S.h8, S.hp, S.hL⟩
theorem RdAt.low {w w' : World} {L rg c B : Nat} {A : Option Addr} {bs : List Nat} {bad : Bool} (R : RdAt w L rg A c bs bad) (hk : ∀ q, q < B → w'.heap[q]? = w.heap[q]?) (h : rg < B) : RdAt w' L rg A c bs bad :=
 ⟨R.box.same (hk _ h), R.cap, R.rd.keep (fun q hq => World.cell?_of_block (hk q.block (by have := R.far; omega))), R.far, R.b8⟩
theorem rdK_step {p2 b' b10 rts : List Nat} {k n10 : Nat} {bad d10 : Bool} (h : (bad = false → rdK k p2 = some (rts, b')) ∧ ((∃ q, rdK k p2 = some q) → bad = false)) (D : Rdd bad (rdNum b') n10 b10 d10) :
 (d10 = false → rdK (k + 1) p2 = some (rts ++ [n10], b10)) ∧ ((∃ q, rdK (k + 1) p2 = some q) → d10 = false) := by
 refine ⟨fun e => ?_, fun ⟨q, hq⟩ => ?_⟩
 ·obtain ⟨e1, e2⟩ := D.1 e
  rw [rdK_snoc _ _ _ _ (h.1 e1), e2]
 ·have hk : ∃ q, rdK k p2 = some q := by
   cases hh : rdK k p2 with
   | some q => exact ⟨q, rfl⟩
   | none => rw [rdK_stop (k + 1) k p2 hh (by omega)] at hq; cases hq
  have hb := h.2 hk
  rw [rdK_snoc _ _ _ _ (h.1 hb)] at hq
  cases hn : rdNum b' with
  | none => rw [hn] at hq; cases hq
  | some r => exact D.2 hb ⟨r, hn⟩
theorem own_sameI' {w w' : World} {base s n : Nat} {e : TypeId} {v : Value} {xs : List Value} (h : w.ownsRow base e s v n xs) (hs : ∀ k, v.ownBlock = some k → w'.heap[k]? = w.heap[k]?) : w'.ownsRow base e s v n xs := own_sameI h hs
theorem head_err {p0 p1 p2 p3 q4 q6 : List Nat} {la many : Nat} {d4 d6 : Bool} (D4 : Rdd false (rdNum p0) la q4 d4) (D6 : Rdd d4 (rdNum q4) many q6 d6) (h : d6 = true ∨ q6 ≠ []) : partsM p0 p1 p2 p3 = none := by
 unfold partsM
 cases d4 with
 | true =>
   have h1 : rdNum p0 = none := by
    cases hh : rdNum p0 with
    | none => rfl
    | some q => have := D4.2 rfl ⟨q, hh⟩; cases this
   rw [h1]
 | false =>
   rw [(D4.1 rfl).2]
   simp only
   cases d6 with
   | true =>
     have h1 : rdNum q4 = none := by
      cases hh : rdNum q4 with
      | none => rfl
      | some q => have := D6.2 rfl ⟨q, hh⟩; cases this
     rw [h1]
   | false =>
     rw [(D6.1 rfl).2]
     simp only
     rcases h with h | h
     ·cases h
     ·rw [if_pos h]
theorem rows_lay {w : World} {base n : Nat} {v : Value} {us : List Wr} (O : w.ownsRow base 303 8 v n (wrL us)) (hul : us.length = n) :
 ∃ A c g, v = .slice A us.length c ∧ base ≤ g ∧ (0 < us.length → A = some ⟨g, 0, none⟩ ∧ Wrs w g us ∧ v.ownBlock = some g) ∧ (us.length = 0 → g = base) := by
 by_cases h0 : 0 < n
 ·obtain ⟨g, c, rfl, h1, h2⟩ := own_wrs O hul h0
  exact ⟨_, c, g, by rw [hul], h2, fun _ => ⟨rfl, h1, rfl⟩, fun h => by omega⟩
 ·have hn : n = 0 := by omega
  rcases O.2 with ⟨rfl, _⟩ | ⟨g, cap, cur, rfl, _⟩
  ·exact ⟨none, 0, base, by rw [hul, hn], Nat.le_refl _, fun h => by omega, fun _ => rfl⟩
  ·exact ⟨some ⟨g, 0, none⟩, cap, base, by rw [hul], Nat.le_refl _, fun h => by omega, fun _ => rfl⟩
theorem parts_end {p0 p1 p2 p3 q4 bs' b' rts : List Nat} {ts : List Th} {la many : Nat} {bad : Bool} (h0 : rdNum p0 = some (la, q4)) (h1 : rdNum q4 = some (many, [])) (h2 : rdObjs many p1 = some (ts, bs'))
 (K : (bad = false → rdK 64 p2 = some (rts, b')) ∧ ((∃ q, rdK 64 p2 = some q) → bad = false)) :
 ((bs' ≠ [] ∨ bad = true ∨ b' ≠ [] ∨ p3 ≠ []) → partsM p0 p1 p2 p3 = none) ∧ (bs' = [] → bad = false → b' = [] → p3 = [] → partsM p0 p1 p2 p3 = some ⟨ts, rts, la⟩) := by
 have e : partsM p0 p1 p2 p3 = if bs' ≠ [] then none else match rdK 64 p2 with
  | none => none
  | some (rts, q2) => if q2 ≠ [] ∨ p3 ≠ [] then none else some ⟨ts, rts, la⟩ := by
  unfold partsM
  rw [h0]
  simp only
  rw [h1]
  simp only
  rw [if_neg (by simp), h2]
  rfl
 rw [e]
 refine ⟨fun h => ?_, fun a b c d => ?_⟩
 ·by_cases hb : bs' = []
  ·rw [if_neg (by simpa using hb)]
   cases bad with
   | true =>
     cases hr : rdK 64 p2 with
     | none => rfl
     | some q => have := K.2 ⟨q, hr⟩; cases this
   | false =>
     rw [K.1 rfl]
     simp only
     rw [if_pos]
     rcases h with h | h | h
     ·exact absurd hb h
     ·cases h
     ·exact h
  ·rw [if_pos hb]
 ·subst a b
  rw [if_neg (by simp), K.1 rfl]
  simp only
  rw [if_neg]
  rintro (h | h)
  ·exact h c
  ·exact h d
theorem NewP.of {bs : List Nat} {size : Nat} {w w' : World} {e : Ending} {i : Img} (hb : Below w.heap.size w w') (h : newM bs = .ok i)
 (hc : if size < placeT i.ts then e = .returned (.tuple #[rdV 0 0 (.slice none 0 0) (.slice none 0 0), .int .i64 4])
   else if i.wrong = true then e = .returned (.tuple #[rdV 0 0 (.slice none 0 0) (.slice none 0 0), .int .i64 145])
   else ∃ (A1 A2 : Option Addr) (c1 c2 : Nat), e = .returned (.tuple #[rdV 2 i.last (.slice A1 i.words.length c1) (.slice A2 i.roots.length c2), .int .i64 0]) ∧
    Reads w' w'.heap.size 1 A1 i.words.length (u32s i.words) ∧ Reads w' w'.heap.size 1 A2 i.roots.length (u32s i.roots) ∧ ∀ a, A1 = some a ∨ A2 = some a → w.heap.size ≤ a.block) : NewP bs size w e w' :=
 ⟨hb, by rw [h]; exact hc⟩
theorem rdSec_err {t : Nat} {b : List Nat} {E : Nat} (h : rdSec t b = .error E) : E ≠ 0 := by
 unfold rdSec at h
 split at h
 ·cases h; decide
 ·split at h
  ·cases h; decide
  ·split at h
   ·cases h; decide
   ·split at h
    ·cases h; decide
    ·split at h
     ·cases h
     ·cases h; decide
theorem rdSecs_err : ∀ {ts b : List Nat} {E : Nat}, rdSecs ts b = .error E → E ≠ 0
 | [], b, E, h => by cases h
 | t :: ts, b, E, h => by
   unfold rdSecs at h
   split at h
   ·rename_i e he
    cases h
    exact rdSec_err he
   ·split at h
    ·rename_i he
     cases h
     exact rdSecs_err he
    ·cases h
theorem rdSec_len {t : Nat} {b p r : List Nat} (h : rdSec t b = .ok (p, r)) : p.length + r.length ≤ b.length := by
 unfold rdSec at h
 split at h
 ·cases h
 ·rename_i x b1
  split at h
  ·cases h
  ·split at h
   ·cases h
   ·rename_i n b2 hn
    obtain ⟨_, h2, _⟩ := rdNum_lt hn
    split at h
    ·cases h
    ·split at h
     ·cases h
      simp only [List.length_take, List.length_drop, List.length_cons]
      omega
     ·cases h
theorem rdSecs_len1 : ∀ {ts b : List Nat} {ps : List (List Nat)} {r : List Nat}, rdSecs ts b = .ok (ps, r) → ∀ p ∈ ps, p.length ≤ b.length
 | [], b, ps, r, h => by cases h; exact fun p hp => by cases hp
 | t :: ts, b, ps, r, h => by
   unfold rdSecs at h
   split at h
   ·cases h
   ·rename_i p q hq
    split at h
    ·cases h
    ·rename_i ps' r' h2
     cases h
     have h3 := rdSec_len hq
     have h4 := rdSecs_len1 h2
     intro p' hp'
     rcases List.mem_cons.1 hp' with rfl | hp'
     ·omega
     ·have := h4 p' hp'; omega
theorem rdSecs_len {b : List Nat} {p0 p1 p2 p3 r : List Nat} (h : rdSecs [72, 79, 82, 90] b = .ok ([p0, p1, p2, p3], r)) (_ : ∀ x ∈ b, x < 256) : p0.length ≤ b.length ∧ p1.length ≤ b.length ∧ p2.length ≤ b.length := by
 have h1 := rdSecs_len1 h
 exact ⟨h1 p0 (by simp), h1 p1 (by simp), h1 p2 (by simp)⟩
set_option maxRecDepth 100000 in
set_option maxHeartbeats 8000000 in
theorem parseNew_any {w : World} {A : Option Addr} {n c : Nat} {bs : List Nat} {size : Nat} (hs : Spares w) (hr : Reads w w.heap.size 1 A n (u8c bs)) (hc : n ≤ c) (hn : n ≤ 9000000) (h8 : ∀ x ∈ bs, x < 256) (hsize : size ≤ 1048576) :
 Calls Tryz.prog 140 #[.slice A n c, .int .i64 size] w (NewP bs size w) := by
 have hbl : bs.length = n := by have := hr.1; rw [u8c_len] at this; omega
 have hb0 := (Below.refl w.heap.size w).alloc (Nat.le_refl _) (.cells #[.int .i64 0, .int .i64 0, .int .u32 0, .slice none 0 0, .slice none 0 0] 130)
 have HSC := Lib.hid (sections_any (w := w.alloc (.cells #[.int .i64 0, .int .i64 0, .int .u32 0, .slice none 0 0, .slice none 0 0] 130)) (c := c) ((hr.below hb0).more hb0.size) hc hn h8)
 have HB0 := Lib.hid hb0
 have HB4 := Lib.hid (Blk.new w 130 #[.int .i64 0, .int .i64 0, .int .u32 0, .slice none 0 0, .slice none 0 0])
 have HSP := Lib.hid hs
 have hsz0 : (w.alloc (.cells #[.int .i64 0, .int .i64 0, .int .u32 0, .slice none 0 0, .slice none 0 0] 130)).heap.size = w.heap.size + 1 := by simp
 clear hr hb0 hs
 go_enter Tryz.func140, Tryz.ntmps140
 go_wp2_with fail
 generalize w.alloc (.cells #[.int .i64 0, .int .i64 0, .int .u32 0, .slice none 0 0, .slice none 0 0] 130) = W0 at *
 refine HSC.out.mono ?_
 rintro e w1 ⟨hb1, hm⟩
 have HF1 := Lib.hid (below_top HB0.out hb1)
 have HZ1 := Lib.hid (HB4.out.below hb1 HB4.out.lt)
 clear HSC
 cases hsec : rdSecs [72, 79, 82, 90] bs with
 | error E =>
   rw [hsec] at hm
   simp only at hm
   subst hm
   have hE : E ≠ 0 := rdSecs_err hsec
   have he : ((E : Int) != 0) = true := by simp; omega
   have HNM := Lib.hid (show newM bs = .error E from by unfold newM; rw [hsec])
   clear hsec hE HB0 HB4 hb1
   have z0 := HZ1.out.frozen 0
   have z1 := HZ1.out.frozen 1
   have z2 := HZ1.out.frozen 2
   have z3 := HZ1.out.frozen 3
   have z4 := HZ1.out.frozen 4
   have d0 := HZ1.out.cell 0
   have d1 := HZ1.out.cell 1
   have d2 := HZ1.out.cell 2
   have d3 := HZ1.out.cell 3
   have d4 := HZ1.out.cell 4
   have HZ5 := Lib.hid (HZ1.out.setAll5 (.int .i64 0) (.int .i64 0) (.int .u32 0) (.slice none 0 0) (.slice none 0 0))
   have HFB := Lib.hid (below5 HF1.out (g := w.heap.size) (by omega) (.int .i64 0) (.int .i64 0) (.int .u32 0) (.slice none 0 0) (.slice none 0 0))
   go_wp2_with fail
   generalize (((((w1.setCell ⟨w.heap.size, 0, none⟩ (.int .i64 0)).setCell ⟨w.heap.size, 1, none⟩ (.int .i64 0)).setCell ⟨w.heap.size, 2, none⟩ (.int .u32 0)).setCell ⟨w.heap.size, 3, none⟩ (.slice none 0 0)).setCell ⟨w.heap.size, 4, none⟩ (.slice none 0 0)) = WF at *
   clear z0 d0 z1 d1 z2 d2 z3 d3 z4 d4
   have f0 := HZ5.out.cell 0
   have f1 := HZ5.out.cell 1
   have f2 := HZ5.out.cell 2
   have f3 := HZ5.out.cell 3
   have f4 := HZ5.out.cell 4
   refine bodyPost_ret (v := .tuple #[.agg #[.int .i64 0, .int .i64 0, .int .u32 0, .slice none 0 0, .slice none 0 0], .int .i64 (E : Nat)]) (by simp [results, Tryz.results140, go_sem, f0, f1, f2, f3, f4]) rfl ?_
   exact NewP.err HFB.out HNM.out
 | ok q =>
   obtain ⟨ps, rest⟩ := q
   rw [hsec] at hm
   simp only at hm
   by_cases hrest : rest = []
   ·subst hrest
    rw [if_pos rfl] at hm
    obtain ⟨vp, vs, rfl, hown, hpay, hpl⟩ := hm
    obtain ⟨gp, cp, rfl, hrow, -, hgp⟩ := Row.of_any hown (by omega)
    match ps, hpl with
    | [p0, p1, p2, p3], _ =>
      obtain ⟨A0, c0, v0, k0, r0, y0⟩ := hpay.2 0 p0 rfl
      obtain ⟨A1, c1, v1, k1, r1, y1⟩ := hpay.2 1 p1 rfl
      obtain ⟨A2, c2, v2, k2, r2, y2⟩ := hpay.2 2 p2 rfl
      obtain ⟨A3, c3, v3, k3, r3, y3⟩ := hpay.2 3 p3 rfl
      have hpb := rdSecs_len hsec h8
      have hL1 : W0.heap.size ≤ w1.heap.size := hb1.size
      have hb2 : Below w1.heap.size w1 (w1.alloc (.cells #[.int .i64 2, .int .i64 0, .int .u32 0, .slice none 0 0, .slice none 0 0] 130)) := (Below.refl _ _).alloc (Nat.le_refl _) _
      have HP2 := Lib.hid (show PnS w (w1.alloc (.cells #[.int .i64 2, .int .i64 0, .int .u32 0, .slice none 0 0, .slice none 0 0] 130)) W0.heap.size w.heap.size w1.heap.size gp cp 0 vs [p0, p1, p2, p3] from
       ⟨HZ1.out.below hb2 HZ1.out.lt, Blk.new w1 _ _, hrow.below hb2, hpay.below (hb2.mono hL1), below_top HF1.out hb2, Nat.le_refl _, by omega, by omega, by omega⟩)
      have HV := Lib.hid (show vs[0]? = some (.slice A0 p0.length c0) ∧ vs[1]? = some (.slice A1 p1.length c1) ∧ vs[2]? = some (.slice A2 p2.length c2) ∧ vs[3]? = some (.slice A3 p3.length c3) from ⟨v0, v1, v2, v3⟩)
      have HK := Lib.hid (show p0.length ≤ c0 ∧ p1.length ≤ c1 ∧ p2.length ≤ c2 ∧ p3.length ≤ c3 from ⟨k0, k1, k2, k3⟩)
      have HY := Lib.hid (show (∀ x ∈ p0, x < 256) ∧ (∀ x ∈ p1, x < 256) ∧ (∀ x ∈ p2, x < 256) from ⟨y0, y1, y2⟩)
      have HRD := Lib.hid (fun (W' : World) (h : PayV W' W0.heap.size vs [p0, p1, p2, p3]) => show Reads W' W0.heap.size 1 A0 p0.length (u8c p0) ∧ Reads W' W0.heap.size 1 A1 p1.length (u8c p1) ∧ Reads W' W0.heap.size 1 A2 p2.length (u8c p2) from by
       obtain ⟨a0, d0, e0, _, f0, _⟩ := h.2 0 p0 rfl
       obtain ⟨a1, d1, e1, _, f1, _⟩ := h.2 1 p1 rfl
       obtain ⟨a2, d2, e2, _, f2, _⟩ := h.2 2 p2 rfl
       rw [v0] at e0; rw [v1] at e1; rw [v2] at e2
       injection e0 with e0; injection e1 with e1; injection e2 with e2
       injection e0 with e0 _ _; injection e1 with e1 _ _; injection e2 with e2 _ _
       exact ⟨by rw [e0]; exact f0, by rw [e1]; exact f1, by rw [e2]; exact f2⟩)
      have HER := Lib.hid (show partsM p0 p1 p2 p3 = none → newM bs = .error 143 from fun h => partsM_err hsec h)
      have HOKM := Lib.hid (fun i => show partsM p0 p1 p2 p3 = some i → newM bs = .ok i from fun h => partsM_ok hsec h)
      clear v0 v1 v2 v3 k0 k1 k2 k3 y0 y1 y2 y3 r0 r1 r2 r3 hsec hown hpay hrow HZ1 HF1 HB0 HB4 hb1 hb2
      go_upto_region 5 with fail
      generalize w1.alloc (.cells #[.int .i64 2, .int .i64 0, .int .u32 0, .slice none 0 0, .slice none 0 0] 130) = W2 at *
      have hb8 : w1.heap.size < W2.heap.size := HP2.out.box.lt
      generalize hb8g : w1.heap.size = b8 at *
      clear hb8g
      generalize hLg : W0.heap.size = L at *
      have hLw : w.heap.size < L := by omega
      clear hLg hsz0
      have q0 := HP2.out.row.cell HV.out.1
      have hLW : L ≤ W2.heap.size := by omega
      have hgW : gp < W2.heap.size := HP2.out.row.lt
      have h4W : w.heap.size < W2.heap.size := HP2.out.res.lt
      have hb3 : Below W2.heap.size W2 (W2.alloc (.cells #[.slice A0 p0.length c0, .bool false] 300)) := (Below.refl _ _).alloc (Nat.le_refl _) _
      have HR3 := Lib.hid (show RdAt (W2.alloc (.cells #[.slice A0 p0.length c0, .bool false] 300)) L W2.heap.size A0 c0 p0 false from
       ⟨Blk.new W2 _ _, HK.out.1, ((HRD.out W2 HP2.out.pay).1).below (hb3.mono hLW), hLW, HY.out.1⟩)
      have HP3 := Lib.hid (HP2.out.below hb3 hLW)
      clear HP2 hb3
      go_upto_region 6 with fail
      clear q0
      have hW23 : W2.heap.size < (W2.alloc (.cells #[.slice A0 p0.length c0, .bool false] 300)).heap.size := by simp
      generalize W2.alloc (.cells #[.slice A0 p0.length c0, .bool false] 300) = W3 at *
      generalize W2.heap.size = g1 at *
      have HN := Lib.hid (rnumberI_any HR3.out (by omega))
      go_wp2_with fail
      refine HN.out.mono ?_
      rintro e w4 ⟨la, A4, c4, q4, d4, rfl, hla, R4, F4, D4, e4, he4⟩
      have HD4 := Lib.hid D4
      have HP4 := Lib.hid (HP3.out.read F4 (by omega) (by omega) (by omega) hLW (by omega))
      have hl4 : q4.length ≤ 9000000 := by have := hpb.1; rw [he4, List.length_append] at this; omega
      have HR4 := Lib.hid R4
      have hg4 : g1 < w4.heap.size := R4.box.lt
      clear HN R4 F4 D4 he4 HR3 HP3
      have c2 := HP4.out.box.cell 2
      have y2 := HP4.out.box.frozen 2
      have HP5 := Lib.hid (HP4.out.setLast hL1 la)
      have HR5 := Lib.hid (HR4.out.set (g := b8) (i := 2) (v := .int .u32 la) (by omega) hL1)
      clear HP4 HR4
      go_upto_region 7 with fail
      clear c2 y2
      have hg5 : g1 < (w4.setCell ⟨b8, 2, none⟩ (.int .u32 (la : Int))).heap.size := by simp [World.setCell]; exact hg4
      generalize w4.setCell ⟨b8, 2, none⟩ (.int .u32 (la : Int)) = W5 at *
      have HN := Lib.hid (rnumberI_any HR5.out hl4)
      go_wp2_with fail
      refine HN.out.mono ?_
      rintro e w6 ⟨many, A6, c6, q6, d6, rfl, hmany, R6, F6, D6, e6, he6⟩
      have HD6 := Lib.hid D6
      have HP6 := Lib.hid (HP5.out.read F6 (by omega) (by omega) (by omega) hLW (by omega))
      have HR6 := Lib.hid R6
      have r0 := R6.box.cell 0
      have r1 := R6.box.cell 1
      clear HN R6 F6 D6 he6 HR5 HP5
      cases d6 with
      | true =>
        have HNM := Lib.hid (show newM bs = .error 143 from HER.out (head_err HD4.out HD6.out (.inl rfl)))
        have HZ6 := Lib.hid HP6.out.res
        have HF6 := Lib.hid HP6.out.fr
        clear HP6 HR6 HER HOKM HRD
        have z0 := HZ6.out.frozen 0
        have z1 := HZ6.out.frozen 1
        have z2 := HZ6.out.frozen 2
        have z3 := HZ6.out.frozen 3
        have z4 := HZ6.out.frozen 4
        have d0 := HZ6.out.cell 0
        have d1 := HZ6.out.cell 1
        have d2 := HZ6.out.cell 2
        have d3 := HZ6.out.cell 3
        have d4 := HZ6.out.cell 4
        have HZ5 := Lib.hid (HZ6.out.setAll5 (.int .i64 0) (.int .i64 0) (.int .u32 0) (.slice none 0 0) (.slice none 0 0))
        have HFB := Lib.hid (below5 HF6.out (g := w.heap.size) (by omega) (.int .i64 0) (.int .i64 0) (.int .u32 0) (.slice none 0 0) (.slice none 0 0))
        go_wp2_with fail
        generalize (((((w6.setCell ⟨w.heap.size, 0, none⟩ (.int .i64 0)).setCell ⟨w.heap.size, 1, none⟩ (.int .i64 0)).setCell ⟨w.heap.size, 2, none⟩ (.int .u32 0)).setCell ⟨w.heap.size, 3, none⟩ (.slice none 0 0)).setCell ⟨w.heap.size, 4, none⟩ (.slice none 0 0)) = WF at *
        clear z0 d0 z1 d1 z2 d2 z3 d3 z4 d4
        have f0 := HZ5.out.cell 0
        have f1 := HZ5.out.cell 1
        have f2 := HZ5.out.cell 2
        have f3 := HZ5.out.cell 3
        have f4 := HZ5.out.cell 4
        refine bodyPost_ret (v := .tuple #[.agg #[.int .i64 0, .int .i64 0, .int .u32 0, .slice none 0 0, .slice none 0 0], .int .i64 143]) (by simp [results, Tryz.results140, go_sem, f0, f1, f2, f3, f4]) rfl ?_
        exact NewP.err HFB.out HNM.out
      | false =>
        obtain ⟨hd4, h6⟩ := HD6.out.1 rfl
        obtain ⟨_, h4⟩ := HD4.out.1 hd4
        have r0' : w6.cell? ⟨g1, 0, none⟩ = some (.slice A6 q6.length c6) := r0
        obtain ⟨lq, hlq⟩ : ∃ l, l = q6.length := ⟨_, rfl⟩
        rw [← hlq] at r0'
        have HLQ := Lib.hid hlq
        clear hlq r0
        by_cases hq6 : lq = 0
        ·have hd0 : decide (0 < (lq : Int)) = false := decide_eq_false (by omega)
         have hq0 : q6 = [] := List.eq_nil_of_length_eq_zero (by rw [← HLQ.out]; exact hq6)
         have HH1 := Lib.hid (show rdNum p0 = some (la, q4) ∧ rdNum q4 = some (many, []) from ⟨h4, by rw [h6, hq0]⟩)
         clear h4 h6 hd4 HD4 HD6 hq0
         go_upto_region 10 with fail
         clear r0' r1 HR6 HLQ
         have hLW6 : L ≤ w6.heap.size := by have := HP6.out.row.lt; omega
         have hgW6 : gp < w6.heap.size := HP6.out.row.lt
         have h4W6 : w.heap.size < w6.heap.size := HP6.out.res.lt
         have h8W6 : b8 < w6.heap.size := HP6.out.box.lt
         have q1 := HP6.out.row.cell HV.out.2.1
         have hb7 : Below w6.heap.size w6 (w6.alloc (.cells #[.slice A1 p1.length c1, .bool false] 300)) := (Below.refl _ _).alloc (Nat.le_refl _) _
         have HR7 := Lib.hid (show RdAt (w6.alloc (.cells #[.slice A1 p1.length c1, .bool false] 300)) L w6.heap.size A1 c1 p1 false from
          ⟨Blk.new w6 _ _, HK.out.2.1, ((HRD.out w6 HP6.out.pay).2.1).below (hb7.mono hLW6), hLW6, HY.out.2.1⟩)
         have HP7 := Lib.hid (HP6.out.below hb7 hLW6)
         clear HP6 hb7
         go_upto_region 11 with fail
         clear q1
         have hW67 : w6.heap.size < (w6.alloc (.cells #[.slice A1 p1.length c1, .bool false] 300)).heap.size := by simp
         generalize w6.alloc (.cells #[.slice A1 p1.length c1, .bool false] 300) = W7 at *
         generalize w6.heap.size = g2 at *
         have hsp : 0 < L := by have := World.block_lt_of_cell? _ _ (HSP.out 0 (by omega)); omega
         obtain ⟨i0, hi0, hz0, hz1, hz2⟩ := info_parts info_wr
         go_wp2_with fail
         go_loopw [11, 54] (fun v i wr => ∃ (k : Nat) (us : List Wr) (A' : Option Addr) (c' : Nat) (bs' : List Nat), i = .int .u32 k ∧ k ≤ many ∧ PnS w wr L w.heap.size b8 gp cp la vs [p0, p1, p2, p3] ∧ RdAt wr L g2 A' c' bs' false ∧ wr.ownsRow W7.heap.size 303 8 v k (wrL us) ∧ WrN wr W7.heap.size v us ∧ rdObjs k p1 = some (us.map Wr.th, bs') ∧ W7.heap.size ≤ wr.heap.size) (fun _ i _ => many - (intOf i).toNat)
         case atStart => exact ⟨0, [], A1, c1, p1, rfl, Nat.zero_le _, HP7.out, HR7.out, ⟨rfl, .inl ⟨rfl, rfl⟩⟩, fun u hu => (by cases hu), rfl, Nat.le_refl _⟩
         case round =>
          clear HP7 HR7
          obtain ⟨k, us, A', c', bs', rfl, hk, P, R, O, N, K, hW⟩ := hrel
          obtain ⟨hkl, hkok, hkb, dk, hdk⟩ := rdObjs_ok _ _ _ _ K HY.out.2.1
          have hul : us.length = k := by rw [List.length_map] at hkl; exact hkl
          have hbl : bs'.length ≤ 9000000 := by omega
          have hkn9 : k ≤ 2250000 := by omega
          have HUL := Lib.hid hul
          have HKO := Lib.hid hkok
          have HKB := Lib.hid hkb
          clear hdk hul hkl hkok hkb
          have HP := Lib.hid P
          have HR := Lib.hid R
          have HO := Lib.hid O
          have HN := Lib.hid N
          have HK2 := Lib.hid K
          by_cases hkm : k < many
          ·have hd : decide ((k : Int) < (many : Int)) = true := by simp; omega
           have HOB := Lib.hid (objectR_any R hbl (P.spares HSP.out) hsp)
           clear P R O N K
           go_wp2_with fail
           refine HOB.out.mono ?_
           rintro e w8 ⟨v8, A8, c8, bs8, bad8, rfl, hv8, R8, F8, hbad, hgood⟩
           have HFS := Lib.hid F8.size
           have HOL := Lib.hid (show ∀ q, u11.ownBlock = some q → q < wr.heap.size from fun q hq => (HO.out.lt q hq).2)
           have HP8 := Lib.hid (HP.out.read F8 (by omega) (by omega) (by omega) hLW6 (by omega))
           have HO8 := Lib.hid (own_sameI' HO.out (fun q hq => F8.same q (HO.out.lt q hq).2 (by have := (HO.out.lt q hq).1; omega)))
           have HN8 := Lib.hid (HN.out.read (w' := w8) F8.size (fun q h1 h2 => F8.same q h1 (by omega)))
           have hW8 : W7.heap.size ≤ w8.heap.size := Nat.le_trans hW F8.size
           clear HOB HP HO HN
           have rr1 := R8.box.cell 1
           have HR8 := Lib.hid R8
           clear R8 F8
           cases bad8 with
           | true =>
             obtain ⟨x8, Af, nf, cf, rfl⟩ := hv8
             have hno := hbad rfl
             have HNM := Lib.hid (show newM bs = .error 143 from HER.out (by
              have h1 := rdObjs_snoc _ _ _ _ HK2.out
              rw [hno] at h1
              unfold partsM
              rw [HH1.out.1]; simp only
              rw [HH1.out.2]; simp only
              rw [if_neg (by simp), rdObjs_stop many (k + 1) p1 h1 (by omega)]))
             clear hbad hgood hno HER HOKM HRD HK2 HN8 HO8 HR
             unfold wrV wrC
             have hb9 : Below w8.heap.size w8 (w8.alloc (.cells #[.int .i64 x8.size, .int .i64 x8.fmt, .int .i64 x8.spare, .int .u32 0, .int .u32 x8.ser, .int .u32 x8.cls, .slice Af nf cf, .int .i64 ((0 : Nat) : Int)] 303)) := (Below.refl _ _).alloc (Nat.le_refl _) _
             have HP9 := Lib.hid (HP8.out.below hb9 (by omega))
             have rr1 := (HR8.out.below hb9).box.cell 1
             clear hb9 HP8 HR8
             go_upto_region 15 with fail
             generalize w8.alloc (.cells #[.int .i64 x8.size, .int .i64 x8.fmt, .int .i64 x8.spare, .int .u32 0, .int .u32 x8.ser, .int .u32 x8.cls, .slice Af nf cf, .int .i64 ((0 : Nat) : Int)] 303) = w9 at *
             have HZ9 := Lib.hid HP9.out.res
             have HF9 := Lib.hid HP9.out.fr
             clear HP9
             have z0 := HZ9.out.frozen 0
             have z1 := HZ9.out.frozen 1
             have z2 := HZ9.out.frozen 2
             have z3 := HZ9.out.frozen 3
             have z4 := HZ9.out.frozen 4
             have d0 := HZ9.out.cell 0
             have d1 := HZ9.out.cell 1
             have d2 := HZ9.out.cell 2
             have d3 := HZ9.out.cell 3
             have d4 := HZ9.out.cell 4
             have HZ5 := Lib.hid (HZ9.out.setAll5 (.int .i64 0) (.int .i64 0) (.int .u32 0) (.slice none 0 0) (.slice none 0 0))
             have HFB := Lib.hid (below5 HF9.out (g := w.heap.size) (by omega) (.int .i64 0) (.int .i64 0) (.int .u32 0) (.slice none 0 0) (.slice none 0 0))
             go_wp2_with fail
             generalize (((((w9.setCell ⟨w.heap.size, 0, none⟩ (.int .i64 0)).setCell ⟨w.heap.size, 1, none⟩ (.int .i64 0)).setCell ⟨w.heap.size, 2, none⟩ (.int .u32 0)).setCell ⟨w.heap.size, 3, none⟩ (.slice none 0 0)).setCell ⟨w.heap.size, 4, none⟩ (.slice none 0 0)) = WF at *
             clear z0 d0 z1 d1 z2 d2 z3 d3 z4 d4
             have f0 := HZ5.out.cell 0
             have f1 := HZ5.out.cell 1
             have f2 := HZ5.out.cell 2
             have f3 := HZ5.out.cell 3
             have f4 := HZ5.out.cell 4
             refine bodyPost_ret (v := .tuple #[.agg #[.int .i64 0, .int .i64 0, .int .u32 0, .slice none 0 0, .slice none 0 0], .int .i64 143]) (by simp [results, Tryz.results140, go_sem, f0, f1, f2, f3, f4]) rfl ?_
             exact NewP.err HFB.out HNM.out
           | false =>
             obtain ⟨t, hobj, Ax, cx, rfl, hrx, hnx⟩ := hgood rfl
             have HOBJ := Lib.hid hobj
             clear hv8 hbad hgood hobj
             unfold wrV wrC
             have hb9 : Below w8.heap.size w8 (w8.alloc (.cells #[.int .i64 t.x.size, .int .i64 t.x.fmt, .int .i64 t.x.spare, .int .u32 0, .int .u32 t.x.ser, .int .u32 t.x.cls, .slice Ax t.fs.length cx, .int .i64 ((0 : Nat) : Int)] 303)) := (Below.refl _ _).alloc (Nat.le_refl _) _
             have B9 := Blk.new w8 303 #[.int .i64 t.x.size, .int .i64 t.x.fmt, .int .i64 t.x.spare, .int .u32 0, .int .u32 t.x.ser, .int .u32 t.x.cls, .slice Ax t.fs.length cx, .int .i64 ((0 : Nat) : Int)]
             have HP9 := Lib.hid (HP8.out.below hb9 (by omega))
             have HR9 := Lib.hid (HR8.out.below hb9)
             have HO9 := Lib.hid (own_sameI' HO8.out (fun q hq => hb9.block q (HO8.out.lt q hq).2))
             have HN9 := Lib.hid (HN8.out.read hb9.size (fun q h1 _ => hb9.block q h1))
             have hrx9 := (hrx.below hb9).more hb9.size
             have HNX := Lib.hid (show ∀ a, Ax = some a → wr.heap.size ≤ a.block from hnx)
             have HRX := Lib.hid hrx9
             have hW9 : W7.heap.size ≤ (w8.alloc (.cells #[.int .i64 t.x.size, .int .i64 t.x.fmt, .int .i64 t.x.spare, .int .u32 0, .int .u32 t.x.ser, .int .u32 t.x.cls, .slice Ax t.fs.length cx, .int .i64 ((0 : Nat) : Int)] 303)).heap.size := Nat.le_trans hW8 hb9.size
             have hwr9 : wr.heap.size ≤ w8.heap.size := HFS.out
             have rr1 := HR9.out.box.cell 1
             clear hb9 HP8 HR8 HO8 HN8 hrx hnx hrx9 HR hW8
             go_upto_region 15 with fail
             generalize w8.alloc (.cells #[.int .i64 t.x.size, .int .i64 t.x.fmt, .int .i64 t.x.spare, .int .u32 0, .int .u32 t.x.ser, .int .u32 t.x.cls, .slice Ax t.fs.length cx, .int .i64 ((0 : Nat) : Int)] 303) = w9 at *
             generalize w8.heap.size = b12 at *
             have o0 := B9.cell 0
             have o1 := B9.cell 1
             have o2 := B9.cell 2
             have o3 := B9.cell 3
             have o4 := B9.cell 4
             have o5 := B9.cell 5
             have o6 := B9.cell 6
             have o7 := B9.cell 7
             clear B9
             have hbA : Below w9.heap.size w9 (w9.alloc (.cells #[.int .i64 t.x.size, .int .i64 t.x.fmt, .int .i64 t.x.spare, .int .u32 0, .int .u32 t.x.ser, .int .u32 t.x.cls, .slice Ax t.fs.length cx, .int .i64 0] 303)) := (Below.refl _ _).alloc (Nat.le_refl _) _
             have HOA := Lib.hid (own_sameI' HO9.out (fun q hq => hbA.block q (HO9.out.lt q hq).2))
             go_wp2_with (at_builtin; refine wpList_append_any _ rfl (.tmp 63) (.tmp 65) _ rfl W7.heap.size 303 i0 _ 8 72 Tryz.underlying301 hi0 hz0 hz1 hz2 rfl (by omega) u11 k (wrL us) rfl HOA.out (w9.heap.size + 1) (some ⟨w9.heap.size, 0, none⟩) 1 1 (Wr.cells ⟨t.x, Ax, cx, t.fs, 0⟩) rfl (reads_wr w9 ⟨t.x, Ax, cx, t.fs, 0⟩) (wr_one _) (by simp only [maxLen]; omega) (by omega) (by simp; omega) ?_; intro v10 w10 hown10 hg10 hat10)
             have hlow : ∀ q, q < W7.heap.size → w10.heap[q]? = w9.heap[q]? := fun q hq => (hg10.block q (by simp; omega) (fun e => by have := (HOA.out.lt q (by first | exact e | exact e.symm)).1; omega)).trans (hbA.block q (by omega))
             have hszA : w9.heap.size ≤ w10.heap.size := Nat.le_trans hbA.size hg10.size
             have HP11 := Lib.hid (HP9.out.low (hg10.os.trans hbA.os) (hg10.tape.trans hbA.tape) (hg10.output.trans hbA.output) hszA hlow (by omega) (by omega) (by omega) (by omega))
             have HR11 := Lib.hid (HR9.out.low (w' := w10) hlow (by omega))
             have HN11 := Lib.hid (HN9.out.snoc (u := (⟨t.x, Ax, cx, t.fs, 0⟩ : Wr)) (lo := wr.heap.size) HRX.out HNX.out hW HOL.out hwr9 hg10 hat10)
             have HK11 := Lib.hid (show rdObjs (k + 1) p1 = some ((us ++ [(⟨t.x, Ax, cx, t.fs, 0⟩ : Wr)]).map Wr.th, bs8) from by
              have h1 := rdObjs_snoc _ _ _ _ HK2.out
              rw [HOBJ.out] at h1
              rw [h1, List.map_append]
              rfl)
             rw [← wrL_snoc] at hown10
             have HO11 := Lib.hid hown10
             have hW11 : W7.heap.size ≤ w10.heap.size := Nat.le_trans hW9 hszA
             clear hown10 hg10 hat10 hlow hszA HP9 HR9 HO9 HN9 HOA hbA HRX HNX HOL
             go_roundw
             case rel => exact ⟨k + 1, us ++ [(⟨t.x, Ax, cx, t.fs, 0⟩ : Wr)], A8, c8, bs8, by go_num, by omega, HP11.out, HR11.out, HO11.out, HN11.out, HK11.out, hW11⟩
             case measure => simp [intOf]; omega
          ·obtain rfl : many = k := by omega
           have hd : decide ((many : Int) < (many : Int)) = false := by simp
           have rr0 : wr.cell? ⟨g2, 0, none⟩ = some (.slice A' bs'.length c') := R.box.cell 0
           obtain ⟨lb, hlb⟩ : ∃ l, l = bs'.length := ⟨_, rfl⟩
           rw [← hlb] at rr0
           have HLB := Lib.hid hlb
           have q2 := P.row.cell HV.out.2.2.1
           have hLW9 : L ≤ wr.heap.size := by omega
           have hb9 : Below wr.heap.size wr (wr.alloc (.cells #[.slice A2 p2.length c2, .bool false] 300)) := (Below.refl _ _).alloc (Nat.le_refl _) _
           have HR9 := Lib.hid (show RdAt (wr.alloc (.cells #[.slice A2 p2.length c2, .bool false] 300)) L wr.heap.size A2 c2 p2 false from
            ⟨Blk.new wr _ _, HK.out.2.2.1, ((HRD.out wr P.pay).2.2).below (hb9.mono hLW9), hLW9, HY.out.2.2⟩)
           have HP9 := Lib.hid (P.below hb9 hLW9)
           have HO9 := Lib.hid (own_sameI' O (fun q hq => hb9.block q (O.lt q hq).2))
           have HNB := Lib.hid (show ∀ u ∈ us, Reads (wr.alloc (.cells #[.slice A2 p2.length c2, .bool false] 300)) wr.heap.size 1 u.A u.fs.length (u32s u.fs) ∧ (0 < u.fs.length → ∀ a, u.A = some a → u11.ownBlock ≠ some a.block) from
            fun u hu => ⟨(N u hu).1.keep (fun q hq => World.cell?_of_block (hb9.block q.block hq)), fun h0 a ha => ((N u hu).2 a ha).2 h0⟩)
           have HOL9 := Lib.hid (show ∀ q, u11.ownBlock = some q → q < wr.heap.size from fun q hq => (O.lt q hq).2)
           have hW9 : W7.heap.size ≤ (wr.alloc (.cells #[.slice A2 p2.length c2, .bool false] 300)).heap.size := by simp; omega
           have hg39 : wr.heap.size < (wr.alloc (.cells #[.slice A2 p2.length c2, .bool false] 300)).heap.size := by simp
           clear P R O N K HP HR HO HN hlb hb9 hk hkm i0 hi0 hz0 hz1 hz2
           go_upto_region 21 with fail
           generalize wr.alloc (.cells #[.slice A2 p2.length c2, .bool false] 300) = W9 at *
           have hWw : W7.heap.size ≤ wr.heap.size := hW
           clear q2 rr0 hd hW
           generalize wr.heap.size = g3 at *
           obtain ⟨i0, hi0, hz0, hz1, hz2⟩ := info_parts info_u32
           go_wp2_with fail
           go_loopw [14, 79] (fun r i wr => ∃ (k : Nat) (rts : List Nat) (A' : Option Addr) (c' : Nat) (b' : List Nat) (bad : Bool), i = .int .i64 k ∧ k ≤ 64 ∧ Fr1 g3 W9 wr ∧ RdAt wr L g3 A' c' b' bad ∧ wr.ownsRow W9.heap.size 32 1 r k (u32s rts) ∧ (∀ x ∈ rts, x < 4294967296) ∧ (bad = false → rdK k p2 = some (rts, b')) ∧ ((∃ q, rdK k p2 = some q) → bad = false) ∧ b'.length ≤ 9000000) (fun _ i _ => 64 - (intOf i).toNat)
           case atStart => exact ⟨0, [], A2, c2, p2, false, rfl, by omega, Fr1.refl _ _, HR9.out, ⟨rfl, .inl ⟨rfl, rfl⟩⟩, fun _ h => (by cases h), fun _ => rfl, fun _ => rfl, by have := hpb.2.2; omega⟩
           case round =>
            clear HR9
            obtain ⟨k, rts, A', c', b', bad, rfl, hk, F, R, O, h32, K1, K2, hbl⟩ := hrel
            have HF := Lib.hid F
            have HR := Lib.hid R
            have HO := Lib.hid O
            have H32 := Lib.hid h32
            have HK1 := Lib.hid (And.intro K1 K2)
            clear F R O h32 K1 K2
            by_cases hk64 : k < 64
            ·have hd : decide ((k : Int) < 64) = true := by simp; omega
             have HNB := Lib.hid (rnumberI_any HR.out hbl)
             go_wp2_with fail
             refine HNB.out.mono ?_
             rintro e w10 ⟨n10, A10, c10, b10, d10, rfl, hn10, R10, F10, D10, e10, he10⟩
             have hl10 : b10.length ≤ 9000000 := by rw [he10, List.length_append] at hbl; omega
             have HF10 := Lib.hid (HF.out.trans F10)
             have HO10 := Lib.hid (own_sameI HO.out (fun q hq => F10.same q (HO.out.lt q hq).2 (by have := (HO.out.lt q hq).1; omega)))
             have HR10 := Lib.hid R10
             have HK10 := Lib.hid (rdK_step HK1.out D10)
             have h32' : ∀ x ∈ rts ++ [n10], x < 4294967296 := fun x hx => by
              rcases List.mem_append.1 hx with h | h
              ·exact H32.out x h
              ·rcases List.mem_singleton.1 h with rfl; exact hn10
             have H32' := Lib.hid h32'
             have hW910 : W9.heap.size ≤ w10.heap.size := HF10.out.size
             clear HNB R10 F10 D10 he10 HF HO HR HK1 H32 h32'
             have hbA : Below w10.heap.size w10 (w10.alloc (.cells #[.int .u32 (n10 : Nat)] 32)) := (Below.refl _ _).alloc (Nat.le_refl _) _
             have HOA := Lib.hid (own_sameI HO10.out (fun q hq => hbA.block q (HO10.out.lt q hq).2))
             go_wp2_with (at_builtin; refine wpList_append_any _ rfl (.tmp 81) (.tmp 84) _ rfl W9.heap.size 32 i0 _ 1 4 Tryz.underlying84 hi0 hz0 hz1 hz2 rfl (by omega) u14 k (u32s rts) rfl HOA.out (w10.heap.size + 1) (some ⟨w10.heap.size, 0, none⟩) 1 1 (u32s [n10]) rfl ⟨rfl, fun _ => ⟨_, rfl, by simp, cell_one_new _ _ _⟩⟩ (one_u32s _) (by simp only [maxLen]; omega) (by omega) (by simp; omega) ?_; intro v12 w12 hown12 hg12 hat12)
             have hlow : ∀ q, q < W9.heap.size → w12.heap[q]? = w10.heap[q]? := fun q hq => (hg12.block q (by simp; omega) (fun e => by have := (HOA.out.lt q (by first | exact e | exact e.symm)).1; omega)).trans (hbA.block q (by omega))
             have hszA : w10.heap.size ≤ w12.heap.size := Nat.le_trans hbA.size hg12.size
             have HR12 := Lib.hid (HR10.out.low (w' := w12) hlow (by omega))
             have HF12 := Lib.hid (show Fr1 g3 W9 w12 from ⟨(hg12.os.trans hbA.os).trans HF10.out.os, (hg12.tape.trans hbA.tape).trans HF10.out.tape, (hg12.output.trans hbA.output).trans HF10.out.output, Nat.le_trans HF10.out.size hszA, fun q h1 h2 => (hlow q h1).trans (HF10.out.same q h1 h2)⟩)
             have e12 : u32s rts ++ u32s [n10] = u32s (rts ++ [n10]) := by unfold u32s; rw [List.map_append]
             rw [e12] at hown12
             have HO12 := Lib.hid hown12
             clear hown12 hg12 hat12 hlow hszA HOA hbA e12 HO10 HF10 HR10
             go_roundw
             case rel => exact ⟨k + 1, rts ++ [n10], A10, c10, b10, d10, by go_num, by omega, HF12.out, HR12.out, HO12.out, H32'.out, HK10.out.1, HK10.out.2, hl10⟩
             case measure => simp [intOf]; omega
            ·obtain rfl : k = 64 := by omega
             have hd : decide ((64 : Int) < 64) = false := by decide
             have hLW10 : L ≤ W9.heap.size := by omega
             have HP10 := Lib.hid (HP9.out.read HF.out (by omega) (by omega) (by omega) hLW9 hLW10)
             have rr0 : wr.cell? ⟨g3, 0, none⟩ = some (.slice A' b'.length c') := HR.out.box.cell 0
             have rr1 : wr.cell? ⟨g3, 1, none⟩ = some (.bool bad) := HR.out.box.cell 1
             have q3 := HP10.out.row.cell HV.out.2.2.2
             obtain ⟨l2, hl2⟩ : ∃ l, l = b'.length := ⟨_, rfl⟩
             obtain ⟨l3, hl3⟩ : ∃ l, l = p3.length := ⟨_, rfl⟩
             rw [← hl2] at rr0
             rw [← hl3] at q3
             have HL2 := Lib.hid hl2
             have HL3 := Lib.hid hl3
             clear hl2 hl3
             have HNE := Lib.hid (show (0 < lb ∨ bad = true ∨ 0 < l2 ∨ 0 < l3) → newM bs = .error 143 from fun h => HER.out ((parts_end HH1.out.1 HH1.out.2 HK2.out HK1.out).1 (by
              rcases h with h | h | h | h
              ·left; intro e; rw [HLB.out, e] at h; exact absurd h (by simp)
              ·exact .inr (.inl h)
              ·right; right; left; intro e; rw [HL2.out, e] at h; exact absurd h (by simp)
              ·right; right; right; intro e; rw [HL3.out, e] at h; exact absurd h (by simp))))
             have HNG := Lib.hid (show lb = 0 → bad = false → l2 = 0 → l3 = 0 → newM bs = .ok ⟨us.map Wr.th, rts, la⟩ from fun a b c d => HOKM.out _ ((parts_end HH1.out.1 HH1.out.2 HK2.out HK1.out).2 (List.eq_nil_of_length_eq_zero (by rw [← HLB.out]; exact a)) b (List.eq_nil_of_length_eq_zero (by rw [← HL2.out]; exact c)) (List.eq_nil_of_length_eq_zero (by rw [← HL3.out]; exact d))))
             clear HER HOKM HRD hbl hk HP9 hk64
             by_cases hlb0 : lb = 0
             ·have hd1 : decide (0 < (lb : Int)) = false := decide_eq_false (by omega)
              cases bad with
              | true =>
                have HNM := Lib.hid (show newM bs = .error 143 from HNE.out (.inr (.inl rfl)))
                have HZX := Lib.hid HP10.out.res
                have HFX := Lib.hid HP10.out.fr
                clear HP10 HNE HNG HNB HOL9 HO9 HO HF HR H32 HK1 HK2 HLB HL2 HL3 HKO HUL HH1
                have z0 := HZX.out.frozen 0
                have z1 := HZX.out.frozen 1
                have z2 := HZX.out.frozen 2
                have z3 := HZX.out.frozen 3
                have z4 := HZX.out.frozen 4
                have d0 := HZX.out.cell 0
                have d1 := HZX.out.cell 1
                have d2 := HZX.out.cell 2
                have d3 := HZX.out.cell 3
                have d4 := HZX.out.cell 4
                have HZ5 := Lib.hid (HZX.out.setAll5 (.int .i64 0) (.int .i64 0) (.int .u32 0) (.slice none 0 0) (.slice none 0 0))
                have HFB := Lib.hid (below5 HFX.out (g := w.heap.size) (by omega) (.int .i64 0) (.int .i64 0) (.int .u32 0) (.slice none 0 0) (.slice none 0 0))
                go_wp2_with fail
                generalize (((((wr.setCell ⟨w.heap.size, 0, none⟩ (.int .i64 0)).setCell ⟨w.heap.size, 1, none⟩ (.int .i64 0)).setCell ⟨w.heap.size, 2, none⟩ (.int .u32 0)).setCell ⟨w.heap.size, 3, none⟩ (.slice none 0 0)).setCell ⟨w.heap.size, 4, none⟩ (.slice none 0 0)) = WF at *
                clear z0 d0 z1 d1 z2 d2 z3 d3 z4 d4
                have f0 := HZ5.out.cell 0
                have f1 := HZ5.out.cell 1
                have f2 := HZ5.out.cell 2
                have f3 := HZ5.out.cell 3
                have f4 := HZ5.out.cell 4
                refine bodyPost_ret (v := .tuple #[.agg #[.int .i64 0, .int .i64 0, .int .u32 0, .slice none 0 0, .slice none 0 0], .int .i64 143]) (by simp [results, Tryz.results140, go_sem, f0, f1, f2, f3, f4]) rfl ?_
                exact NewP.err HFB.out HNM.out
              | false =>
                by_cases hl20 : l2 = 0
                ·have hd2 : decide (0 < (l2 : Int)) = false := decide_eq_false (by omega)
                 by_cases hl30 : l3 = 0
                 ·have hd3 : decide (0 < (l3 : Int)) = false := decide_eq_false (by omega)
                  have HIM := Lib.hid (HNG.out hlb0 rfl hl20 hl30)
                  have hO : wr.ownsRow W7.heap.size 303 8 u11 many (wrL us) := own_sameI' HO9.out (fun q hq => HF.out.same q (HO9.out.lt q hq).2 (by have := HOL9.out q hq; omega))
                  obtain ⟨Ao, co, go, hv11, hgo, hgo1, hgo2⟩ := rows_lay hO HUL.out
                  obtain ⟨Ar, cr, hv14, hrr⟩ := own_sliceI HO.out
                  have hgo3 : go ≤ g3 := by
                   rcases Nat.eq_zero_or_pos us.length with h | h
                   ·have := hgo2 h; omega
                   ·exact Nat.le_of_lt (HOL9.out go (hgo1 h).2.2)
                  have hszW : W9.heap.size ≤ wr.heap.size := HF.out.size
                  have HAR := Lib.hid (show ∀ a, Ar = some a → a.block ≠ go from fun a ha e => by have := (HO.out.lt a.block (by rw [hv14, ha]; rfl)).1; omega)
                  have HWB := Lib.hid (show WrB wr wr.heap.size go us from fun u hu => ⟨((HNB.out u hu).1.keep (fun q hq => World.cell?_of_block (HF.out.same q.block (by omega) (by omega)))).more (by omega), fun h0 a ha e => by
                   rcases Nat.eq_zero_or_pos us.length with h | h
                   ·rw [List.length_eq_zero_iff.1 h] at hu; cases hu
                   ·exact (HNB.out u hu).2 h0 a ha (by rw [(hgo1 h).2.2, e])⟩)
                  have hul9 : us.length ≤ 9000000 := by rw [HUL.out]; omega
                  have HLY := Lib.hid (ilay_any (w := wr) (Bg := L) (g := go) (c := co) (nr := 64) (cr := cr) (last := la) (size := size) (A := Ao) (Ar := Ar) (us := us) (rts := rts) (HP10.out.spares HSP.out) hsp (by omega) (by omega) (fun h => ⟨(hgo1 h).1, (hgo1 h).2.1⟩) hul9 HKO.out HWB.out hrr HAR.out H32.out rfl hsize hla)
                  have hbgo : L ≤ go := by omega
                  have n4 : w.heap.size ≠ go := by omega
                  have n8 : b8 ≠ go := by omega
                  have np : gp ≠ go := by omega
                  have hLwr : L ≤ wr.heap.size := by omega
                  have h4wr : w.heap.size < wr.heap.size := by omega
                  subst hv11 hv14
                  have e0 := HP10.out.box.cell 0
                  have e1 := HP10.out.box.cell 1
                  have e2 := HP10.out.box.cell 2
                  have e3 := HP10.out.box.cell 3
                  have e4 := HP10.out.box.cell 4
                  clear HNE HNG HNB HOL9 HO9 HO HF HR H32 HK1 HK2 HLB HL2 HL3 HKO HUL HH1 hO hrr HAR HWB hgo1 hgo2
                  go_wp2_with fail
                  unfold rdV at HLY
                  refine HLY.out.mono ?_
                  rintro e wz ⟨FL, hcase⟩
                  have HP12 := HP10.out.read FL n4 n8 np hbgo hLwr
                  have HZX := Lib.hid HP12.res
                  have HFX := Lib.hid HP12.fr
                  have hszz : wr.heap.size ≤ wz.heap.size := FL.size
                  clear HP12 HP10 HLY FL
                  by_cases h1 : size < placeT (us.map Wr.th)
                  ·rw [if_pos h1] at hcase
                   unfold rdV at hcase
                   subst hcase
                   have HC1 := Lib.hid h1
                   clear h1
                   have z0 := HZX.out.frozen 0
                   have z1 := HZX.out.frozen 1
                   have z2 := HZX.out.frozen 2
                   have z3 := HZX.out.frozen 3
                   have z4 := HZX.out.frozen 4
                   have d0 := HZX.out.cell 0
                   have d1 := HZX.out.cell 1
                   have d2 := HZX.out.cell 2
                   have d3 := HZX.out.cell 3
                   have d4 := HZX.out.cell 4
                   have HZ5 := Lib.hid (HZX.out.setAll5 (.int .i64 0) (.int .i64 0) (.int .u32 0) (.slice none 0 0) (.slice none 0 0))
                   have HFB := Lib.hid (below5 HFX.out (g := w.heap.size) (by omega) (.int .i64 0) (.int .i64 0) (.int .u32 0) (.slice none 0 0) (.slice none 0 0))
                   go_wp2_with fail
                   generalize (((((wz.setCell ⟨w.heap.size, 0, none⟩ (.int .i64 0)).setCell ⟨w.heap.size, 1, none⟩ (.int .i64 0)).setCell ⟨w.heap.size, 2, none⟩ (.int .u32 0)).setCell ⟨w.heap.size, 3, none⟩ (.slice none 0 0)).setCell ⟨w.heap.size, 4, none⟩ (.slice none 0 0)) = WF at *
                   clear z0 d0 z1 d1 z2 d2 z3 d3 z4 d4
                   have f0 := HZ5.out.cell 0
                   have f1 := HZ5.out.cell 1
                   have f2 := HZ5.out.cell 2
                   have f3 := HZ5.out.cell 3
                   have f4 := HZ5.out.cell 4
                   refine bodyPost_ret (v := .tuple #[.agg #[.int .i64 0, .int .i64 0, .int .u32 0, .slice none 0 0, .slice none 0 0], .int .i64 4]) (by simp [results, Tryz.results140, go_sem, f0, f1, f2, f3, f4]) rfl ?_
                   exact NewP.of HFB.out HIM.out (by rw [if_pos HC1.out]; rfl)
                  ·rw [if_neg h1] at hcase
                   have HC1 := Lib.hid (show ¬ size < placeT (⟨us.map Wr.th, rts, la⟩ : Img).ts from h1)
                   clear h1
                   generalize (⟨us.map Wr.th, rts, la⟩ : Img) = im at *
                   by_cases h2 : im.wrong = true
                   ·rw [if_pos h2] at hcase
                    unfold rdV at hcase
                    subst hcase
                    have HC2 := Lib.hid h2
                    clear h2
                    have z0 := HZX.out.frozen 0
                    have z1 := HZX.out.frozen 1
                    have z2 := HZX.out.frozen 2
                    have z3 := HZX.out.frozen 3
                    have z4 := HZX.out.frozen 4
                    have d0 := HZX.out.cell 0
                    have d1 := HZX.out.cell 1
                    have d2 := HZX.out.cell 2
                    have d3 := HZX.out.cell 3
                    have d4 := HZX.out.cell 4
                    have HZ5 := Lib.hid (HZX.out.setAll5 (.int .i64 0) (.int .i64 0) (.int .u32 0) (.slice none 0 0) (.slice none 0 0))
                    have HFB := Lib.hid (below5 HFX.out (g := w.heap.size) (by omega) (.int .i64 0) (.int .i64 0) (.int .u32 0) (.slice none 0 0) (.slice none 0 0))
                    go_wp2_with fail
                    generalize (((((wz.setCell ⟨w.heap.size, 0, none⟩ (.int .i64 0)).setCell ⟨w.heap.size, 1, none⟩ (.int .i64 0)).setCell ⟨w.heap.size, 2, none⟩ (.int .u32 0)).setCell ⟨w.heap.size, 3, none⟩ (.slice none 0 0)).setCell ⟨w.heap.size, 4, none⟩ (.slice none 0 0)) = WF at *
                    clear z0 d0 z1 d1 z2 d2 z3 d3 z4 d4
                    have f0 := HZ5.out.cell 0
                    have f1 := HZ5.out.cell 1
                    have f2 := HZ5.out.cell 2
                    have f3 := HZ5.out.cell 3
                    have f4 := HZ5.out.cell 4
                    refine bodyPost_ret (v := .tuple #[.agg #[.int .i64 0, .int .i64 0, .int .u32 0, .slice none 0 0, .slice none 0 0], .int .i64 145]) (by simp [results, Tryz.results140, go_sem, f0, f1, f2, f3, f4]) rfl ?_
                    exact NewP.of HFB.out HIM.out (by rw [if_neg HC1.out, if_pos HC2.out]; rfl)
                   ·rw [if_neg h2] at hcase
                    obtain ⟨A1, A2, c1, c2, hcase, hr1, hr2, hnw⟩ := hcase
                    unfold rdV at hcase
                    subst hcase
                    have HC2 := Lib.hid h2
                    clear h2
                    have HX1 := Lib.hid (reads5 (g := w.heap.size) hr1 (fun _ a ha e => by have := hnw a (.inl ha); omega) (.int .i64 2) (.int .i64 0) (.int .u32 im.last) (.slice A1 im.words.length c1) (.slice A2 im.roots.length c2))
                    have HX2 := Lib.hid (reads5 (g := w.heap.size) hr2 (fun _ a ha e => by have := hnw a (.inr ha); omega) (.int .i64 2) (.int .i64 0) (.int .u32 im.last) (.slice A1 im.words.length c1) (.slice A2 im.roots.length c2))
                    have HNW := Lib.hid (show ∀ a, A1 = some a ∨ A2 = some a → w.heap.size ≤ a.block from fun a ha => Nat.le_trans (Nat.le_of_lt h4wr) (hnw a ha))
                    clear hr1 hr2 hnw
                    have z0 := HZX.out.frozen 0
                    have z1 := HZX.out.frozen 1
                    have z2 := HZX.out.frozen 2
                    have z3 := HZX.out.frozen 3
                    have z4 := HZX.out.frozen 4
                    have d0 := HZX.out.cell 0
                    have d1 := HZX.out.cell 1
                    have d2 := HZX.out.cell 2
                    have d3 := HZX.out.cell 3
                    have d4 := HZX.out.cell 4
                    have HZ5 := Lib.hid (HZX.out.setAll5 (.int .i64 2) (.int .i64 0) (.int .u32 im.last) (.slice A1 im.words.length c1) (.slice A2 im.roots.length c2))
                    have HFB := Lib.hid (below5 HFX.out (g := w.heap.size) (by omega) (.int .i64 2) (.int .i64 0) (.int .u32 im.last) (.slice A1 im.words.length c1) (.slice A2 im.roots.length c2))
                    go_wp2_with fail
                    generalize (((((wz.setCell ⟨w.heap.size, 0, none⟩ (.int .i64 2)).setCell ⟨w.heap.size, 1, none⟩ (.int .i64 0)).setCell ⟨w.heap.size, 2, none⟩ (.int .u32 im.last)).setCell ⟨w.heap.size, 3, none⟩ (.slice A1 im.words.length c1)).setCell ⟨w.heap.size, 4, none⟩ (.slice A2 im.roots.length c2)) = WF at *
                    clear z0 d0 z1 d1 z2 d2 z3 d3 z4 d4
                    have f0 := HZ5.out.cell 0
                    have f1 := HZ5.out.cell 1
                    have f2 := HZ5.out.cell 2
                    have f3 := HZ5.out.cell 3
                    have f4 := HZ5.out.cell 4
                    refine bodyPost_ret (v := .tuple #[.agg #[.int .i64 2, .int .i64 0, .int .u32 im.last, .slice A1 im.words.length c1, .slice A2 im.roots.length c2], .int .i64 0]) (by simp [results, Tryz.results140, go_sem, f0, f1, f2, f3, f4]) rfl ?_
                    exact NewP.of HFB.out HIM.out (by rw [if_neg HC1.out, if_neg HC2.out]; exact ⟨A1, A2, c1, c2, rfl, HX1.out, HX2.out, HNW.out⟩)
                 ·have hd3 : decide (0 < (l3 : Int)) = true := decide_eq_true (by omega)
                  have hl3p : 0 < l3 := by omega
                  have HNM := Lib.hid (show newM bs = .error 143 from HNE.out (.inr (.inr (.inr hl3p))))
                  have HZX := Lib.hid HP10.out.res
                  have HFX := Lib.hid HP10.out.fr
                  clear HP10 HNE HNG HNB HOL9 HO9 HO HF HR H32 HK1 HK2 HLB HL2 HL3 HKO HUL HH1
                  have z0 := HZX.out.frozen 0
                  have z1 := HZX.out.frozen 1
                  have z2 := HZX.out.frozen 2
                  have z3 := HZX.out.frozen 3
                  have z4 := HZX.out.frozen 4
                  have d0 := HZX.out.cell 0
                  have d1 := HZX.out.cell 1
                  have d2 := HZX.out.cell 2
                  have d3 := HZX.out.cell 3
                  have d4 := HZX.out.cell 4
                  have HZ5 := Lib.hid (HZX.out.setAll5 (.int .i64 0) (.int .i64 0) (.int .u32 0) (.slice none 0 0) (.slice none 0 0))
                  have HFB := Lib.hid (below5 HFX.out (g := w.heap.size) (by omega) (.int .i64 0) (.int .i64 0) (.int .u32 0) (.slice none 0 0) (.slice none 0 0))
                  go_wp2_with fail
                  generalize (((((wr.setCell ⟨w.heap.size, 0, none⟩ (.int .i64 0)).setCell ⟨w.heap.size, 1, none⟩ (.int .i64 0)).setCell ⟨w.heap.size, 2, none⟩ (.int .u32 0)).setCell ⟨w.heap.size, 3, none⟩ (.slice none 0 0)).setCell ⟨w.heap.size, 4, none⟩ (.slice none 0 0)) = WF at *
                  clear z0 d0 z1 d1 z2 d2 z3 d3 z4 d4
                  have f0 := HZ5.out.cell 0
                  have f1 := HZ5.out.cell 1
                  have f2 := HZ5.out.cell 2
                  have f3 := HZ5.out.cell 3
                  have f4 := HZ5.out.cell 4
                  refine bodyPost_ret (v := .tuple #[.agg #[.int .i64 0, .int .i64 0, .int .u32 0, .slice none 0 0, .slice none 0 0], .int .i64 143]) (by simp [results, Tryz.results140, go_sem, f0, f1, f2, f3, f4]) rfl ?_
                  exact NewP.err HFB.out HNM.out
                ·have hd2 : decide (0 < (l2 : Int)) = true := decide_eq_true (by omega)
                 have hl2p : 0 < l2 := by omega
                 have HNM := Lib.hid (show newM bs = .error 143 from HNE.out (.inr (.inr (.inl hl2p))))
                 have HZX := Lib.hid HP10.out.res
                 have HFX := Lib.hid HP10.out.fr
                 clear HP10 HNE HNG HNB HOL9 HO9 HO HF HR H32 HK1 HK2 HLB HL2 HL3 HKO HUL HH1
                 have z0 := HZX.out.frozen 0
                 have z1 := HZX.out.frozen 1
                 have z2 := HZX.out.frozen 2
                 have z3 := HZX.out.frozen 3
                 have z4 := HZX.out.frozen 4
                 have d0 := HZX.out.cell 0
                 have d1 := HZX.out.cell 1
                 have d2 := HZX.out.cell 2
                 have d3 := HZX.out.cell 3
                 have d4 := HZX.out.cell 4
                 have HZ5 := Lib.hid (HZX.out.setAll5 (.int .i64 0) (.int .i64 0) (.int .u32 0) (.slice none 0 0) (.slice none 0 0))
                 have HFB := Lib.hid (below5 HFX.out (g := w.heap.size) (by omega) (.int .i64 0) (.int .i64 0) (.int .u32 0) (.slice none 0 0) (.slice none 0 0))
                 go_wp2_with fail
                 generalize (((((wr.setCell ⟨w.heap.size, 0, none⟩ (.int .i64 0)).setCell ⟨w.heap.size, 1, none⟩ (.int .i64 0)).setCell ⟨w.heap.size, 2, none⟩ (.int .u32 0)).setCell ⟨w.heap.size, 3, none⟩ (.slice none 0 0)).setCell ⟨w.heap.size, 4, none⟩ (.slice none 0 0)) = WF at *
                 clear z0 d0 z1 d1 z2 d2 z3 d3 z4 d4
                 have f0 := HZ5.out.cell 0
                 have f1 := HZ5.out.cell 1
                 have f2 := HZ5.out.cell 2
                 have f3 := HZ5.out.cell 3
                 have f4 := HZ5.out.cell 4
                 refine bodyPost_ret (v := .tuple #[.agg #[.int .i64 0, .int .i64 0, .int .u32 0, .slice none 0 0, .slice none 0 0], .int .i64 143]) (by simp [results, Tryz.results140, go_sem, f0, f1, f2, f3, f4]) rfl ?_
                 exact NewP.err HFB.out HNM.out
             ·have hd1 : decide (0 < (lb : Int)) = true := decide_eq_true (by omega)
              have hlbp : 0 < lb := by omega
              have HNM := Lib.hid (show newM bs = .error 143 from HNE.out (.inl hlbp))
              have HZX := Lib.hid HP10.out.res
              have HFX := Lib.hid HP10.out.fr
              clear HP10 HNE HNG HNB HOL9 HO9 HO HF HR H32 HK1 HK2 HLB HL2 HL3 HKO HUL HH1
              have z0 := HZX.out.frozen 0
              have z1 := HZX.out.frozen 1
              have z2 := HZX.out.frozen 2
              have z3 := HZX.out.frozen 3
              have z4 := HZX.out.frozen 4
              have d0 := HZX.out.cell 0
              have d1 := HZX.out.cell 1
              have d2 := HZX.out.cell 2
              have d3 := HZX.out.cell 3
              have d4 := HZX.out.cell 4
              have HZ5 := Lib.hid (HZX.out.setAll5 (.int .i64 0) (.int .i64 0) (.int .u32 0) (.slice none 0 0) (.slice none 0 0))
              have HFB := Lib.hid (below5 HFX.out (g := w.heap.size) (by omega) (.int .i64 0) (.int .i64 0) (.int .u32 0) (.slice none 0 0) (.slice none 0 0))
              go_wp2_with fail
              generalize (((((wr.setCell ⟨w.heap.size, 0, none⟩ (.int .i64 0)).setCell ⟨w.heap.size, 1, none⟩ (.int .i64 0)).setCell ⟨w.heap.size, 2, none⟩ (.int .u32 0)).setCell ⟨w.heap.size, 3, none⟩ (.slice none 0 0)).setCell ⟨w.heap.size, 4, none⟩ (.slice none 0 0)) = WF at *
              clear z0 d0 z1 d1 z2 d2 z3 d3 z4 d4
              have f0 := HZ5.out.cell 0
              have f1 := HZ5.out.cell 1
              have f2 := HZ5.out.cell 2
              have f3 := HZ5.out.cell 3
              have f4 := HZ5.out.cell 4
              refine bodyPost_ret (v := .tuple #[.agg #[.int .i64 0, .int .i64 0, .int .u32 0, .slice none 0 0, .slice none 0 0], .int .i64 143]) (by simp [results, Tryz.results140, go_sem, f0, f1, f2, f3, f4]) rfl ?_
              exact NewP.err HFB.out HNM.out
        ·have hd0 : decide (0 < (lq : Int)) = true := decide_eq_true (by omega)
         have hlp : 0 < lq := by omega
         have HNM := Lib.hid (show newM bs = .error 143 from HER.out (head_err HD4.out HD6.out (.inr (fun e => hq6 (by rw [HLQ.out, e]; rfl)))))
         have HZ6 := Lib.hid HP6.out.res
         have HF6 := Lib.hid HP6.out.fr
         clear HP6 HR6 HER HOKM HRD h4 h6 hq6
         have z0 := HZ6.out.frozen 0
         have z1 := HZ6.out.frozen 1
         have z2 := HZ6.out.frozen 2
         have z3 := HZ6.out.frozen 3
         have z4 := HZ6.out.frozen 4
         have d0 := HZ6.out.cell 0
         have d1 := HZ6.out.cell 1
         have d2 := HZ6.out.cell 2
         have d3 := HZ6.out.cell 3
         have d4 := HZ6.out.cell 4
         have HZ5 := Lib.hid (HZ6.out.setAll5 (.int .i64 0) (.int .i64 0) (.int .u32 0) (.slice none 0 0) (.slice none 0 0))
         have HFB := Lib.hid (below5 HF6.out (g := w.heap.size) (by omega) (.int .i64 0) (.int .i64 0) (.int .u32 0) (.slice none 0 0) (.slice none 0 0))
         go_wp2_with fail
         generalize (((((w6.setCell ⟨w.heap.size, 0, none⟩ (.int .i64 0)).setCell ⟨w.heap.size, 1, none⟩ (.int .i64 0)).setCell ⟨w.heap.size, 2, none⟩ (.int .u32 0)).setCell ⟨w.heap.size, 3, none⟩ (.slice none 0 0)).setCell ⟨w.heap.size, 4, none⟩ (.slice none 0 0)) = WF at *
         clear z0 d0 z1 d1 z2 d2 z3 d3 z4 d4
         have f0 := HZ5.out.cell 0
         have f1 := HZ5.out.cell 1
         have f2 := HZ5.out.cell 2
         have f3 := HZ5.out.cell 3
         have f4 := HZ5.out.cell 4
         refine bodyPost_ret (v := .tuple #[.agg #[.int .i64 0, .int .i64 0, .int .u32 0, .slice none 0 0, .slice none 0 0], .int .i64 143]) (by simp [results, Tryz.results140, go_sem, f0, f1, f2, f3, f4]) rfl ?_
         exact NewP.err HFB.out HNM.out
   ·rw [if_neg hrest] at hm
    subst hm
    have HNM := Lib.hid (show newM bs = .error 143 from by unfold newM; rw [hsec]; simp only; rw [if_pos hrest])
    clear hsec hrest HB0 HB4 hb1
    have z0 := HZ1.out.frozen 0
    have z1 := HZ1.out.frozen 1
    have z2 := HZ1.out.frozen 2
    have z3 := HZ1.out.frozen 3
    have z4 := HZ1.out.frozen 4
    have d0 := HZ1.out.cell 0
    have d1 := HZ1.out.cell 1
    have d2 := HZ1.out.cell 2
    have d3 := HZ1.out.cell 3
    have d4 := HZ1.out.cell 4
    have HZ5 := Lib.hid (HZ1.out.setAll5 (.int .i64 0) (.int .i64 0) (.int .u32 0) (.slice none 0 0) (.slice none 0 0))
    have HFB := Lib.hid (below5 HF1.out (g := w.heap.size) (by omega) (.int .i64 0) (.int .i64 0) (.int .u32 0) (.slice none 0 0) (.slice none 0 0))
    go_wp2_with fail
    generalize (((((w1.setCell ⟨w.heap.size, 0, none⟩ (.int .i64 0)).setCell ⟨w.heap.size, 1, none⟩ (.int .i64 0)).setCell ⟨w.heap.size, 2, none⟩ (.int .u32 0)).setCell ⟨w.heap.size, 3, none⟩ (.slice none 0 0)).setCell ⟨w.heap.size, 4, none⟩ (.slice none 0 0)) = WF at *
    clear z0 d0 z1 d1 z2 d2 z3 d3 z4 d4
    have f0 := HZ5.out.cell 0
    have f1 := HZ5.out.cell 1
    have f2 := HZ5.out.cell 2
    have f3 := HZ5.out.cell 3
    have f4 := HZ5.out.cell 4
    refine bodyPost_ret (v := .tuple #[.agg #[.int .i64 0, .int .i64 0, .int .u32 0, .slice none 0 0, .slice none 0 0], .int .i64 143]) (by simp [results, Tryz.results140, go_sem, f0, f1, f2, f3, f4]) rfl ?_
    exact NewP.err HFB.out HNM.out
end
section
open Go.RowKit Go.BigFrame
attribute [local go_sem] Oper.semAt_some
theorem u32_join (i m y : Nat) (hm : m < 2 ^ i) (hy : y * 2 ^ i < 4294967296) (hm2 : m < 4294967296) : bits .or .u32 (m : Int) ((y * 2 ^ i : Nat) : Int) = ((m + y * 2 ^ i : Nat) : Int) := by
 rw [u32_or_nat _ _ hm2 hy, Nat.or_comm, nat_join i _ _ (by simp) hm, Nat.add_comm]
theorem or4 {a b c d : Nat} (ha : a < 256) (hb : b < 256) (hc : c < 256) (hd : d < 256) : bits .or .u32 (bits .or .u32 (bits .or .u32 (a : Int) ((b : Int) * 256)) ((c : Int) * 65536)) ((d : Int) * 16777216) = ((a + b * 256 + c * 65536 + d * 16777216 : Nat) : Int) := by
 have h1 := u32_join 8 a b (by omega) (by omega) (by omega)
 have h2 := u32_join 16 (a + b * 2 ^ 8) c (by omega) (by omega) (by omega)
 have h3 := u32_join 24 (a + b * 2 ^ 8 + c * 2 ^ 16) d (by omega) (by omega) (by omega)
 rw [show ((b : Int) * 256) = ((b * 2 ^ 8 : Nat) : Int) by omega, show ((c : Int) * 65536) = ((c * 2 ^ 16 : Nat) : Int) by omega, show ((d : Int) * 16777216) = ((d * 2 ^ 24 : Nat) : Int) by omega, h1, h2, h3]
set_option maxHeartbeats 8000000 in
theorem pword_any {w : World} {B g n c i : Nat} {A : Option Addr} {bs : List Nat} (hB : Blk w g 22 #[.slice A n c]) (hr : Reads w B 1 A n (u8c bs)) (hi : i + 3 < n) (hn : n ≤ 9000000) (h8 : ∀ x ∈ bs, x < 256) :
 Calls Tryz.prog 195 #[.int .i64 i, .pointer (some ⟨g, 0, none⟩)] w (fun e w' => e = .returned (.int .u32 (word4 bs i)) ∧ ∃ m, w' = w.drewN m) := by
 have hbl : bs.length = n := by have := hr.1; rw [u8c_len] at this; omega
 obtain ⟨ad, rfl, hb, hx⟩ := hr.2 (by omega)
 have hc : ∀ j, j < n → w.cell? (ad.add j) = some (.int .u8 (bs.getD j 0 : Nat)) := fun j hj => hx j _ (by
  unfold u8c
  rw [List.getElem?_map, List.getD_eq_getElem?_getD, List.getElem?_eq_getElem (by omega)]
  rfl)
 have c0 := hc i (by omega)
 have c1 : w.cell? ⟨ad.block, ad.off + (i + 1), none⟩ = some (.int .u8 (bs.getD (i + 1) 0 : Nat)) := by
  have := hc (i + 1) (by omega)
  unfold Addr.add at this
  rw [if_neg (by omega)] at this
  exact this
 have c2 : w.cell? ⟨ad.block, ad.off + (i + 2), none⟩ = some (.int .u8 (bs.getD (i + 2) 0 : Nat)) := by
  have := hc (i + 2) (by omega)
  unfold Addr.add at this
  rw [if_neg (by omega)] at this
  exact this
 have c3 : w.cell? ⟨ad.block, ad.off + (i + 3), none⟩ = some (.int .u8 (bs.getD (i + 3) 0 : Nat)) := by
  have := hc (i + 3) (by omega)
  unfold Addr.add at this
  rw [if_neg (by omega)] at this
  exact this
 have e : word4 bs i = bs.getD i 0 + bs.getD (i + 1) 0 * 256 + bs.getD (i + 2) 0 * 65536 + bs.getD (i + 3) 0 * 16777216 := rfl
 have b0 : bs.getD i 0 < 256 := getD_lt bs h8 _
 have b1 : bs.getD (i + 1) 0 < 256 := getD_lt bs h8 _
 have b2 : bs.getD (i + 2) 0 < 256 := getD_lt bs h8 _
 have b3 : bs.getD (i + 3) 0 < 256 := getD_lt bs h8 _
 rw [e]
 generalize bs.getD i 0 = x0 at *
 generalize bs.getD (i + 1) 0 = x1 at *
 generalize bs.getD (i + 2) 0 = x2 at *
 generalize bs.getD (i + 3) 0 = x3 at *
 have HO4 := or4 b0 b1 b2 b3
 have d0 : w.cell? ⟨g, 0, none⟩ = some (.slice (some ad) n c) := hB.cell 0
 clear hc hx hr hB e h8 hb
 go_enter Tryz.func195, Tryz.ntmps195
 go_upto_region 1 with fail
 go_quiet (fail)
 go_wp2_with fail
 refine bodyPost_ret (v := .int .u32 ((x0 + x1 * 256 + x2 * 65536 + x3 * 16777216 : Nat) : Int)) (by simp [results, Tryz.results195, go_sem]) rfl ?_
 exact ⟨rfl, nq, rfl⟩
end
section
open Go.RowKit
attribute [local go_sem] Oper.semAt_some
def OldP (bs : List Nat) (w : World) (e : Ending) (w' : World) : Prop :=
 Below w.heap.size w w' ∧ match oldM bs with
  | .error E => e = .returned (.tuple #[rdV 0 0 (.slice none 0 0) (.slice none 0 0), .int .i64 (E : Nat)])
  | .ok r => ∃ (A1 A2 : Option Addr) (c1 c2 : Nat), e = .returned (.tuple #[rdV 1 r.last (.slice A1 r.words.length c1) (.slice A2 r.roots.length c2), .int .i64 0]) ∧
   Reads w' w'.heap.size 1 A1 r.words.length (u32s r.words) ∧ Reads w' w'.heap.size 1 A2 r.roots.length (u32s r.roots) ∧ ∀ a, A1 = some a ∨ A2 = some a → w.heap.size ≤ a.block
theorem OldP.err {bs : List Nat} {E : Nat} {w w' : World} (hb : Below w.heap.size w w') (h : oldM bs = .error E) : OldP bs w (.returned (.tuple #[.agg #[.int .i64 0, .int .i64 0, .int .u32 0, .slice none 0 0, .slice none 0 0], .int .i64 (E : Nat)])) w' :=
 ⟨hb, by rw [h]; rfl⟩
theorem below_drwN {B : Nat} {w w' : World} (h : Below B w w') (k : Nat) : Below B w (w'.drewN k) := ⟨h.os, h.tape, h.output, h.size, h.block⟩
theorem word4_lt {bs : List Nat} (h8 : ∀ x ∈ bs, x < 256) (i : Nat) : word4 bs i < 4294967296 := by
 unfold word4
 have h0 := getD_lt bs h8 i
 have h1 := getD_lt bs h8 (i + 1)
 have h2 := getD_lt bs h8 (i + 2)
 have h3 := getD_lt bs h8 (i + 3)
 omega
structure OldA (w0 W : World) (A : Option Addr) (n c : Nat) (bs : List Nat) : Prop where
 inb : Blk W w0.heap.size 22 #[.slice A n c]
 rd : Reads W w0.heap.size 1 A n (u8c bs)
 res : Blk W (w0.heap.size + 1) 130 #[.int .i64 0, .int .i64 0, .int .u32 0, .slice none 0 0, .slice none 0 0]
 fr : Below w0.heap.size w0 W
theorem OldA.drew {w0 W : World} {A : Option Addr} {n c : Nat} {bs : List Nat} (S : OldA w0 W A n c bs) (k : Nat) : OldA w0 (W.drewN k) A n c bs :=
 ⟨S.inb, S.rd, S.res, below_drwN S.fr k⟩
theorem OldA.same {w0 wr w' : World} {A : Option Addr} {n c : Nat} {bs : List Nat} (S : OldA w0 wr A n c bs) (hos : w'.os = wr.os) (ht : w'.tape = wr.tape) (ho : w'.output = wr.output) (hsz : wr.heap.size ≤ w'.heap.size)
 (hk : ∀ k, k < w0.heap.size + 2 → w'.heap[k]? = wr.heap[k]?) : OldA w0 w' A n c bs :=
 ⟨S.inb.same (hk _ (by omega)), S.rd.keep (fun q hq => World.cell?_of_block (hk q.block (by omega))), S.res.same (hk _ (by omega)), ⟨hos.trans S.fr.os, ht.trans S.fr.tape, ho.trans S.fr.output, Nat.le_trans S.fr.size hsz, fun k hk' => (hk k (by omega)).trans (S.fr.block k hk')⟩⟩
structure OldSt (w0 wr : World) (A : Option Addr) (n c : Nat) (bs : List Nat) (b5 last : Nat) (vw : Value) (ws : List Nat) (vr : Value) (rs : List Nat) : Prop where
 a : OldA w0 wr A n c bs
 box : Blk wr b5 130 #[.int .i64 1, .int .i64 0, .int .u32 last, vw, vr]
 wo : wr.ownsRow (b5 + 1) 32 1 vw ws.length (u32s ws)
 ro : wr.ownsRow (b5 + 1) 54 1 vr rs.length (u32s rs)
 top : b5 + 1 ≤ wr.heap.size
 h5 : w0.heap.size + 2 ≤ b5
section
variable {w0 wr w' : World} {A : Option Addr} {n c b5 last : Nat} {bs ws rs : List Nat} {vw vr v' : Value}
theorem OldSt.drew (S : OldSt w0 wr A n c bs b5 last vw ws vr rs) (k : Nat) : OldSt w0 (wr.drewN k) A n c bs b5 last vw ws vr rs :=
 ⟨S.a.drew k, S.box, S.wo, S.ro, S.top, S.h5⟩
theorem OldSt.below (S : OldSt w0 wr A n c bs b5 last vw ws vr rs) (h : Below wr.heap.size wr w') : OldSt w0 w' A n c bs b5 last vw ws vr rs :=
 ⟨S.a.same h.os h.tape h.output h.size (fun k hk => h.block k (by have := S.top; have := S.h5; omega)), S.box.below h S.box.lt, own_sameI S.wo (fun k hk => h.block k (S.wo.lt k hk).2), own_sameI S.ro (fun k hk => h.block k (S.ro.lt k hk).2), Nat.le_trans S.top h.size, S.h5⟩
theorem OldSt.appW {ys : List Nat} {m : Nat} (S : OldSt w0 wr A n c bs b5 last vw ws vr rs) (hm : ys.length = m) (ho : w'.ownsRow (b5 + 1) 32 1 v' (ws.length + m) (u32s ws ++ u32s ys)) (hg : wr.grownBy w' vw.ownBlock) :
 OldSt w0 (w'.setCell ⟨b5, 3, none⟩ v') A n c bs b5 last v' (ws ++ ys) vr rs := by
 have hs : ∀ k, k < wr.heap.size → vw.ownBlock ≠ some k → w'.heap[k]? = wr.heap[k]? := fun k h1 h2 => hg.block k h1 (fun e => h2 (by first | exact e | exact e.symm))
 have htop := S.top
 have h5 := S.h5
 have hB : ∀ k, k < b5 + 1 → w'.heap[k]? = wr.heap[k]? := fun k h1 => hs k (by omega) (fun e => by have := (S.wo.lt k e).1; omega)
 have hfar : ∀ k, k ≠ b5 → (w'.setCell ⟨b5, 3, none⟩ v').heap[k]? = w'.heap[k]? := fun k h => Below.heap_setCell w' ⟨b5, 3, none⟩ v' k h
 have hsz : (w'.setCell ⟨b5, 3, none⟩ v').heap.size = w'.heap.size := by simp [World.setCell]
 have hgs := hg.size
 refine ⟨S.a.same hg.os hg.tape hg.output (by rw [hsz]; exact hg.size) (fun k h1 => (hfar k (by omega)).trans (hB k (by omega))), (S.box.same (hB _ (by omega))).set_ 3 v', ?_, ?_, by rw [hsz]; omega, h5⟩
 ·have h1 := own_sameI (w' := w'.setCell ⟨b5, 3, none⟩ v') ho (fun k e => hfar k (by have := (ho.lt k e).1; omega))
  rw [List.length_append, hm, show u32s (ws ++ ys) = u32s ws ++ u32s ys by simp [u32s]]
  exact h1
 ·exact own_sameI S.ro (fun k e => (hfar k (by have := (S.ro.lt k e).1; omega)).trans (hs k (S.ro.lt k e).2 (own_typ2 S.ro S.wo (by decide) e)))
theorem OldSt.appR {ys : List Nat} {m : Nat} (S : OldSt w0 wr A n c bs b5 last vw ws vr rs) (hm : ys.length = m) (ho : w'.ownsRow (b5 + 1) 54 1 v' (rs.length + m) (u32s rs ++ u32s ys)) (hg : wr.grownBy w' vr.ownBlock) :
 OldSt w0 (w'.setCell ⟨b5, 4, none⟩ v') A n c bs b5 last vw ws v' (rs ++ ys) := by
 have hs : ∀ k, k < wr.heap.size → vr.ownBlock ≠ some k → w'.heap[k]? = wr.heap[k]? := fun k h1 h2 => hg.block k h1 (fun e => h2 (by first | exact e | exact e.symm))
 have htop := S.top
 have h5 := S.h5
 have hB : ∀ k, k < b5 + 1 → w'.heap[k]? = wr.heap[k]? := fun k h1 => hs k (by omega) (fun e => by have := (S.ro.lt k e).1; omega)
 have hfar : ∀ k, k ≠ b5 → (w'.setCell ⟨b5, 4, none⟩ v').heap[k]? = w'.heap[k]? := fun k h => Below.heap_setCell w' ⟨b5, 4, none⟩ v' k h
 have hsz : (w'.setCell ⟨b5, 4, none⟩ v').heap.size = w'.heap.size := by simp [World.setCell]
 have hgs := hg.size
 refine ⟨S.a.same hg.os hg.tape hg.output (by rw [hsz]; exact hg.size) (fun k h1 => (hfar k (by omega)).trans (hB k (by omega))), (S.box.same (hB _ (by omega))).set_ 4 v', ?_, ?_, by rw [hsz]; omega, h5⟩
 ·exact own_sameI S.wo (fun k e => (hfar k (by have := (S.wo.lt k e).1; omega)).trans (hs k (S.wo.lt k e).2 (own_typ2 S.wo S.ro (by decide) e)))
 ·have h1 := own_sameI (w' := w'.setCell ⟨b5, 4, none⟩ v') ho (fun k e => hfar k (by have := (ho.lt k e).1; omega))
  rw [List.length_append, hm, show u32s (rs ++ ys) = u32s rs ++ u32s ys by simp [u32s]]
  exact h1
theorem OldSt.room (S : OldSt w0 wr A n c bs b5 last vw ws vr rs) (hg : wr.grownBy w' vw.ownBlock) : Blk w' b5 130 #[.int .i64 1, .int .i64 0, .int .u32 last, vw, vr] :=
 S.box.same (hg.block b5 S.box.lt (fun e => own_blkI S.wo S.box (by decide) (by first | exact e | exact e.symm)))
theorem OldSt.roomR (S : OldSt w0 wr A n c bs b5 last vw ws vr rs) (hg : wr.grownBy w' vr.ownBlock) : Blk w' b5 130 #[.int .i64 1, .int .i64 0, .int .u32 last, vw, vr] :=
 S.box.same (hg.block b5 S.box.lt (fun e => own_blkI S.ro S.box (by decide) (by first | exact e | exact e.symm)))
end
theorem OldP.ok {bs : List Nat} {r : Rd} {A1 A2 : Option Addr} {c1 c2 : Nat} {w w' : World} (hb : Below w.heap.size w w') (h : oldM bs = .ok r)
 (h1 : Reads w' w'.heap.size 1 A1 r.words.length (u32s r.words)) (h2 : Reads w' w'.heap.size 1 A2 r.roots.length (u32s r.roots)) (h3 : ∀ a, A1 = some a ∨ A2 = some a → w.heap.size ≤ a.block) :
 OldP bs w (.returned (.tuple #[.agg #[.int .i64 1, .int .i64 0, .int .u32 r.last, .slice A1 r.words.length c1, .slice A2 r.roots.length c2], .int .i64 0])) w' :=
 ⟨hb, by rw [h]; exact ⟨A1, A2, c1, c2, rfl, h1, h2, h3⟩⟩
set_option maxRecDepth 100000 in
set_option maxHeartbeats 8000000 in
theorem parseOld_any {w : World} {A : Option Addr} {n c : Nat} {bs : List Nat} (hr : Reads w w.heap.size 1 A n (u8c bs)) (hc : n ≤ c) (hn : n ≤ 9000000) (h8 : ∀ x ∈ bs, x < 256) :
 Calls Tryz.prog 139 #[.slice A n c] w (OldP bs w) := by
 have hbl : bs.length = n := by have := hr.1; rw [u8c_len] at this; omega
 have hmf : ∀ (fn : Fn) (first cap : Array Value) (w : World), (Instr.makeFunc fn first cap).run Tryz.prog w = .ok (.func fn first cap) w := fun _ _ _ _ => rfl
 have hb1 : Below w.heap.size w (w.alloc (.cells #[.slice A n c] 22)) := (Below.refl _ _).alloc (Nat.le_refl _) _
 have hb2 := hb1.alloc (by simp) (.cells #[.int .i64 0, .int .i64 0, .int .u32 0, .slice none 0 0, .slice none 0 0] 130)
 have hbk := (Below.refl (w.alloc (.cells #[.slice A n c] 22)).heap.size (w.alloc (.cells #[.slice A n c] 22))).alloc (Nat.le_refl _) (.cells #[.int .i64 0, .int .i64 0, .int .u32 0, .slice none 0 0, .slice none 0 0] 130)
 have b1 := (Blk.new w 22 #[.slice A n c]).below hbk (by simp)
 have b2 := Blk.new (w.alloc (.cells #[.slice A n c] 22)) 130 #[.int .i64 0, .int .i64 0, .int .u32 0, .slice none 0 0, .slice none 0 0]
 rw [World.size_alloc] at b2
 have HA := Lib.hid (show OldA w _ A n c bs from ⟨b1, hr.below hb2, b2, hb2⟩)
 have HM := Lib.hid (show oldM bs = if n < 273 ∨ n ≠ 273 + 4 * word4 bs 9 then .error 143 else if sumN (bs.take (n - 4)) ≠ word4 bs (n - 4) then .error 144 else .ok ⟨1, (List.range (word4 bs 9)).map (fun i => word4 bs (13 + 4 * i)), (List.range 64).map (fun i => word4 bs (13 + 4 * word4 bs 9 + 4 * i)), word4 bs 5, false⟩ from by unfold oldM; rw [hbl])
 have hm9 := word4_lt h8 9
 have HWD := Lib.hid (fun (W : World) (S : OldA w W A n c bs) (i : Nat) (hi : i + 3 < n) => pword_any S.inb S.rd hi hn h8)
 have HW4 := Lib.hid (word4_lt h8)
 have H8 := Lib.hid h8
 have HBL := Lib.hid hbl
 clear hb1 hb2 hbk b1 b2 hr h8 hbl
 go_enter Tryz.func139, Tryz.ntmps139
 go_upto_region 2 with fail
 generalize (w.alloc (.cells #[.slice A n c] 22)).alloc (.cells #[.int .i64 0, .int .i64 0, .int .u32 0, .slice none 0 0, .slice none 0 0] 130) = W1 at *
 have d1 : W1.cell? ⟨w.heap.size, 0, none⟩ = some (.slice A n c) := HA.out.inb.cell 0
 by_cases h273 : n < 273
 ·have hd : decide ((n : Int) < 273) = true := decide_eq_true (by omega)
  have HNM := Lib.hid (show oldM bs = .error 143 from by rw [HM.out, if_pos (.inl h273)])
  clear HM hm9
  go_quiet (fail)
  have HZ := Lib.hid (HA.out.drew nq).res
  have HF := Lib.hid (HA.out.drew nq).fr
  generalize W1.drewN nq = W2 at *
  clear d1 HA
  have z0 := HZ.out.frozen 0
  have z1 := HZ.out.frozen 1
  have z2 := HZ.out.frozen 2
  have z3 := HZ.out.frozen 3
  have z4 := HZ.out.frozen 4
  have d0 := HZ.out.cell 0
  have d1 := HZ.out.cell 1
  have d2 := HZ.out.cell 2
  have d3 := HZ.out.cell 3
  have d4 := HZ.out.cell 4
  have HZ5 := Lib.hid (HZ.out.setAll5 (.int .i64 0) (.int .i64 0) (.int .u32 0) (.slice none 0 0) (.slice none 0 0))
  have HFB := Lib.hid (below5 HF.out (g := w.heap.size + 1) (by omega) (.int .i64 0) (.int .i64 0) (.int .u32 0) (.slice none 0 0) (.slice none 0 0))
  go_wp2_with fail
  generalize (((((W2.setCell ⟨w.heap.size + 1, 0, none⟩ (.int .i64 0)).setCell ⟨w.heap.size + 1, 1, none⟩ (.int .i64 0)).setCell ⟨w.heap.size + 1, 2, none⟩ (.int .u32 0)).setCell ⟨w.heap.size + 1, 3, none⟩ (.slice none 0 0)).setCell ⟨w.heap.size + 1, 4, none⟩ (.slice none 0 0)) = WF at *
  clear z0 d0 z1 d1 z2 d2 z3 d3 z4 d4
  have f0 := HZ5.out.cell 0
  have f1 := HZ5.out.cell 1
  have f2 := HZ5.out.cell 2
  have f3 := HZ5.out.cell 3
  have f4 := HZ5.out.cell 4
  refine bodyPost_ret (v := .tuple #[.agg #[.int .i64 0, .int .i64 0, .int .u32 0, .slice none 0 0, .slice none 0 0], .int .i64 143]) (by simp [results, Tryz.results139, go_sem, f0, f1, f2, f3, f4]) rfl ?_
  exact OldP.err HFB.out HNM.out
 ·have hd : decide ((n : Int) < 273) = false := decide_eq_false (by omega)
  have HC9 := Lib.hid (fun q => HWD.out (W1.drewN q) (HA.out.drew q) 9 (by omega))
  generalize hwm : word4 bs 9 = m at *
  have HWM := Lib.hid hwm
  clear hwm
  by_cases hnm : n = 273 + 4 * m
  ·have hne : ((n : Int) != 273 + 4 * (m : Int)) = false := by simp; omega
   have HNM := Lib.hid hnm
   clear hnm
   go_quiet ((go_at_call 195; exact Calls.quiet_of (HC9.out _)))
   go_upto_region 4 with fail
   have HA2 := Lib.hid (HA.out.drew nq)
   generalize W1.drewN nq = W2 at *
   clear d1 HA HC9
   have d1 : W2.cell? ⟨w.heap.size, 0, none⟩ = some (.slice A n c) := HA2.out.inb.cell 0
   have e4 : ((n - 4 : Nat) : Int) = (n : Int) - 4 := by omega
   have HSL : ∀ w : World, (Instr.slice 22 (.slice A n c) none (some (.int .i64 ((n : Int) - 4))) none).run Tryz.prog w = .ok (.slice (tailA A c 0) (n - 4) c) w := fun w => by
    have h := slice_head w A n c (n - 4) (by omega)
    rw [e4] at h
    exact h
   have h8t : ∀ x ∈ bs.take (n - 4), x < 256 := fun x hx => H8.out x (List.mem_of_mem_take hx)
   obtain ⟨hs1, hs2⟩ := sumN_eq h8t
   have HSM := Lib.hid (fun q => (sum_any (tailA A c 0) (n - 4) c w.heap.size (bs.take (n - 4)) (W2.drewN q) (by omega) (reads_head (HA2.out.drew q).rd (by omega)) h8t).mono fun e w' ⟨h1, h2⟩ => show e = Ending.returned (.int .u32 ((sumN (bs.take (n - 4)) : Nat) : Int)) ∧ w' = W2.drewN q from ⟨by rw [h1, hs1], h2.symm⟩)
   have HCL := Lib.hid (fun q => HWD.out (W2.drewN q) (HA2.out.drew q) (n - 4) (by omega))
   rw [e4] at HCL
   have hw4 := HW4.out (n - 4)
   clear h8t hs1 e4
   generalize hsu : sumN (bs.take (n - 4)) = su at *
   generalize hlw : word4 bs (n - 4) = lw at *
   clear hsu hlw
   by_cases hsl : su = lw
   ·have hne2 : ((su : Int) != (lw : Int)) = false := by simp; omega
    have HOK := Lib.hid (HM.out.trans (by rw [if_neg (by have := HNM.out; omega), if_neg (by simpa using hsl)]))
    have HSLW := Lib.hid hsl
    clear hsl HM
    go_quiet (first | (go_at_call 113; exact Calls.quiet_of_same (HSM.out _)) | (go_at_call 195; exact Calls.quiet_of (HCL.out _)))
    go_upto_region 6 with fail
    have HA3 := Lib.hid (HA2.out.drew nq)
    clear d1 HSM HCL HA2
    generalize W2.drewN nq = W3 at *
    have HC5 := Lib.hid (HWD.out W3 HA3.out 5 (by omega))
    generalize word4 bs 5 = la at *
    go_wp2_with fail
    refine HC5.out.mono ?_
    rintro e w4 ⟨rfl, mq, rfl⟩
    have HA4 := Lib.hid (HA3.out.drew mq)
    clear HC5 HA3
    generalize W3.drewN mq = W4 at *
    have hb5 : Below W4.heap.size W4 (W4.alloc (.cells #[.int .i64 1, .int .i64 0, .int .u32 (la : Nat), .slice none 0 0, .slice none 0 0] 130)) := (Below.refl _ _).alloc (Nat.le_refl _) _
    have HST := Lib.hid (show OldSt w (W4.alloc (.cells #[.int .i64 1, .int .i64 0, .int .u32 (la : Nat), .slice none 0 0, .slice none 0 0] 130)) A n c bs W4.heap.size la (.slice none 0 0) [] (.slice none 0 0) [] from
     ⟨HA4.out.same hb5.os hb5.tape hb5.output hb5.size (fun k hk => hb5.block k (by have := HA4.out.res.lt; omega)), Blk.new W4 _ _, ⟨rfl, .inl ⟨rfl, rfl⟩⟩, ⟨rfl, .inl ⟨rfl, rfl⟩⟩, by simp, by have := HA4.out.res.lt; omega⟩)
    have HA5 := Lib.hid HST.out.a
    have hW4 : w.heap.size + 2 ≤ W4.heap.size := HST.out.h5
    clear hb5 HA4
    go_upto_region 7 with fail
    generalize W4.alloc (.cells #[.int .i64 1, .int .i64 0, .int .u32 (la : Int), .slice none 0 0, .slice none 0 0] 130) = W5 at *
    generalize W4.heap.size = b5 at *
    have HC9 := Lib.hid (by have := HWD.out W5 HA5.out 9 (by omega); rw [HWM.out] at this; exact this)
    go_wp2_with fail
    refine HC9.out.mono ?_
    rintro e w6 ⟨rfl, mq2, rfl⟩
    have HST6 := Lib.hid (HST.out.drew mq2)
    clear HC9 HA5 HST
    have HST := Lib.hid HST6.out
    clear HST6
    generalize W5.drewN mq2 = W6 at *
    obtain ⟨i0, hi0, hz0, hz1, hz2⟩ := info_parts info_u32
    go_wp2_with fail
    go_loopw [45] (fun i wr => ∃ (k : Nat) (vw : Value), i = .int .i64 k ∧ k ≤ m ∧ OldSt w wr A n c bs b5 la vw ((List.range k).map (fun i => word4 bs (13 + 4 * i))) (.slice none 0 0) []) (fun i _ => m - (intOf i).toNat)
    case atStart => exact ⟨0, _, rfl, Nat.zero_le _, HST.out⟩
    case round =>
     clear HST
     obtain ⟨k, vw, rfl, hk, S⟩ := hrel
     have HS := Lib.hid S
     by_cases hkn : k < m
     ·have hd : decide ((k : Int) < (m : Int)) = true := by simp; omega
      have hkb : k ≤ 9000000 := by have := HNM.out; omega
      have hw1 : IntKind.i64.wrap (4 * (k : Int)) = 4 * (k : Int) := IntWalk.i64_in _ (by omega)
      have hw2 : IntKind.i64.wrap (13 + 4 * (k : Int)) = 13 + 4 * (k : Int) := IntWalk.i64_in _ (by omega)
      have hkni : (k : Int) < (m : Int) := by omega
      have hki : 13 + 4 * k + 0 + 3 < n := by have := HNM.out; omega
      have hbd : ∀ q, OldA w (wr.drewN q) A n c bs := fun q => S.a.drew q
      have HCW := Lib.hid (fun (W : World) (S : OldA w W A n c bs) => HWD.out W S (13 + 4 * k) (by omega))
      have e4 : ((13 + 4 * k : Nat) : Int) = 13 + 4 * (k : Int) := by push_cast; rfl
      rw [e4] at HCW
      have HLS := Lib.hid (show (List.range (k + 1)).map (fun i => word4 bs (13 + 4 * i)) = (List.range k).map (fun i => word4 bs (13 + 4 * i)) ++ [word4 bs (13 + 4 * k)] from by rw [List.range_succ, List.map_append]; rfl)
      have hpl : ((List.range k).map (fun i => word4 bs (13 + 4 * i))).length ≤ 9000000 := by rw [List.length_map, List.length_range]; have := HNM.out; omega
      have hx32 := HW4.out (13 + 4 * k)
      clear S e4 hbd hki
      generalize (List.range k).map (fun i => word4 bs (13 + 4 * i)) = pk at *
      generalize word4 bs (13 + 4 * k) = x at *
      go_upto_region 11 with fail
      refine wp_region_U 10 (fun w' => w'.cell? ⟨b5, 3, none⟩ = some vw ∧ True) (by kernel_rfl) ?_
      have HSq := Lib.hid (HS.out.drew 1)
      rw [show wr.drewN 1 = wr.drew from rfl] at HSq
      clear HS
      generalize wr.drew = wq at *
      have hS : wq.cell? ⟨b5, 3, none⟩ = some vw ∧ True := ⟨HSq.out.box.cell 3, trivial⟩
      refine U_read 0 (v := (.pointer (some ⟨b5, 3, none⟩))) rfl (by kernel_rfl) (fun _ _ _ h => h) hS (by rfl) (fun w' hw' => by obtain ⟨h0, h1⟩ := hw'; go_simp) ?_
      try simp only [Act.put, List.setIfInBounds_toArray, List.set_cons_zero, List.set_cons_succ]
      refine U_read 1 (v := vw) rfl (by kernel_rfl) (fun _ _ _ h => h) hS (by rfl) (fun w' hw' => by obtain ⟨h0, h1⟩ := hw'; go_simp) ?_
      try simp only [Act.put, List.setIfInBounds_toArray, List.set_cons_zero, List.set_cons_succ]
      refine U_read 2 (v := (.func (.func 195) #[] #[.pointer (some ⟨w.heap.size, 0, none⟩)])) rfl (by kernel_rfl) (fun _ _ _ h => h) hS (by rfl) (fun w' hw' => by obtain ⟨h0, h1⟩ := hw'; go_simp) ?_
      try simp only [Act.put, List.setIfInBounds_toArray, List.set_cons_zero, List.set_cons_succ]
      refine U_read 3 (v := (.int .i64 (k : Int))) rfl (by kernel_rfl) (fun _ _ _ h => h) hS (by rfl) (fun w' hw' => by obtain ⟨h0, h1⟩ := hw'; go_simp) ?_
      try simp only [Act.put, List.setIfInBounds_toArray, List.set_cons_zero, List.set_cons_succ]
      refine U_read 4 (v := (.int .i64 (4 * (k : Int)))) rfl (by kernel_rfl) (fun _ _ _ h => h) hS (by rfl) (fun w' hw' => by obtain ⟨h0, h1⟩ := hw'; go_simp) ?_
      try simp only [Act.put, List.setIfInBounds_toArray, List.set_cons_zero, List.set_cons_succ]
      refine U_read 5 (v := (.int .i64 (13 + 4 * (k : Int)))) rfl (by kernel_rfl) (fun _ _ _ h => h) hS (by rfl) (fun w' hw' => by obtain ⟨h0, h1⟩ := hw'; go_simp) ?_
      try simp only [Act.put, List.setIfInBounds_toArray, List.set_cons_zero, List.set_cons_succ]
      refine U_one 6 (by kernel_rfl) rfl rfl (fun K hK => ?_)
      go_simp
      refine (HCW.out _ HSq.out.a).mono ?_
      rintro e w13 ⟨rfl, mq, rfl⟩
      have HS14 := Lib.hid (HSq.out.drew mq)
      generalize wq.drewN mq = w13 at *
      have hS14 : w13.cell? ⟨b5, 3, none⟩ = some vw ∧ True := ⟨HS14.out.box.cell 3, trivial⟩
      clear HSq
      refine hK _ _ (fun _ => hS14) ?_
      clear hK K
      try simp only [Act.put, List.setIfInBounds_toArray, List.set_cons_zero, List.set_cons_succ]
      refine U_one 7 (by kernel_rfl) rfl rfl (fun K hK => ?_)
      go_simp
      have HSA := Lib.hid (HS14.out.below ((Below.refl _ _).alloc (Nat.le_refl _) (.cells #[.int .u32 (x : Nat)] 32)))
      have hSA : (w13.alloc (.cells #[.int .u32 (x : Nat)] 32)).cell? ⟨b5, 3, none⟩ = some vw ∧ True := ⟨HSA.out.box.cell 3, trivial⟩
      refine hK _ _ (fun _ => hSA) ?_
      clear hK K
      try simp only [Act.put, List.setIfInBounds_toArray, List.set_cons_zero, List.set_cons_succ]
      refine U_one 8 (by kernel_rfl) rfl rfl (fun K hK => ?_)
      refine wp_append_any _ (.tmp 49) (.tmp 55) _ rfl (b5 + 1) 32 i0 _ 1 4 Tryz.underlying84 hi0 hz0 hz1 hz2 rfl (by omega) vw pk.length (u32s pk) rfl HSA.out.wo (w13.heap.size + 1) (some ⟨w13.heap.size, 0, none⟩) 1 1 (u32s [x]) rfl ⟨rfl, fun _ => ⟨_, rfl, by simp, cell_one_new _ _ _⟩⟩ (one_u32s _) (by simp only [maxLen]; omega) (by omega) HSA.out.top ?_
      intro v15 w15 hown15 hg15 hat15
      obtain ⟨g15, c15, rfl, -, -, -⟩ := Row.of_any hown15 (by omega)
      have HS15 := Lib.hid (HSA.out.appW (ys := [x]) rfl hown15 hg15)
      have hfz := (HSA.out.room hg15).frozen 3
      have hcu := (HSA.out.room hg15).cell 3
      have hS15 : w15.cell? ⟨b5, 3, none⟩ = some vw ∧ True := ⟨hcu, trivial⟩
      clear hown15 hg15 hat15 HSA HS14
      refine hK _ _ (fun _ => hS15) ?_
      clear hK K
      try simp only [Act.put, List.setIfInBounds_toArray, List.set_cons_zero, List.set_cons_succ]
      refine U_one 9 (by kernel_rfl) rfl rfl (fun K hK => ?_)
      go_simp
      refine hK _ _ (fun _ => hS15) ?_
      clear hK K
      try simp only [Act.put, List.setIfInBounds_toArray, List.set_cons_zero, List.set_cons_succ]
      refine U_one 10 (by kernel_rfl) rfl rfl (fun K hK => ?_)
      go_simp
      refine hK _ _ (fun h => absurd h (by decide)) ?_
      clear hK K
      try simp only [Act.put, List.setIfInBounds_toArray, List.set_cons_zero, List.set_cons_succ]
      refine U_done (by kernel_rfl) ?_ _
      simp only [Calm, Exit.then]
      clear hS hS14 hSA hS15 hcu hfz
      go_wp2_with fail
      go_roundw
      case rel => exact ⟨k + 1, _, by go_num, by omega, by rw [HLS.out]; exact HS15.out⟩
      case measure => simp [intOf]; omega
     ·obtain rfl : m = k := by omega
      have hd : decide ((m : Int) < m) = false := by simp
      have HST := Lib.hid S
      clear S HS hk hkn i0 hi0 hz0 hz1 hz2
      obtain ⟨i0, hi0, hz0, hz1, hz2⟩ := info_parts info_oop
      go_wp2_with fail
      go_loopw [59] (fun i wr => ∃ (k : Nat) (vr : Value), i = .int .i64 k ∧ k ≤ 64 ∧ OldSt w wr A n c bs b5 la vw ((List.range m).map (fun i => word4 bs (13 + 4 * i))) vr ((List.range k).map (fun i => word4 bs (13 + 4 * m + 4 * i)))) (fun i _ => 64 - (intOf i).toNat)
      case atStart => exact ⟨0, _, rfl, Nat.zero_le _, HST.out⟩
      case round =>
       clear HST
       obtain ⟨k, vr, rfl, hk, S⟩ := hrel
       have HS := Lib.hid S
       by_cases hkn : k < 64
       ·have hd : decide ((k : Int) < 64) = true := by simp; omega
        have hmb : m ≤ 9000000 := by have := HNM.out; omega
        have hw1 : IntKind.i64.wrap (4 * (k : Int)) = 4 * (k : Int) := IntWalk.i64_in _ (by omega)
        have hw2 : IntKind.i64.wrap (4 * (m : Int)) = 4 * (m : Int) := IntWalk.i64_in _ (by omega)
        have hw3 : IntKind.i64.wrap (13 + 4 * (m : Int)) = 13 + 4 * (m : Int) := IntWalk.i64_in _ (by omega)
        have hw4' : IntKind.i64.wrap (13 + 4 * (m : Int) + 4 * (k : Int)) = 13 + 4 * (m : Int) + 4 * (k : Int) := IntWalk.i64_in _ (by omega)
        have hkni : (k : Int) < 64 := by omega
        have hki : 13 + 4 * k + 4 * m + 3 < n := by have := HNM.out; omega
        have hbd : ∀ q, OldA w (wr.drewN q) A n c bs := fun q => S.a.drew q
        have HCW := Lib.hid (fun (W : World) (S : OldA w W A n c bs) => HWD.out W S (13 + 4 * m + 4 * k) (by omega))
        have e4 : ((13 + 4 * m + 4 * k : Nat) : Int) = 13 + 4 * (m : Int) + 4 * (k : Int) := by push_cast; rfl
        rw [e4] at HCW
        have HLS := Lib.hid (show (List.range (k + 1)).map (fun i => word4 bs (13 + 4 * m + 4 * i)) = (List.range k).map (fun i => word4 bs (13 + 4 * m + 4 * i)) ++ [word4 bs (13 + 4 * m + 4 * k)] from by rw [List.range_succ, List.map_append]; rfl)
        have hpl : ((List.range k).map (fun i => word4 bs (13 + 4 * m + 4 * i))).length ≤ 9000000 := by rw [List.length_map, List.length_range]; have := HNM.out; omega
        have hx32 := HW4.out (13 + 4 * m + 4 * k)
        clear S e4 hbd hki
        generalize (List.range k).map (fun i => word4 bs (13 + 4 * m + 4 * i)) = pk at *
        generalize word4 bs (13 + 4 * m + 4 * k) = x at *
        go_upto_region 16 with fail
        refine wp_region_U 13 (fun w' => w'.cell? ⟨b5, 4, none⟩ = some vr ∧ True) (by kernel_rfl) ?_
        have HSq := Lib.hid (HS.out.drew 1)
        rw [show wr.drewN 1 = wr.drew from rfl] at HSq
        clear HS
        generalize wr.drew = wq at *
        have hS : wq.cell? ⟨b5, 4, none⟩ = some vr ∧ True := ⟨HSq.out.box.cell 4, trivial⟩
        refine U_read 0 (v := (.pointer (some ⟨b5, 4, none⟩))) rfl (by kernel_rfl) (fun _ _ _ h => h) hS (by rfl) (fun w' hw' => by obtain ⟨h0, h1⟩ := hw'; go_simp) ?_
        try simp only [Act.put, List.setIfInBounds_toArray, List.set_cons_zero, List.set_cons_succ]
        refine U_read 1 (v := vr) rfl (by kernel_rfl) (fun _ _ _ h => h) hS (by rfl) (fun w' hw' => by obtain ⟨h0, h1⟩ := hw'; go_simp) ?_
        try simp only [Act.put, List.setIfInBounds_toArray, List.set_cons_zero, List.set_cons_succ]
        refine U_read 2 (v := (.func (.func 195) #[] #[.pointer (some ⟨w.heap.size, 0, none⟩)])) rfl (by kernel_rfl) (fun _ _ _ h => h) hS (by rfl) (fun w' hw' => by obtain ⟨h0, h1⟩ := hw'; go_simp) ?_
        try simp only [Act.put, List.setIfInBounds_toArray, List.set_cons_zero, List.set_cons_succ]
        refine U_read 3 (v := (.int .i64 (m : Int))) rfl (by kernel_rfl) (fun _ _ _ h => h) hS (by rfl) (fun w' hw' => by obtain ⟨h0, h1⟩ := hw'; go_simp) ?_
        try simp only [Act.put, List.setIfInBounds_toArray, List.set_cons_zero, List.set_cons_succ]
        refine U_read 4 (v := (.int .i64 (4 * (m : Int)))) rfl (by kernel_rfl) (fun _ _ _ h => h) hS (by rfl) (fun w' hw' => by obtain ⟨h0, h1⟩ := hw'; go_simp) ?_
        try simp only [Act.put, List.setIfInBounds_toArray, List.set_cons_zero, List.set_cons_succ]
        refine U_read 5 (v := (.int .i64 (13 + 4 * (m : Int)))) rfl (by kernel_rfl) (fun _ _ _ h => h) hS (by rfl) (fun w' hw' => by obtain ⟨h0, h1⟩ := hw'; go_simp) ?_
        try simp only [Act.put, List.setIfInBounds_toArray, List.set_cons_zero, List.set_cons_succ]
        refine U_read 6 (v := (.int .i64 (k : Int))) rfl (by kernel_rfl) (fun _ _ _ h => h) hS (by rfl) (fun w' hw' => by obtain ⟨h0, h1⟩ := hw'; go_simp) ?_
        try simp only [Act.put, List.setIfInBounds_toArray, List.set_cons_zero, List.set_cons_succ]
        refine U_read 7 (v := (.int .i64 (4 * (k : Int)))) rfl (by kernel_rfl) (fun _ _ _ h => h) hS (by rfl) (fun w' hw' => by obtain ⟨h0, h1⟩ := hw'; go_simp) ?_
        try simp only [Act.put, List.setIfInBounds_toArray, List.set_cons_zero, List.set_cons_succ]
        refine U_read 8 (v := (.int .i64 (13 + 4 * (m : Int) + 4 * (k : Int)))) rfl (by kernel_rfl) (fun _ _ _ h => h) hS (by rfl) (fun w' hw' => by obtain ⟨h0, h1⟩ := hw'; go_simp) ?_
        try simp only [Act.put, List.setIfInBounds_toArray, List.set_cons_zero, List.set_cons_succ]
        refine U_one 9 (by kernel_rfl) rfl rfl (fun K hK => ?_)
        go_simp
        refine (HCW.out _ HSq.out.a).mono ?_
        rintro e w13 ⟨rfl, mq, rfl⟩
        have HS14 := Lib.hid (HSq.out.drew mq)
        generalize wq.drewN mq = w13 at *
        have hS14 : w13.cell? ⟨b5, 4, none⟩ = some vr ∧ True := ⟨HS14.out.box.cell 4, trivial⟩
        clear HSq
        refine hK _ _ (fun _ => hS14) ?_
        clear hK K
        try simp only [Act.put, List.setIfInBounds_toArray, List.set_cons_zero, List.set_cons_succ]
        refine U_one 10 (by kernel_rfl) rfl rfl (fun K hK => ?_)
        go_simp
        have HSA := Lib.hid (HS14.out.below ((Below.refl _ _).alloc (Nat.le_refl _) (.cells #[.int .u32 (x : Nat)] 54)))
        have hSA : (w13.alloc (.cells #[.int .u32 (x : Nat)] 54)).cell? ⟨b5, 4, none⟩ = some vr ∧ True := ⟨HSA.out.box.cell 4, trivial⟩
        refine hK _ _ (fun _ => hSA) ?_
        clear hK K
        try simp only [Act.put, List.setIfInBounds_toArray, List.set_cons_zero, List.set_cons_succ]
        refine U_one 11 (by kernel_rfl) rfl rfl (fun K hK => ?_)
        refine wp_append_any _ (.tmp 63) (.tmp 72) _ rfl (b5 + 1) 54 i0 _ 1 4 Tryz.underlying101 hi0 hz0 hz1 hz2 rfl (by omega) vr pk.length (u32s pk) rfl HSA.out.ro (w13.heap.size + 1) (some ⟨w13.heap.size, 0, none⟩) 1 1 (u32s [x]) rfl ⟨rfl, fun _ => ⟨_, rfl, by simp, cell_one_new _ _ _⟩⟩ (one_u32s _) (by simp only [maxLen]; omega) (by omega) HSA.out.top ?_
        intro v15 w15 hown15 hg15 hat15
        obtain ⟨g15, c15, rfl, -, -, -⟩ := Row.of_any hown15 (by omega)
        have HS15 := Lib.hid (HSA.out.appR (ys := [x]) rfl hown15 hg15)
        have hfz := (HSA.out.roomR hg15).frozen 4
        have hcu := (HSA.out.roomR hg15).cell 4
        have hS15 : w15.cell? ⟨b5, 4, none⟩ = some vr ∧ True := ⟨hcu, trivial⟩
        clear hown15 hg15 hat15 HSA HS14
        refine hK _ _ (fun _ => hS15) ?_
        clear hK K
        try simp only [Act.put, List.setIfInBounds_toArray, List.set_cons_zero, List.set_cons_succ]
        refine U_one 12 (by kernel_rfl) rfl rfl (fun K hK => ?_)
        go_simp
        refine hK _ _ (fun _ => hS15) ?_
        clear hK K
        try simp only [Act.put, List.setIfInBounds_toArray, List.set_cons_zero, List.set_cons_succ]
        refine U_one 13 (by kernel_rfl) rfl rfl (fun K hK => ?_)
        go_simp
        refine hK _ _ (fun h => absurd h (by decide)) ?_
        clear hK K
        try simp only [Act.put, List.setIfInBounds_toArray, List.set_cons_zero, List.set_cons_succ]
        refine U_done (by kernel_rfl) ?_ _
        simp only [Calm, Exit.then]
        clear hS hS14 hSA hS15 hcu hfz
        go_wp2_with fail
        go_roundw
        case rel => exact ⟨k + 1, _, by go_num, by omega, by rw [HLS.out]; exact HS15.out⟩
        case measure => simp [intOf]; omega
       ·obtain rfl : k = 64 := by omega
        have hd : decide ((64 : Int) < 64) = false := by decide
        have HSE := Lib.hid S
        have e0 := S.box.cell 0
        have e1 := S.box.cell 1
        have e2 := S.box.cell 2
        obtain ⟨AW, cW, hvw, hrW⟩ := own_sliceI S.wo
        obtain ⟨AR, cR, hvr, hrR⟩ := own_sliceI S.ro
        subst hvw hvr
        have e3 := S.box.cell 3
        have e4 := S.box.cell 4
        have HX1 := Lib.hid (reads5 (g := w.heap.size + 1) hrW (fun _ a ha e => by have := (HSE.out.wo.lt a.block (by rw [ha]; rfl)).1; have := HSE.out.h5; omega) (.int .i64 1) (.int .i64 0) (.int .u32 la) (.slice AW ((List.range m).map (fun i => word4 bs (13 + 4 * i))).length cW) (.slice AR ((List.range 64).map (fun i => word4 bs (13 + 4 * m + 4 * i))).length cR))
        have HX2 := Lib.hid (reads5 (g := w.heap.size + 1) hrR (fun _ a ha e => by have := (HSE.out.ro.lt a.block (by rw [ha]; rfl)).1; have := HSE.out.h5; omega) (.int .i64 1) (.int .i64 0) (.int .u32 la) (.slice AW ((List.range m).map (fun i => word4 bs (13 + 4 * i))).length cW) (.slice AR ((List.range 64).map (fun i => word4 bs (13 + 4 * m + 4 * i))).length cR))
        have HNW := Lib.hid (show ∀ a, AW = some a ∨ AR = some a → w.heap.size ≤ a.block from fun a ha => by
         have h5 := S.h5
         rcases ha with ha | ha
         ·have := (S.wo.lt a.block (by rw [ha]; rfl)).1; omega
         ·have := (S.ro.lt a.block (by rw [ha]; rfl)).1; omega)
        have HZ := Lib.hid S.a.res
        have HF := Lib.hid S.a.fr
        clear hrW hrR HSE S HS
        generalize (List.range m).map (fun i => word4 bs (13 + 4 * i)) = wsF at *
        generalize (List.range 64).map (fun i => word4 bs (13 + 4 * m + 4 * i)) = rsF at *
        have z0 := HZ.out.frozen 0
        have z1 := HZ.out.frozen 1
        have z2 := HZ.out.frozen 2
        have z3 := HZ.out.frozen 3
        have z4 := HZ.out.frozen 4
        have d0 := HZ.out.cell 0
        have d1 := HZ.out.cell 1
        have d2 := HZ.out.cell 2
        have d3 := HZ.out.cell 3
        have d4 := HZ.out.cell 4
        have HZ5 := Lib.hid (HZ.out.setAll5 (.int .i64 1) (.int .i64 0) (.int .u32 la) (.slice AW wsF.length cW) (.slice AR rsF.length cR))
        have HFB := Lib.hid (below5 HF.out (g := w.heap.size + 1) (by omega) (.int .i64 1) (.int .i64 0) (.int .u32 la) (.slice AW wsF.length cW) (.slice AR rsF.length cR))
        go_wp2_with fail
        generalize (((((wr.setCell ⟨w.heap.size + 1, 0, none⟩ (.int .i64 1)).setCell ⟨w.heap.size + 1, 1, none⟩ (.int .i64 0)).setCell ⟨w.heap.size + 1, 2, none⟩ (.int .u32 la)).setCell ⟨w.heap.size + 1, 3, none⟩ (.slice AW wsF.length cW)).setCell ⟨w.heap.size + 1, 4, none⟩ (.slice AR rsF.length cR)) = WF at *
        clear z0 d0 z1 d1 z2 d2 z3 d3 z4 d4
        have f0 := HZ5.out.cell 0
        have f1 := HZ5.out.cell 1
        have f2 := HZ5.out.cell 2
        have f3 := HZ5.out.cell 3
        have f4 := HZ5.out.cell 4
        refine bodyPost_ret (v := .tuple #[.agg #[.int .i64 1, .int .i64 0, .int .u32 la, .slice AW wsF.length cW, .slice AR rsF.length cR], .int .i64 0]) (by simp [results, Tryz.results139, go_sem, f0, f1, f2, f3, f4]) rfl ?_
        exact OldP.ok HFB.out HOK.out HX1.out HX2.out HNW.out
   ·have hne2 : ((su : Int) != (lw : Int)) = true := by simp; omega
    have hnei : ¬ ((su : Int) = (lw : Int)) := by omega
    have HNE := Lib.hid (show oldM bs = .error 144 from HM.out.trans (by rw [if_neg (by have := HNM.out; omega), if_pos hsl]))
    clear hsl HM
    go_quiet (first | (go_at_call 113; exact Calls.quiet_of_same (HSM.out _)) | (go_at_call 195; exact Calls.quiet_of (HCL.out _)))
    have HZ := Lib.hid (HA2.out.drew nq).res
    have HF := Lib.hid (HA2.out.drew nq).fr
    clear d1 HSM HCL
    generalize W2.drewN nq = W3 at *
    clear HA2
    have z0 := HZ.out.frozen 0
    have z1 := HZ.out.frozen 1
    have z2 := HZ.out.frozen 2
    have z3 := HZ.out.frozen 3
    have z4 := HZ.out.frozen 4
    have d0 := HZ.out.cell 0
    have d1 := HZ.out.cell 1
    have d2 := HZ.out.cell 2
    have d3 := HZ.out.cell 3
    have d4 := HZ.out.cell 4
    have HZ5 := Lib.hid (HZ.out.setAll5 (.int .i64 0) (.int .i64 0) (.int .u32 0) (.slice none 0 0) (.slice none 0 0))
    have HFB := Lib.hid (below5 HF.out (g := w.heap.size + 1) (by omega) (.int .i64 0) (.int .i64 0) (.int .u32 0) (.slice none 0 0) (.slice none 0 0))
    go_wp2_with fail
    generalize (((((W3.setCell ⟨w.heap.size + 1, 0, none⟩ (.int .i64 0)).setCell ⟨w.heap.size + 1, 1, none⟩ (.int .i64 0)).setCell ⟨w.heap.size + 1, 2, none⟩ (.int .u32 0)).setCell ⟨w.heap.size + 1, 3, none⟩ (.slice none 0 0)).setCell ⟨w.heap.size + 1, 4, none⟩ (.slice none 0 0)) = WF at *
    clear z0 d0 z1 d1 z2 d2 z3 d3 z4 d4
    have f0 := HZ5.out.cell 0
    have f1 := HZ5.out.cell 1
    have f2 := HZ5.out.cell 2
    have f3 := HZ5.out.cell 3
    have f4 := HZ5.out.cell 4
    refine bodyPost_ret (v := .tuple #[.agg #[.int .i64 0, .int .i64 0, .int .u32 0, .slice none 0 0, .slice none 0 0], .int .i64 144]) (by simp [results, Tryz.results139, go_sem, f0, f1, f2, f3, f4]) rfl ?_
    exact OldP.err HFB.out HNE.out
  ·have hne : ((n : Int) != 273 + 4 * (m : Int)) = true := by simp; omega
   have HNM := Lib.hid (show oldM bs = .error 143 from by rw [HM.out, if_pos (.inr hnm)])
   have hnm2 : ¬ ((n : Int) = 273 + 4 * (m : Int)) := by omega
   clear HM hnm
   go_quiet ((go_at_call 195; exact Calls.quiet_of (HC9.out _)))
   have HZ := Lib.hid (HA.out.drew nq).res
   have HF := Lib.hid (HA.out.drew nq).fr
   generalize W1.drewN nq = W2 at *
   clear d1 HA
   have z0 := HZ.out.frozen 0
   have z1 := HZ.out.frozen 1
   have z2 := HZ.out.frozen 2
   have z3 := HZ.out.frozen 3
   have z4 := HZ.out.frozen 4
   have d0 := HZ.out.cell 0
   have d1 := HZ.out.cell 1
   have d2 := HZ.out.cell 2
   have d3 := HZ.out.cell 3
   have d4 := HZ.out.cell 4
   have HZ5 := Lib.hid (HZ.out.setAll5 (.int .i64 0) (.int .i64 0) (.int .u32 0) (.slice none 0 0) (.slice none 0 0))
   have HFB := Lib.hid (below5 HF.out (g := w.heap.size + 1) (by omega) (.int .i64 0) (.int .i64 0) (.int .u32 0) (.slice none 0 0) (.slice none 0 0))
   go_wp2_with fail
   generalize (((((W2.setCell ⟨w.heap.size + 1, 0, none⟩ (.int .i64 0)).setCell ⟨w.heap.size + 1, 1, none⟩ (.int .i64 0)).setCell ⟨w.heap.size + 1, 2, none⟩ (.int .u32 0)).setCell ⟨w.heap.size + 1, 3, none⟩ (.slice none 0 0)).setCell ⟨w.heap.size + 1, 4, none⟩ (.slice none 0 0)) = WF at *
   clear z0 d0 z1 d1 z2 d2 z3 d3 z4 d4
   have f0 := HZ5.out.cell 0
   have f1 := HZ5.out.cell 1
   have f2 := HZ5.out.cell 2
   have f3 := HZ5.out.cell 3
   have f4 := HZ5.out.cell 4
   refine bodyPost_ret (v := .tuple #[.agg #[.int .i64 0, .int .i64 0, .int .u32 0, .slice none 0 0, .slice none 0 0], .int .i64 143]) (by simp [results, Tryz.results139, go_sem, f0, f1, f2, f3, f4]) rfl ?_
   exact OldP.err HFB.out HNM.out
end
section
open Go.RowKit
theorem rdSec_mem {t : Nat} {b p r : List Nat} (h : rdSec t b = .ok (p, r)) (h8 : ∀ x ∈ b, x < 256) : (∀ x ∈ p, x < 256) ∧ ∀ x ∈ r, x < 256 := by
 unfold rdSec at h
 split at h
 ·cases h
 ·rename_i x b1
  split at h
  ·cases h
  ·split at h
   ·cases h
   ·rename_i n b2 hn
    obtain ⟨_, _, c, hc⟩ := rdNum_lt hn
    have hb2 : ∀ x ∈ b2, x < 256 := fun x hx => h8 x (by rw [hc]; simp [hx])
    split at h
    ·cases h
    ·split at h
     ·cases h
      exact ⟨fun x hx => hb2 x (List.mem_of_mem_take hx), fun x hx => hb2 x (List.mem_of_mem_drop hx)⟩
     ·cases h
theorem rdSecs_mem : ∀ {ts b : List Nat} {ps : List (List Nat)} {r : List Nat}, rdSecs ts b = .ok (ps, r) → (∀ x ∈ b, x < 256) → ∀ p ∈ ps, ∀ x ∈ p, x < 256
 | [], b, ps, r, h, h8 => by cases h; exact fun p hp => by cases hp
 | t :: ts, b, ps, r, h, h8 => by
   unfold rdSecs at h
   split at h
   ·cases h
   ·rename_i p q hq
    split at h
    ·cases h
    ·rename_i ps' r' h2
     cases h
     have h3 := rdSec_mem hq h8
     have h4 := rdSecs_mem h2 h3.2
     intro p' hp'
     rcases List.mem_cons.1 hp' with rfl | hp'
     ·exact h3.1
     ·exact h4 p' hp'
theorem newM_fit {b : List Nat} {i : Img} (h : newM b = .ok i) (h8 : ∀ x ∈ b, x < 256) : i.last < 4294967296 ∧ i.rts.length = 64 ∧ ∀ t ∈ i.ts, t.Ok := by
 unfold newM at h
 split at h
 ·cases h
 ·rename_i ps r hs
  split at h
  ·cases h
  ·split at h
   ·cases h
   ·rename_i i' hp
    cases h
    have hm := rdSecs_mem hs h8
    have h1 : ∀ x ∈ ps.getD 1 [], x < 256 := by
     intro x hx
     rw [List.getD_eq_getElem?_getD] at hx
     cases hh : ps[1]? with
     | none => rw [hh] at hx; cases hx
     | some p => rw [hh] at hx; exact hm p (List.mem_of_getElem? hh) x hx
    unfold partsM at hp
    split at hp
    ·cases hp
    ·rename_i last q h0
     split at hp
     ·cases hp
     ·rename_i many q' h2
      split at hp
      ·cases hp
      ·split at hp
       ·cases hp
       ·rename_i ts q1 h3
        split at hp
        ·cases hp
        ·split at hp
         ·cases hp
         ·rename_i rts q2 h4
          split at hp
          ·cases hp
          ·cases hp
           exact ⟨(rdNum_lt h0).1, (rdK_len _ _ _ _ h4).1, (rdObjs_ok _ _ _ _ h3 h1).2.1⟩
theorem ob_words {b : Ob} (h : b.Ok) : ∀ x ∈ b.ws, x < 4294967296 := by
 intro x hx
 unfold Ob.ws at hx
 rcases List.mem_cons.1 hx with rfl | hx
 ·have := w0_lt h.fit; omega
 ·rcases List.mem_cons.1 hx with rfl | hx
  ·exact h.fit.cls
  ·rcases List.mem_cons.1 hx with rfl | hx
   ·exact h.fit.ser
   ·exact h.f32 x hx
structure Rd.Fit (r : Rd) : Prop where
 roots : r.roots.length = 64
 w32 : ∀ x ∈ r.words, x < 4294967296
 r32 : ∀ x ∈ r.roots, x < 4294967296
 last : r.last < 4294967296
theorem take_fit {b : List Nat} {r : Rd} (h : takeR b = .ok r) (h8 : ∀ x ∈ b, x < 256) : r.Fit := by
 unfold takeR at h
 split at h
 ·cases h
 ·split at h
  ·cases h
  ·split at h
   ·unfold oldM at h
    split at h
    ·cases h
    ·split at h
     ·cases h
     ·cases h
      exact ⟨by simp, fun x hx => by obtain ⟨i, _, rfl⟩ := List.mem_map.1 hx; exact word4_lt h8 _, fun x hx => by obtain ⟨i, _, rfl⟩ := List.mem_map.1 hx; exact word4_lt h8 _, word4_lt h8 _⟩
   ·split at h
    ·split at h
     ·cases h
     ·rename_i i hi
      cases h
      obtain ⟨h1, h2, h3⟩ := newM_fit hi (fun x hx => h8 x (List.mem_of_mem_drop hx))
      refine ⟨by show (i.rts.map (valT i.ts)).length = 64; rw [List.length_map, h2], fun x hx => ?_, fun x hx => ?_, h1⟩
      ·rcases List.mem_cons.1 (show x ∈ 0 :: wsOf (i.ts.map (obOf i.ts)) from hx) with rfl | hx
       ·omega
       ·obtain ⟨o, ho, hxo⟩ := List.mem_flatMap.1 hx
        obtain ⟨t, ht, rfl⟩ := List.mem_map.1 ho
        exact ob_words (obOf_ok (h3 t ht)) x hxo
      ·obtain ⟨n, _, rfl⟩ := List.mem_map.1 (show x ∈ i.rts.map (valT i.ts) from hx)
       exact valT_lt _ _
    ·cases h
end
section
open Go.RowKit
def istrN (xs : List Nat) : ByteArray := strOfNums (xs.map fun x : Nat => (x : Int))
theorem istrN_data (xs : List Nat) : (istrN xs).data = (xs.map UInt8.ofNat).toArray := by
 unfold istrN strOfNums
 simp [Function.comp_def]
theorem iofNat_inj {xs ys : List Nat} (hx : ∀ x ∈ xs, x < 256) (hy : ∀ y ∈ ys, y < 256) (h : xs.map UInt8.ofNat = ys.map UInt8.ofNat) : xs = ys := by
 induction xs generalizing ys with
 | nil => cases ys with
   | nil => rfl
   | cons y ys => simp at h
 | cons x xs ih =>
   cases ys with
   | nil => simp at h
   | cons y ys =>
     rw [List.map_cons, List.map_cons, List.cons.injEq] at h
     have h1 : x = y := by
      have e := congrArg UInt8.toNat h.1
      rw [UInt8.toNat_ofNat', UInt8.toNat_ofNat', Nat.mod_eq_of_lt (hx x (List.mem_cons_self ..)), Nat.mod_eq_of_lt (hy y (List.mem_cons_self ..))] at e
      exact e
     rw [h1, ih (fun z hz => hx z (List.mem_cons_of_mem _ hz)) (fun z hz => hy z (List.mem_cons_of_mem _ hz)) h.2]
theorem istrN_inj {xs ys : List Nat} (hx : ∀ x ∈ xs, x < 256) (hy : ∀ y ∈ ys, y < 256) : istrN xs = istrN ys ↔ xs = ys := by
 constructor
 ·intro h
  have e := congrArg ByteArray.data h
  rw [istrN_data, istrN_data] at e
  exact iofNat_inj hx hy (by simpa using e)
 ·intro h; rw [h]
theorem str_ne {a b : ByteArray} (h : a ≠ b) : (a.toList == b.toList) = false := by
 rw [Bool.eq_false_iff]
 intro e
 have e2 := eq_of_beq e
 rw [ByteArray.toList_eq, ByteArray.toList_eq] at e2
 obtain ⟨⟨x⟩⟩ := a
 obtain ⟨⟨y⟩⟩ := b
 exact h (by simp at e2; rw [e2])
theorem strN_mark : istrN [69, 70, 73, 71] = { data := #[69, 70, 73, 71] } := by
 have h := istrN_data [69, 70, 73, 71]
 generalize istrN [69, 70, 73, 71] = s at *
 obtain ⟨d⟩ := s
 simp only at h
 subst h
 rfl
set_option maxRecDepth 100000 in
theorem conv_head {w : World} {B n g o len c2 : Nat} {bs : List Nat} (hr : Reads w B 1 (some ⟨g, o, none⟩) n (u8c bs)) (hl : len ≤ n) (h0 : 0 < n) :
 (convert 22 9 (.slice (some ⟨g, o, none⟩) len c2)).run Tryz.prog w = .ok (.string (istrN (bs.take len))) w := by
 have hbl : bs.length = n := by have := hr.1; rw [u8c_len] at this; omega
 obtain ⟨ad, e, hb, hx⟩ := hr.2 h0
 injection e with e
 subst e
 refine run_convert_bytes_arg (P := Tryz.prog) w 22 5 Tryz.underlying22 Tryz.underlying5 g o len c2 ((bs.take len).map fun x : Nat => (x : Int)) (by simp; omega) (fun i hi => ?_) _ Tryz.underlying9
 have hli : i < bs.length := by omega
 have hy := hx i (.int .u8 (bs[i] : Nat)) (by unfold u8c; rw [List.getElem?_map, List.getElem?_eq_getElem hli]; rfl)
 rw [WideShapes.add_plain] at hy
 refine hy.trans ?_
 rw [List.getD_eq_getElem?_getD, List.getElem?_map, List.getElem?_take, if_pos hi, List.getElem?_eq_getElem hli]
 rfl
end
end Go.Proofs.YtlkahgagmfhdaaaGreatDoor
