/- The document's object: its bytes. Printed by wip/src/XIRObj.py. -/
import Derived.Test.YtfpleoblehfhbaaGreatDoorJIObjS
import Derived.Test.YtfpleoblehfhbaaGreatDoorJIEq
import Derived.Test.YtfpleoblehfhbaaGreatDoorJRefG
set_option linter.unusedVariables false
set_option linter.unusedSimpArgs false
namespace Go.Proofs.YtfpleoblehfhbaaGreatDoor
open Go.RowKit
attribute [local go_sem] Oper.semAt_some

theorem ibM_at (ys : List Nat) : ∀ i, i < 4 * ys.length → (bytesM ys)[i]? = some (byteOf (ys.getD (i / 4) 0) (i % 4)) := by
  intro i hi
  have h := bytesM_getD4 ys (i / 4) (by omega) (i % 4) (by omega)
  have hl : i < (bytesM ys).length := by rw [bytesM_len]; exact hi
  rw [show 4 * (i / 4) + i % 4 = i by omega, List.getD_eq_getElem?_getD, List.getElem?_eq_getElem hl] at h
  rw [List.getElem?_eq_getElem hl]
  simp only [Option.getD_some] at h
  rw [h]
  unfold byteOf bytes4
  have hr : i % 4 = 0 ∨ i % 4 = 1 ∨ i % 4 = 2 ∨ i % 4 = 3 := by omega
  rcases hr with e | e | e | e <;> rw [e] <;> simp
section
variable {w : World} {p : HP} {h : HM} {l : List Ob}
theorem hdAt_at (G : h.Good l) (k : Nat) (hk : k < l.length) : h.hdAt (2 * posOf (l.take k) / 2) := by
  have hb := isB_at G k hk
  unfold HM.isB at hb
  simp only [Bool.and_eq_true] at hb
  exact G.laid.heads _ hb.2
theorem roget_any (R : RAt w p h) (G : h.Good l) (k : Nat) (hk : k < l.length) (i : Nat) (hi : i < (l[k]).fs.length) (hf : (l[k]).x.fmt = 1 ∨ (l[k]).x.fmt = 4) (ho : 2 * posOf (l.take k) < 4294967296) :
    Calls Tryz.prog 76 #[ptr p.g, .int .u32 (2 * posOf (l.take k) : Nat), .int .i64 i] w (Told (.tuple #[.int .u32 ((l[k]).fs.getD i 0 : Nat), .int .i64 0]) w) := by
  obtain ⟨h1, K, h3, h4, h5⟩ := ob_at G k hk
  have hz := ok_size K
  have hG := rget_any R G.fit G.laid.heads _ ho (i : Int) (by omega)
  have hln : (l[k]).x.len = (l[k]).fs.length := by unfold Hd.len; rw [if_neg (by omega), K.size]
  have he : h.lookE (2 * posOf (l.take k)) (i : Int) [1, 4] = 0 := by
    unfold HM.lookE
    rw [h4, h5, if_neg (by decide), if_neg (by rcases hf with e | e <;> rw [e] <;> decide), if_neg (by omega)]
  unfold HM.readN at hG
  rw [he, if_pos rfl, Int.toNat_natCast, h3 i hi] at hG
  exact hG
theorem roword_any (R : RAt w p h) (G : h.Good l) (k : Nat) (hk : k < l.length) (i : Nat) (hi : i < (l[k]).fs.length) (hf : (l[k]).x.fmt = 3) (ho : 2 * posOf (l.take k) < 4294967296) :
    Calls Tryz.prog 75 #[ptr p.g, .int .u32 (2 * posOf (l.take k) : Nat), .int .i64 i] w (Told (.tuple #[.int .u32 ((l[k]).fs.getD i 0 : Nat), .int .i64 0]) w) := by
  obtain ⟨h1, K, h3, h4, h5⟩ := ob_at G k hk
  have hz := ok_size K
  have hG := rword_any R G.fit G.laid.heads _ ho (i : Int) (by omega)
  have hln : (l[k]).x.len = (l[k]).fs.length := by unfold Hd.len; rw [if_neg (by omega), K.size]
  have he : h.lookE (2 * posOf (l.take k)) (i : Int) [3] = 0 := by
    unfold HM.lookE
    rw [h4, h5, if_neg (by decide), if_neg (by rw [hf]; decide), if_neg (by omega)]
  unfold HM.readN at hG
  rw [he, if_pos rfl, Int.toNat_natCast, h3 i hi] at hG
  exact hG
theorem robyte_any (R : RAt w p h) (G : h.Good l) (k : Nat) (hk : k < l.length) (i : Nat) (hi : i < (l[k]).x.len) (hf : (l[k]).x.fmt = 2) (ho : 2 * posOf (l.take k) < 4294967296) :
    Calls Tryz.prog 74 #[ptr p.g, .int .u32 (2 * posOf (l.take k) : Nat), .int .i64 i] w (Told (.tuple #[.int .u8 ((bytesM (l[k]).fs).getD i 0 : Nat), .int .i64 0]) w) := by
  obtain ⟨h1, K, h3, h4, h5⟩ := ob_at G k hk
  have hz := ok_size K
  have hln : (l[k]).x.len = 4 * (l[k]).fs.length - (l[k]).x.spare := by unfold Hd.len; rw [if_pos hf, K.size]
  have hG := rbyte_any R G.fit G.laid.heads _ ho (i : Int) (by omega)
  have he : h.lookE (2 * posOf (l.take k)) (i : Int) [2] = 0 := by
    unfold HM.lookE
    rw [h4, h5, if_neg (by decide), if_neg (by rw [hf]; decide), if_neg (by omega)]
  have hb : (bytesM (l[k]).fs).getD i 0 = fb h (2 * posOf (l.take k)) i := by
    rw [List.getD_eq_getElem?_getD, ibM_at _ i (by omega)]
    unfold fb
    rw [h3 (i / 4) (by omega)]
    rfl
  unfold HM.byteN at hG
  rw [he, if_pos rfl, Int.toNat_natCast, ← hb] at hG
  exact hG
end
/-- The row beside the book's box and the header's. -/
structure ROb (w2 W : World) (B bk mb : Nat) (va : Value) (b9 : Nat) (X : Hd) (v : Value) (bs : List Nat) : Prop where
  rb : RB w2 W B v bs
  bk : Blk W bk 76 #[.map (some mb), va]
  hd : Blk W b9 117 X.cells
section
variable {w2 W W' : World} {B bk mb b9 : Nat} {va v v' : Value} {X : Hd} {bs cs : List Nat} {e : Ending}
theorem ROb.below (S : ROb w2 W B bk mb va b9 X v bs) (hb : Below W.heap.size W W') : ROb w2 W' B bk mb va b9 X v bs := ⟨S.rb.below hb, S.bk.below hb S.bk.lt, S.hd.below hb S.hd.lt⟩
theorem ROb.bytes (S : ROb w2 W B bk mb va b9 X v bs) (h : BytesB B v bs cs W e W') : ∃ v', e = .returned v' ∧ ROb w2 W' B bk mb va b9 X v' (bs ++ cs) := by
  obtain ⟨v', rfl, C⟩ := S.rb.bytes h
  exact ⟨v', rfl, C, h.blk S.bk (own_blkI S.rb.own S.bk (by decide)), h.blk S.hd (own_blkI S.rb.own S.hd (by decide))⟩
theorem ROb.grown (S : ROb w2 W B bk mb va b9 X v bs) (C : RB w2 W' B v' cs) (hg : W.grownBy W' v.ownBlock) : ROb w2 W' B bk mb va b9 X v' cs :=
  ⟨C, S.bk.same (hg.block bk S.bk.lt (fun e => own_blkI S.rb.own S.bk (by decide) (by first | exact e | exact e.symm))), S.hd.same (hg.block b9 S.hd.lt (fun e => own_blkI S.rb.own S.hd (by decide) (by first | exact e | exact e.symm)))⟩
end
set_option maxRecDepth 100000 in
set_option maxHeartbeats 8000000 in
theorem robject_any {w2 w : World} {p : HP} {h : HM} {l : List Ob} {mb B : Nat} {va v : Value} {bs : List Nat} (R : RAt w2 p h) (G : h.Good l) (M : MapU 81 w2 mb (oopsL l)) (C : RB w2 w B v bs) (hn : bs.length ≤ 500000000000) (kk : Nat) (hkk : kk < l.length) :
    Calls Tryz.prog 37 #[bookV mb va, v, ptr p.g, .int .u32 (2 * posOf (l.take kk) : Nat)] w (fun e w' => ∃ v', e = .returned v' ∧ RB w2 w' B v' (bs ++ objB' (oopsL l) l[kk])) := by
  obtain ⟨hfl, hok, hfw, hib, hhd⟩ := ob_at G kk hkk
  have hpl := posOf_take_lt G kk hkk
  have hroom := G.fit.room
  have hhi := G.fit.hi
  have ho : 2 * posOf (l.take kk) < 4294967296 := by omega
  have hL := oopsL_le G
  have hnd := oopsL_nodup l
  have h00 := oopsL_zero l
  have hd := hdAt_at G kk hkk
  have HHD := Lib.hid (fun W' (hb : Below w2.heap.size w2 W') => rheader_any (R.below hb) G.fit _ ho hd)
  have HLN := Lib.hid (fun W' (hb : Below w2.heap.size w2 W') => rlen_any (R.below hb) G.fit _ ho hd)
  rw [hhd] at HHD HLN
  have HGT := Lib.hid (fun W' (hb : Below w2.heap.size w2 W') i hi hf => roget_any (R.below hb) G kk hkk i hi hf ho)
  have HWD := Lib.hid (fun W' (hb : Below w2.heap.size w2 W') i hi hf => roword_any (R.below hb) G kk hkk i hi hf ho)
  have HBY := Lib.hid (fun W' (hb : Below w2.heap.size w2 W') i hi hf => robyte_any (R.below hb) G kk hkk i hi hf ho)
  have HMP := Lib.hid (fun W' (hb : Below w2.heap.size w2 W') => M.below hb)
  have HVL := Lib.hid (fun W' (hb : Below w2.heap.size w2 W') o (ho : o < 4294967296) => rbvalue_any (va := va) (M.below hb) hL hnd h00 o ho)
  have HNB := Lib.hid (fun (w' : World) (v' : Value) (bs' : List Nat) (C : RB w2 w' B v' bs') (hn' : bs'.length ≤ 10000000000000) (x : Nat) (hx : x < 4294967296) => rnumber_any C.own C.top hn' x hx)
  have HLK := Lib.hid (fun W' (hb : Below w2.heap.size w2 W') o (ho : o < 4294967296) => (M.below hb).look hnd oopTyU (x := o) ho)
  unfold ptr at HHD HLN HGT HWD HBY ⊢
  unfold bookV at HVL ⊢
  clear R G M hfl hfw hib hhd hpl hd
  generalize (l[kk]) = b at *
  generalize 2 * posOf (l.take kk) = o at *
  generalize oopsL l = L at *
  have hcl := hok.fit.cls
  have hnl : numL L b.x.cls < 4294967296 := by have := numL_le L b.x.cls; omega
  have hsz2 := ok_size hok
  have HSZQ := Lib.hid hok.size
  have hsz3 : b.x.size ≤ 65535 := by rw [hok.size]; exact hsz2
  have hser := hok.fit.ser
  have hxl : b.x.len ≤ 300000 := by unfold Hd.len; split <;> omega
  have hfm := hok.fit.fmt
  have hfp := hok.fit.spare
  have HBN := Lib.hid (show (cnt7 (numL L b.x.cls)).length ≤ 5 ∧ (cnt7 b.x.size).length ≤ 5 ∧ (cnt7 b.x.ser).length ≤ 5 from ⟨cnt7I_len5 hnl, cnt7I_len5 (by omega), cnt7I_len5 hser⟩)
  have HEQ := Lib.hid (show objB' L b = cnt7 (numL L b.x.cls) ++ ([b.x.fmt + 16 * b.x.spare] ++ (cnt7 b.x.size ++ (cnt7 b.x.ser ++ payB L b))) from rfl)
  have HC0 := Lib.hid (C.alloc (.cells #[.map (some mb), va] 76))
  have HV := Lib.hid (show b.x.val = .agg #[.int .i64 b.x.size, .int .i64 b.x.fmt, .int .i64 b.x.spare, .int .u32 b.x.cls, .int .u32 b.x.ser] from rfl)
  have BK0 := Blk.new w 76 #[.map (some mb), va]
  have hBw : B ≤ w.heap.size := C.top
  have hwsz : IntKind.u32.wrap (b.x.size : Int) = (b.x.size : Int) := by show (b.x.size : Int) % 4294967296 = _; omega
  clear C
  go_enter Tryz.func37, Tryz.ntmps37
  go_wp2_with fail
  have HBK := Lib.hid BK0
  clear BK0
  have hbk : w.heap.size < (w.alloc (.cells #[.map (some mb), va] 76)).heap.size := by simp
  generalize w.alloc (.cells #[.map (some mb), va] 76) = W0 at *
  refine (HHD.out _ HC0.out.base).mono ?_
  rintro e W1 ⟨rfl, hb1⟩
  rw [HV.out]
  have HS := Lib.hid (show ROb w2 (W1.alloc (.cells b.x.cells 117)) B w.heap.size mb va W1.heap.size b.x v bs from ⟨(HC0.out.below hb1).alloc _, (HBK.out.below hb1 HBK.out.lt).alloc _, Blk.new W1 _ _⟩)
  unfold Hd.cells at HS
  clear HC0 HBK hb1 hbk
  go_upto_region 2 with fail
  generalize W1.alloc (.cells #[.int .i64 b.x.size, .int .i64 b.x.fmt, .int .i64 b.x.spare, .int .u32 b.x.cls, .int .u32 b.x.ser] 117) = W2 at *
  have q0 := HS.out.bk.cell 0
  have q1 := HS.out.bk.cell 1
  have x0 := HS.out.hd.cell 0
  have x1 := HS.out.hd.cell 1
  have x2 := HS.out.hd.cell 2
  have x3 := HS.out.hd.cell 3
  have x4 := HS.out.hd.cell 4
  unfold Hd.cells at x0 x1 x2 x3 x4
  have hlk := HLK.out _ HS.out.rb.base _ hcl
  go_wp2_with fail
  refine (HNB.out _ _ _ HS.out.rb (by omega) _ hnl).mono ?_
  rintro e w3 hB3
  obtain ⟨v3, rfl, S3⟩ := HS.out.bytes hB3
  clear HS q0 q1 x0 x1 x2 x3 x4 hlk hB3
  have HS := Lib.hid S3
  clear S3
  have q0 := HS.out.bk.cell 0
  have q1 := HS.out.bk.cell 1
  have x0 := HS.out.hd.cell 0
  have x1 := HS.out.hd.cell 1
  have x2 := HS.out.hd.cell 2
  have x3 := HS.out.hd.cell 3
  have x4 := HS.out.hd.cell 4
  unfold Hd.cells at x0 x1 x2 x3 x4
  go_wp2_with (at_builtin; refine wpList_app_RB (.tmp 27) (.tmp 35) (HS.out.rb.alloc _) (reads_one w3 (b.x.fmt + 16 * b.x.spare)) rfl rfl (by have := HBN.out; simp only [List.length_append]; omega) rfl rfl ?_; intro v7 w7 C7 hg7; have HS7 := Lib.hid ((HS.out.below ((Below.refl _ _).alloc (Nat.le_refl _) (.cells #[.int .u8 ((b.x.fmt + 16 * b.x.spare : Nat) : Int)] 5))).grown C7 hg7); clear C7 hg7 HS q0 q1 x0 x1 x2 x3 x4; have HS := Lib.hid HS7.out; clear HS7; have x0 := HS.out.hd.cell 0; unfold Hd.cells at x0)
  refine (HNB.out _ _ _ HS.out.rb (by have := HBN.out; simp only [List.length_append, List.length_cons, List.length_nil]; omega) b.x.size (by omega)).mono ?_
  rintro e w4 hB4
  obtain ⟨v4, rfl, S4⟩ := HS.out.bytes hB4
  clear HS x0 hB4
  have HS := Lib.hid S4
  clear S4
  have q0 := HS.out.bk.cell 0
  have q1 := HS.out.bk.cell 1
  have x0 := HS.out.hd.cell 0
  have x1 := HS.out.hd.cell 1
  have x2 := HS.out.hd.cell 2
  have x3 := HS.out.hd.cell 3
  have x4 := HS.out.hd.cell 4
  unfold Hd.cells at x0 x1 x2 x3 x4
  go_wp2_with fail
  refine (HNB.out _ _ _ HS.out.rb (by have := HBN.out; simp only [List.length_append, List.length_cons, List.length_nil]; omega) b.x.ser hser).mono ?_
  rintro e w5 hB5
  obtain ⟨v5, rfl, S5⟩ := HS.out.bytes hB5
  clear HS q0 q1 x0 x1 x2 x3 x4 hB5
  have HS := Lib.hid S5
  clear S5
  generalize hbs4 : bs ++ cnt7 (numL L b.x.cls) ++ [b.x.fmt + 16 * b.x.spare] ++ cnt7 b.x.size ++ cnt7 b.x.ser = bs4 at *
  have HBS := Lib.hid hbs4
  have HB4L := Lib.hid (show bs4.length ≤ 500000000100 by rw [← hbs4]; obtain ⟨a1, a2, a3⟩ := HBN.out; simp only [List.length_append, List.length_cons, List.length_nil]; omega)
  clear hbs4
  have q0 := HS.out.bk.cell 0
  have q1 := HS.out.bk.cell 1
  have x0 := HS.out.hd.cell 0
  have x1 := HS.out.hd.cell 1
  have x2 := HS.out.hd.cell 2
  have x3 := HS.out.hd.cell 3
  have x4 := HS.out.hd.cell 4
  unfold Hd.cells at x0 x1 x2 x3 x4
  by_cases h2 : b.x.fmt = 2
  · have hd2 : ((b.x.fmt : Int) == 2) = true := by simp; omega
    have HPE := Lib.hid (show payB L b = (bytesM b.fs).take b.x.len by unfold payB; rw [if_pos h2])
    have HF := Lib.hid h2
    clear h2
    go_wp2_with fail
    go_loopw [1, 10] (fun b' i wr => ∃ k : Nat, i = .int .i64 k ∧ k ≤ b.x.len ∧ ROb w2 wr B w.heap.size mb va W1.heap.size b.x b' (bs4 ++ (bytesM b.fs).take k)) (fun _ i _ => b.x.len - (intOf i).toNat)
    case atStart => exact ⟨0, rfl, Nat.zero_le _, by simpa using HS.out⟩
    case round =>
      clear HS q0 q1 x0 x1 x2 x3 x4
      obtain ⟨k, rfl, hk, hS⟩ := hrel
      have HS := Lib.hid hS
      clear hS
      by_cases hkn : k < b.x.len
      · have hd : decide ((k : Int) < (b.x.len : Int)) = true := by simp; omega
        have hbl : (bytesM b.fs).length = 4 * b.fs.length := bytesM_len _
        have hln : b.x.len = 4 * b.fs.length - b.x.spare := by unfold Hd.len; rw [if_pos HF.out, HSZQ.out]
        have hy : (bytesM b.fs).getD k 0 < 256 := by
          rw [List.getD_eq_getElem?_getD, List.getElem?_eq_getElem (by omega)]
          obtain ⟨x, _, h1⟩ := List.mem_flatMap.1 (show (bytesM b.fs)[k] ∈ bytesM b.fs from List.getElem_mem (by omega))
          simp [bytes4] at h1
          simp
          omega
        have HTK := Lib.hid (show (bytesM b.fs).take (k + 1) = (bytesM b.fs).take k ++ [(bytesM b.fs).getD k 0] by rw [List.take_add_one, List.getD_eq_getElem?_getD, List.getElem?_eq_getElem (by omega)]; simp)
        have HPL := Lib.hid (show ((bytesM b.fs).take k).length ≤ 4 * 65535 by rw [List.length_take]; omega)
        have HG := Lib.hid (fun W' hb => HBY.out W' hb k hkn HF.out)
        clear hbl hln
        generalize (bytesM b.fs).getD k 0 = y at *
        generalize (bytesM b.fs).take k = pk at *
        clear hk
        go_wp2_with fail
        refine (HLN.out _ HS.out.rb.base).mono ?_
        rintro e w5 ⟨rfl, hb5⟩
        have HS5 := Lib.hid (HS.out.below hb5)
        have x1 := HS5.out.hd.cell 1
        unfold Hd.cells at x1
        clear hb5 HS
        go_wp2_with fail
        refine (HG.out _ HS5.out.rb.base).mono ?_
        rintro e w6 ⟨rfl, hb6⟩
        have HS6 := Lib.hid (HS5.out.below hb6)
        clear hb6 HS5 x1
        go_wp2_with (at_builtin; refine wpList_app_RB (.tmp 76) (.tmp 78) (HS6.out.rb.alloc _) (reads_one w6 y) rfl rfl (by have := HB4L.out; have := HPL.out; simp only [List.length_append]; omega) rfl rfl ?_; intro v7 w7 C7 hg7; have HS7 := Lib.hid ((HS6.out.below ((Below.refl _ _).alloc (Nat.le_refl _) (.cells #[.int .u8 (y : Int)] 5))).grown C7 hg7); clear C7 hg7)
        go_roundw
        case rel => exact ⟨k + 1, by go_num, by omega, by rw [HTK.out, ← List.append_assoc]; exact HS7.out⟩
        case measure => simp [intOf]; omega
      · obtain rfl : k = b.x.len := by omega
        have hd : decide ((b.x.len : Int) < (b.x.len : Int)) = false := by simp
        have HS9 := Lib.hid HS.out
        clear hk hkn
        go_wp2_with fail
        refine (HLN.out _ HS.out.rb.base).mono ?_
        rintro e w5 ⟨rfl, hb5⟩
        have HS5 := Lib.hid (HS9.out.rb.below hb5)
        clear hb5 HS HS9
        go_wp2_with fail
        go_ret
        have hfin := HS5.out
        refine ⟨_, rfl, ?_⟩
        rw [HEQ.out, HPE.out]
        rw [← HBS.out] at hfin
        simp only [List.append_assoc] at hfin ⊢
        exact hfin
  · have hd2 : ((b.x.fmt : Int) == 2) = false := by simp; omega
    have HF2 := Lib.hid h2
    by_cases h3 : b.x.fmt = 3
    · have hd3 : ((b.x.fmt : Int) == 3) = true := by simp; omega
      have HPE := Lib.hid (show payB L b = b.fs.flatMap cnt7 by unfold payB; rw [if_neg h2, if_pos h3])
      have HF := Lib.hid h3
      clear h2 h3
      go_wp2_with fail
      go_loopw [1, 10] (fun b' i wr => ∃ k : Nat, i = .int .i64 k ∧ k ≤ b.x.len ∧ ROb w2 wr B w.heap.size mb va W1.heap.size b.x b' (bs4 ++ (b.fs.take k).flatMap cnt7)) (fun _ i _ => b.x.len - (intOf i).toNat)
      case atStart => exact ⟨0, rfl, Nat.zero_le _, by simpa using HS.out⟩
      case round =>
        clear HS q0 q1 x0 x1 x2 x3 x4
        obtain ⟨k, rfl, hk, hS⟩ := hrel
        have HS := Lib.hid hS
        clear hS
        by_cases hkn : k < b.x.len
        · have hd : decide ((k : Int) < (b.x.len : Int)) = true := by simp; omega
          have hln : b.x.len = b.fs.length := by unfold Hd.len; rw [if_neg HF2.out, HSZQ.out]
          have hkf : k < b.fs.length := by omega
          have hy : b.fs.getD k 0 < 4294967296 := by rw [List.getD_eq_getElem?_getD, List.getElem?_eq_getElem hkf]; exact hok.f32 _ (List.getElem_mem hkf)
          have HTK := Lib.hid (show (b.fs.take (k + 1)).flatMap cnt7 = (b.fs.take k).flatMap cnt7 ++ cnt7 (b.fs.getD k 0) by rw [List.take_add_one, List.getElem?_eq_getElem hkf, List.flatMap_append, List.getD_eq_getElem?_getD, List.getElem?_eq_getElem hkf]; simp)
          have HPL := Lib.hid (show ((b.fs.take k).flatMap cnt7).length ≤ 5 * 65535 from Nat.le_trans (words_len (fun x hx => hok.f32 x (List.mem_of_mem_take hx))) (by rw [List.length_take]; omega))
          have HG := Lib.hid (fun W' hb => HWD.out W' hb k hkf HF.out)
          clear hln hkf
          generalize b.fs.getD k 0 = y at *
          generalize (b.fs.take k).flatMap cnt7 = pk at *
          clear hk
          go_wp2_with fail
          refine (HLN.out _ HS.out.rb.base).mono ?_
          rintro e w5 ⟨rfl, hb5⟩
          have HS5 := Lib.hid (HS.out.below hb5)
          have x1 := HS5.out.hd.cell 1
          unfold Hd.cells at x1
          clear hb5 HS
          go_wp2_with fail
          refine (HG.out _ HS5.out.rb.base).mono ?_
          rintro e w6 ⟨rfl, hb6⟩
          have HS6 := Lib.hid (HS5.out.below hb6)
          clear hb6 HS5 x1
          go_wp2_with fail
          refine (HNB.out _ _ _ HS6.out.rb (by have := HB4L.out; have := HPL.out; simp only [List.length_append]; omega) y hy).mono ?_
          rintro e w7 hB7
          obtain ⟨v7, rfl, S7⟩ := HS6.out.bytes hB7
          have HS7 := Lib.hid S7
          clear hB7 S7 HS6
          go_wp2_with fail
          go_roundw
          case rel => exact ⟨k + 1, by go_num, by omega, by rw [HTK.out, ← List.append_assoc]; exact HS7.out⟩
          case measure => simp [intOf]; omega
        · obtain rfl : k = b.x.len := by omega
          have hd : decide ((b.x.len : Int) < (b.x.len : Int)) = false := by simp
          have hln : b.x.len = b.fs.length := by unfold Hd.len; rw [if_neg HF2.out, HSZQ.out]
          have hS := HS.out
          rw [show b.fs.take b.x.len = b.fs by rw [hln]; exact List.take_length] at hS
          have HS9 := Lib.hid hS
          clear hS hln
          clear hk hkn
          go_wp2_with fail
          refine (HLN.out _ HS.out.rb.base).mono ?_
          rintro e w5 ⟨rfl, hb5⟩
          have HS5 := Lib.hid (HS9.out.rb.below hb5)
          clear hb5 HS HS9
          go_wp2_with fail
          go_ret
          have hfin := HS5.out
          refine ⟨_, rfl, ?_⟩
          rw [HEQ.out, HPE.out]
          rw [← HBS.out] at hfin
          simp only [List.append_assoc] at hfin ⊢
          exact hfin
    · have hd3 : ((b.x.fmt : Int) == 3) = false := by simp; omega
      have HPE := Lib.hid (show payB L b = valsB L b.fs by unfold payB; rw [if_neg h2, if_neg h3])
      have HF := Lib.hid (show b.x.fmt = 1 ∨ b.x.fmt = 4 by have hm := hok.may; unfold Hd.may at hm; simp at hm; omega)
      clear h2 h3
      go_wp2_with fail
      go_loopw [1, 10] (fun b' i wr => ∃ k : Nat, i = .int .i64 k ∧ k ≤ b.x.len ∧ ROb w2 wr B w.heap.size mb va W1.heap.size b.x b' (bs4 ++ valsB L (b.fs.take k))) (fun _ i _ => b.x.len - (intOf i).toNat)
      case atStart => exact ⟨0, rfl, Nat.zero_le _, by simpa [valsB] using HS.out⟩
      case round =>
        clear HS q0 q1 x0 x1 x2 x3 x4
        obtain ⟨k, rfl, hk, hS⟩ := hrel
        have HS := Lib.hid hS
        clear hS
        by_cases hkn : k < b.x.len
        · have hd : decide ((k : Int) < (b.x.len : Int)) = true := by simp; omega
          have hln : b.x.len = b.fs.length := by unfold Hd.len; rw [if_neg HF2.out, HSZQ.out]
          have hkf : k < b.fs.length := by omega
          have hy : b.fs.getD k 0 < 4294967296 := by rw [List.getD_eq_getElem?_getD, List.getElem?_eq_getElem hkf]; exact hok.f32 _ (List.getElem_mem hkf)
          have HTK := Lib.hid (valsB_take1 (L := L) hkf)
          have HPL := Lib.hid (show (valsB L (b.fs.take k)).length ≤ 5 * 65535 from Nat.le_trans (valsB_len hL _ (fun x hx => hok.f32 x (List.mem_of_mem_take hx))) (by rw [List.length_take]; omega))
          have HG := Lib.hid (fun W' hb => HGT.out W' hb k hkf HF.out)
          clear hln hkf
          generalize b.fs.getD k 0 = y at *
          generalize valsB L (b.fs.take k) = pk at *
          clear hk
          go_wp2_with fail
          refine (HLN.out _ HS.out.rb.base).mono ?_
          rintro e w5 ⟨rfl, hb5⟩
          have HS5 := Lib.hid (HS.out.below hb5)
          have x1 := HS5.out.hd.cell 1
          unfold Hd.cells at x1
          clear hb5 HS
          go_wp2_with fail
          refine (HG.out _ HS5.out.rb.base).mono ?_
          rintro e w6 ⟨rfl, hb6⟩
          have HS6 := Lib.hid (HS5.out.below hb6)
          clear hb6 HS5 x1
          have q0 := HS6.out.bk.cell 0
          have q1 := HS6.out.bk.cell 1
          go_wp2_with fail
          refine (HVL.out _ HS6.out.rb.base y hy).mono ?_
          rintro e w8 ⟨rfl, hb8⟩
          have HS8 := Lib.hid (HS6.out.below hb8)
          clear hb8 HS6 q0 q1
          go_wp2_with fail
          refine (HNB.out _ _ _ HS8.out.rb (by have := HB4L.out; have := HPL.out; simp only [List.length_append]; omega) (vnum L y) (vnum_lt hL hy)).mono ?_
          rintro e w7 hB7
          obtain ⟨v7, rfl, S7⟩ := HS8.out.bytes hB7
          have HS7 := Lib.hid S7
          clear hB7 S7 HS8
          go_wp2_with fail
          go_roundw
          case rel => exact ⟨k + 1, by go_num, by omega, by rw [HTK.out, ← List.append_assoc]; exact HS7.out⟩
          case measure => simp [intOf]; omega
        · obtain rfl : k = b.x.len := by omega
          have hd : decide ((b.x.len : Int) < (b.x.len : Int)) = false := by simp
          have hln : b.x.len = b.fs.length := by unfold Hd.len; rw [if_neg HF2.out, HSZQ.out]
          have hS := HS.out
          rw [show b.fs.take b.x.len = b.fs by rw [hln]; exact List.take_length] at hS
          have HS9 := Lib.hid hS
          clear hS hln
          clear hk hkn
          go_wp2_with fail
          refine (HLN.out _ HS.out.rb.base).mono ?_
          rintro e w5 ⟨rfl, hb5⟩
          have HS5 := Lib.hid (HS9.out.rb.below hb5)
          clear hb5 HS HS9
          go_wp2_with fail
          go_ret
          have hfin := HS5.out
          refine ⟨_, rfl, ?_⟩
          rw [HEQ.out, HPE.out]
          rw [← HBS.out] at hfin
          simp only [List.append_assoc] at hfin ⊢
          exact hfin
end Go.Proofs.YtfpleoblehfhbaaGreatDoor
