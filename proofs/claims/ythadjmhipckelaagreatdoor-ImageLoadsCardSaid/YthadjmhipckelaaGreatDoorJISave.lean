import Derived.Test.YthadjmhipckelaaGreatDoorJIEq
import Derived.Test.YthadjmhipckelaaGreatDoorJIObj
import Derived.Test.YthadjmhipckelaaGreatDoorJIHead
import Derived.Test.YthadjmhipckelaaGreatDoorJDWrt
import Derived.Test.YthadjmhipckelaaGreatDoorJIROld
import Derived.Test.YthadjmhipckelaaGreatDoorJUntil
import Derived.Lib.SlBytesConst
set_option linter.unusedVariables false
set_option linter.unusedSimpArgs false
set_option linter.unusedSectionVars false
namespace Go.Proofs.YthadjmhipckelaaGreatDoor
section
open Go.RowKit
attribute [local go_sem] Oper.semAt_some
theorem isave1_any (w : World) : Calls Tryz.prog 44 #[] w (BytesN [] w) := by
 unfold BytesN
 go_enter Tryz.func44, Tryz.ntmps44
 go_wp2_with fail
 go_ret
 exact ⟨_, rfl, ⟨rfl, .inl ⟨rfl, rfl⟩⟩, Below.refl _ _⟩
theorem RB.apart {w2 w wr : World} {B n : Nat} {v v5 : Value} {bs : List Nat} {xs : List Value} (C : RB w2 wr B v bs) (h : w.ownsRow wr.heap.size 5 1 v5 n xs) : ∀ A c, v5 = .slice A n c → 0 < n → ∀ a, A = some a → v.ownBlock ≠ some a.block := by
 intro A c e hn a ha hk
 have h1 := (C.own.lt _ hk).2
 have h2 := (h.lt a.block (by rw [e, ha]; rfl)).1
 omega
theorem payH_byte (h : HM) (l : List Ob) : ∀ x ∈ payH h l, x < 256 := by
 intro x hx
 unfold payH at hx
 rcases List.mem_append.1 hx with h1 | h1 <;> exact cnt7_byte _ _ h1
theorem valsB_byte (L rs : List Nat) : ∀ x ∈ valsB L rs, x < 256 := by
 intro x hx
 unfold valsB at hx
 obtain ⟨o, _, h1⟩ := List.mem_flatMap.1 hx
 exact cnt7_byte _ _ h1
theorem bytesM_byte (ys : List Nat) : ∀ x ∈ bytesM ys, x < 256 := by
 intro x hx
 unfold bytesM at hx
 obtain ⟨y, _, h1⟩ := List.mem_flatMap.1 hx
 simp [bytes4] at h1
 omega
theorem objsB_byte {L : List Nat} {l : List Ob} (K : ∀ b ∈ l, b.Ok) : ∀ x ∈ objsB L l, x < 256 := by
 intro x hx
 unfold objsB at hx
 obtain ⟨b, hb, h1⟩ := List.mem_flatMap.1 hx
 have k := (K b hb).fit
 have k1 := k.fmt
 have k2 := k.spare
 unfold objB' at h1
 simp only [List.mem_append, List.mem_cons, List.not_mem_nil, or_false] at h1
 rcases h1 with h1 | h1 | h1 | h1 | h1
 ·exact cnt7_byte _ _ h1
 ·omega
 ·exact cnt7_byte _ _ h1
 ·exact cnt7_byte _ _ h1
 ·unfold payB at h1
  split at h1
  ·exact bytesM_byte _ _ (List.mem_of_mem_take h1)
  ·split at h1
   ·obtain ⟨y, _, h2⟩ := List.mem_flatMap.1 h1
    exact cnt7_byte _ _ h2
   ·exact valsB_byte _ _ _ h1
theorem pay_bytes {h : HM} {l : List Ob} (G : h.Good l) : (∀ x ∈ payH h l, x < 256) ∧ (∀ x ∈ objsB (oopsL l) l, x < 256) ∧ (∀ x ∈ valsB (oopsL l) h.roots, x < 256) :=
 ⟨payH_byte h l, objsB_byte G.laid.ok, valsB_byte _ _⟩
set_option maxRecDepth 100000 in
set_option maxHeartbeats 8000000 in
theorem isave_any {w : World} {p : HP} {h : HM} {l : List Ob} (H : HAt w p h) (G : h.Good l) (hs : Spares w) : Calls Tryz.prog 22 #[ptr p.g] w (SavedP (h.newI l) w) := by
 have HSZ := Lib.hid (size_any H G.fit)
 have HNS := Lib.hid (newSaver_any H G hs)
 have hsz : h.size ≠ 0 := by have := G.fit.lo; omega
 have e0 : ((h.size : Int) == 0) = false := by simp; omega
 have HH := Lib.hid (fun (w' : World) (hb : Below w.heap.size w w') => And.intro (H.below hb) (hs.below hb))
 have HPL := Lib.hid (pay_lens G)
 have kc := fun (w : World) (C : Array Value) (n c : Nat) => Lib.run_convert_bytes_const (P := Tryz.prog) w 22 5 C n c Tryz.underlying22 Tryz.underlying5
 unfold ptr at HSZ HNS ⊢
 clear H hs hsz
 go_enter Tryz.func22, Tryz.ntmps22
 go_wp2_with fail
 refine HSZ.out.mono ?_
 rintro e w1 ⟨rfl, rfl⟩
 go_wp2_with fail
 refine HNS.out.mono ?_
 rintro e w1 ⟨sg, mb, rfl, S1, hsg, hmb, hb1⟩
 have HS1 := Lib.hid S1
 have HB1 := Lib.hid hb1
 clear S1 hb1 HSZ HNS
 have e1 : (u8c [2]).toArray = #[.int .u8 2] := by simp [u8c]
 have e4 : (u8c [69, 70, 73, 71]).toArray = #[.int .u8 69, .int .u8 70, .int .u8 73, .int .u8 71] := by simp [u8c]
 have hr1 := reads_new1 w1 (.cells #[.int .u8 69, .int .u8 70, .int .u8 73, .int .u8 71] 5 (4, 5)) [2] 1 rfl
 have hr0 := reads_marked w1 (.cells #[.int .u8 2] 5) (4, 5) [69, 70, 73, 71] 4 rfl
 rw [e1] at hr1
 rw [e4] at hr0
 have HR1 := Lib.hid hr1
 have HR0 := Lib.hid hr0
 clear hr1 hr0 e1 e4
 go_wp2_with (at_builtin; refine wpList_app_full (w2 := w1) (.tmp 15) (.tmp 16) (bs := [69, 70, 73, 71]) (cs := [2]) (((Below.refl _ _).alloc (Nat.le_refl _) _).alloc (by simp) _) HR0.out HR1.out rfl rfl (by decide) (by decide) rfl rfl ?_; intro v9 w9 C9; have HC9 := Lib.hid C9; clear C9 HR0 HR1)
 generalize hB9 : ((w1.alloc (.cells #[.int .u8 69, .int .u8 70, .int .u8 73, .int .u8 71] 5 (4, 5))).alloc (.cells #[.int .u8 2] 5)).heap.size = B9 at HC9
 have hB91 : w1.heap.size ≤ B9 := HC9.out.hB
 clear hB9
 have HFB := Lib.hid (Blk.new w9 90 #[.func (.func 41) #[.pointer (some ⟨sg, 0, none⟩)] #[], .func (.func 42) #[.pointer (some ⟨sg, 0, none⟩)] #[], .func (.func 43) #[.pointer (some ⟨sg, 0, none⟩)] #[], .func (.func 44) #[] #[]])
 have HC0 := Lib.hid (HC9.out.alloc (.cells #[.func (.func 41) #[.pointer (some ⟨sg, 0, none⟩)] #[], .func (.func 42) #[.pointer (some ⟨sg, 0, none⟩)] #[], .func (.func 43) #[.pointer (some ⟨sg, 0, none⟩)] #[], .func (.func 44) #[] #[]] 90))
 clear HC9
 generalize w9.alloc (.cells #[.func (.func 41) #[.pointer (some ⟨sg, 0, none⟩)] #[], .func (.func 42) #[.pointer (some ⟨sg, 0, none⟩)] #[], .func (.func 43) #[.pointer (some ⟨sg, 0, none⟩)] #[], .func (.func 44) #[] #[]] 90) = W0 at *
 generalize w9.heap.size = gf at *
 have HPO := Lib.hid (pay_bytes G)
 obtain ⟨P3, hP3⟩ : ∃ P : List Nat, P = [] := ⟨_, rfl⟩
 have HE := Lib.hid (show h.newI l = [69, 70, 73, 71, 2] ++ (secI 72 (payH h l) ++ (secI 79 (objsB (oopsL l) l) ++ (secI 82 (valsB (oopsL l) h.roots) ++ secI 90 P3))) by rw [hP3]; rfl)
 have HP3 := Lib.hid hP3
 have hL := oopsL_le G
 have hnd := oopsL_nodup l
 have HHD := Lib.hid (fun (w' : World) (hb : Below w1.heap.size w1 w') => shead_any (HH.out _ (below_top HB1.out hb)).1 G.fit (HS1.out.below hb) hL hnd)
 have HOB := Lib.hid (fun (w' : World) (hb : Below w1.heap.size w1 w') => sobjects_any (HH.out _ (below_top HB1.out hb)).1 G (HH.out _ (below_top HB1.out hb)).2 (HS1.out.below hb))
 have HRT := Lib.hid (fun (w' : World) (hb : Below w1.heap.size w1 w') => sroots_any (HH.out _ (below_top HB1.out hb)).1 G.fit (HS1.out.below hb) hL hnd)
 rw [show (oopsL l).length = l.length from oopsL_len l, show cnt7 h.last ++ cnt7 l.length = payH h l from rfl] at HHD
 have HZR := Lib.hid (fun (w' : World) (hb : Below w1.heap.size w1 w') => isave1_any w')
 rw [← hP3] at HZR
 clear hP3
 have HP4 := Lib.hid (fun (w' : World) (x : Nat) (hx : x < 4294967296) => ifour_any x hx w')
 clear hL hnd HS1
 generalize h.newI l = NI at *
 generalize payH h l = P0 at *
 generalize objsB (oopsL l) l = P1 at *
 generalize valsB (oopsL l) h.roots = P2 at *
 go_loopw [5, 26] (fun b i wr => ∃ k : Nat, i = .int .i64 k ∧ k ≤ 4 ∧ RB w1 wr B9 b ([69, 70, 73, 71, 2] ++ ([secI 72 P0, secI 79 P1, secI 82 P2, secI 90 P3].take k).flatten) ∧ Blk wr gf 90 #[.func (.func 41) #[.pointer (some ⟨sg, 0, none⟩)] #[], .func (.func 42) #[.pointer (some ⟨sg, 0, none⟩)] #[], .func (.func 43) #[.pointer (some ⟨sg, 0, none⟩)] #[], .func (.func 44) #[] #[]]) (fun _ y _ => 4 - (intOf y).toNat)
 case atStart => exact ⟨0, rfl, by omega, by simpa using HC0.out, HFB.out⟩
 case round =>
  clear HC0 HFB
  obtain ⟨k, rfl, hk, hcr, hfb⟩ := hrel
  have HCR := Lib.hid hcr
  have HFB := Lib.hid hfb
  clear hcr hfb
  obtain ⟨hp0, hp1, hp2⟩ := HPL.out
  obtain rfl | rfl | rfl | rfl | rfl : k = 0 ∨ k = 1 ∨ k = 2 ∨ k = 3 ∨ k = 4 := by omega
  ·have hcf := HFB.out.cell 0
   have HBS := Lib.hid (show ([secI 72 P0, secI 79 P1, secI 82 P2, secI 90 P3].take 0).flatten.length ≤ 8000000 by
    have h1 := cnt7_len_le (show P0.length < 4294967296 by omega)
    have h2 := cnt7_len_le (show P1.length < 4294967296 by omega)
    have h3 := cnt7_len_le (show P2.length < 4294967296 by omega)
    have h4 := cnt7_len_le (show P3.length < 4294967296 by rw [HP3.out]; simp)
    have h5 : P3.length = 0 := by rw [HP3.out]; rfl
    simp [secI_len] <;> omega)
   have HNX := Lib.hid (show [69, 70, 73, 71, 2] ++ ([secI 72 P0, secI 79 P1, secI 82 P2, secI 90 P3].take (0 + 1)).flatten = ([69, 70, 73, 71, 2] ++ ([secI 72 P0, secI 79 P1, secI 82 P2, secI 90 P3].take 0).flatten) ++ secI 72 P0 by simp)
   have hpl : P0.length ≤ 6291456 := by omega
   have hp8 : ∀ x ∈ P0, x < 256 := HPO.out.1
   have HG := Lib.hid (HHD.out _ HCR.out.base)
   generalize ([secI 72 P0, secI 79 P1, secI 82 P2, secI 90 P3].take 0).flatten = pre at *
   generalize hpost : ([secI 72 P0, secI 79 P1, secI 82 P2, secI 90 P3].take (0 + 1)).flatten = post at *
   have HPS := Lib.hid hpost
   clear hpost
   clear HHD HOB HRT HZR HPO HE
   simp only [List.getD_eq_getElem?_getD, List.getElem?_toArray, List.getElem?_cons_zero, List.getElem?_cons_succ, Option.getD_some] at hcf
   go_wp2_with fail
   refine HG.out.mono ?_
   rintro e w5 ⟨v5, rfl, hown5, hb5⟩
   have HFB5 := Lib.hid (HFB.out.below hb5 HFB.out.lt)
   obtain ⟨A5, c5, rfl, hr5⟩ := own_sliceI hown5
   have HNE := Lib.hid (HCR.out.apart hown5 A5 c5 rfl)
   have HC5 := Lib.hid (HCR.out.below hb5)
   have HS0 := Lib.hid (BytesB.refl HC5.out.own)
   have HR5 := Lib.hid hr5
   have hB5 : B9 ≤ w5.heap.size := HC5.out.top
   clear hown5 hb5 hr5 HG hcf HCR HFB
   have HCN := Lib.hid (cnt7_len_le (show P0.length < 4294967296 by omega))
   have h8 : ∀ x ∈ 72 :: P0, x < 256 := fun x hx => by rcases List.mem_cons.1 hx with rfl | hx; decide; exact hp8 x hx
   obtain ⟨hs1, hs2⟩ := sumN_eq h8
   have HSM := Lib.hid (fun (A' : Option Addr) (c' : Nat) (w' : World) (hr' : Reads w' w'.heap.size 1 A' (P0.length + 1) (u8c (72 :: P0))) => sum_any A' (P0.length + 1) c' w'.heap.size (72 :: P0) w' (by omega) hr' h8)
   rw [hs1] at HSM
   have hwn : IntKind.u32.wrap (P0.length : Int) = (P0.length : Int) := by show (P0.length : Int) % 4294967296 = _; omega
   clear h8 hp8 hs1
   go_wp2_with (at_builtin; refine wpList_app_BB (.tmp 33) (.tmp 36) HS0.out ((Below.refl _ _).alloc (Nat.le_refl _) _) hB5 (reads_one w5 72) rfl rfl (by have := HBS.out; simp; omega) rfl rfl ?_; intro v6 w6 S6; have HS6 := Lib.hid S6; clear S6 HS0)
   refine (inumber_any P0.length (by omega) _).mono ?_
   rintro e w7 ⟨v7, rfl, hown7, hb7⟩
   obtain ⟨A7, c7, rfl, hr7⟩ := own_sliceI hown7
   have HR7 := Lib.hid hr7
   have HB7 := Lib.hid hb7
   clear hown7 hr7 hb7
   go_wp2_with (first | (at_builtin; refine wpList_app_BB (.tmp 38) (.tmp 42) HS6.out HB7.out hB5 HR7.out rfl rfl (by have := HBS.out; have := HCN.out; simp; omega) rfl rfl ?_; intro v8 w8 S8; have HS8 := Lib.hid S8; have HR8 := Lib.hid (S8.reads HR5.out HNE.out); clear S8 HS6 HR7) | (at_builtin; refine wpList_app_BB (.tmp 44) (.tmp 45) HS8.out (Below.refl _ _) hB5 HR8.out rfl rfl (by have := HBS.out; have := HCN.out; simp; omega) rfl rfl ?_; intro v9 w9 S9; have HS9 := Lib.hid S9; have HR9 := Lib.hid (S9.reads HR5.out HNE.out); clear S9 HS8 HR8) | (at_builtin; refine wpList_app_RB (.tmp 50) (.tmp 51) (RB.one w9 72) ((HR9.out.below ((Below.refl _ _).alloc (Nat.le_refl _) (.cells #[.int .u8 (72 : Int)] 5))).more (by simp)) rfl rfl (by simp; omega) rfl rfl ?_; intro v10 w10 C10 hg10; clear hg10; have HC10 := Lib.hid C10; clear C10))
   obtain ⟨A10, c10, rfl, hr10⟩ := HC10.out.reads
   have hr11 : Reads w10 w10.heap.size 1 A10 (P0.length + 1) (u8c (72 :: P0)) := by
    simp only [List.length_append, List.length_cons, List.length_nil] at hr10
    rw [Nat.add_comm] at hr10
    exact hr10
   have HM := Lib.hid (HSM.out A10 c10 w10 hr11)
   have HBW := Lib.hid HC10.out.base
   have e4 : ([72] ++ P0).length = P0.length + 1 := by rw [List.length_append]; simp; omega
   rw [e4]
   clear hr10 hr11 HC10 HSM e4
   refine HM.out.mono ?_
   rintro e w11 ⟨rfl, rfl⟩
   have HS11 := Lib.hid (HS9.out.below HBW.out)
   clear HS9 HM HBW
   go_wp2_with fail
   refine (HP4.out _ (sumN (72 :: P0)) hs2).mono ?_
   rintro e w12 ⟨v12, rfl, hown12, hb12⟩
   obtain ⟨A12, c12, rfl, hr12⟩ := own_sliceI hown12
   have HR12 := Lib.hid hr12
   have HB12 := Lib.hid hb12
   clear hown12 hr12 hb12
   go_wp2_with (at_builtin; refine wpList_app_BB (.tmp 47) (.tmp 54) HS11.out HB12.out hB5 HR12.out rfl rfl (by have := HBS.out; have := HCN.out; simp [four4_len]; omega) rfl rfl ?_; intro v13 w13 S13; have HS13 := Lib.hid S13; clear S13 HS11 HR12)
   have HFB13 := Lib.hid (HS13.out.blk HFB5.out (own_blkI HC5.out.own HFB5.out (by decide)))
   obtain ⟨v14, hv14, HC14⟩ := HC5.out.bytes HS13.out
   injection hv14 with hv14
   subst hv14
   have hsec : [] ++ [72] ++ cnt7 P0.length ++ P0 ++ four4 (sumN (72 :: P0)) = secI 72 P0 := by unfold secI; simp
   rw [hsec, ← HNX.out] at HC14
   have HC15 := Lib.hid HC14
   clear HC14 HS13 HC5 HFB5 hsec
   go_roundw
   case rel => exact ⟨0 + 1, by go_num, by omega, by rw [HPS.out]; exact HC15.out, HFB13.out⟩
   case measure => simp [intOf]
  ·have hcf := HFB.out.cell 1
   have HBS := Lib.hid (show ([secI 72 P0, secI 79 P1, secI 82 P2, secI 90 P3].take 1).flatten.length ≤ 8000000 by
    have h1 := cnt7_len_le (show P0.length < 4294967296 by omega)
    have h2 := cnt7_len_le (show P1.length < 4294967296 by omega)
    have h3 := cnt7_len_le (show P2.length < 4294967296 by omega)
    have h4 := cnt7_len_le (show P3.length < 4294967296 by rw [HP3.out]; simp)
    have h5 : P3.length = 0 := by rw [HP3.out]; rfl
    simp [secI_len] <;> omega)
   have HNX := Lib.hid (show [69, 70, 73, 71, 2] ++ ([secI 72 P0, secI 79 P1, secI 82 P2, secI 90 P3].take (1 + 1)).flatten = ([69, 70, 73, 71, 2] ++ ([secI 72 P0, secI 79 P1, secI 82 P2, secI 90 P3].take 1).flatten) ++ secI 79 P1 by simp)
   have hpl : P1.length ≤ 6291456 := by omega
   have hp8 : ∀ x ∈ P1, x < 256 := HPO.out.2.1
   have HG := Lib.hid (HOB.out _ HCR.out.base)
   generalize ([secI 72 P0, secI 79 P1, secI 82 P2, secI 90 P3].take 1).flatten = pre at *
   generalize hpost : ([secI 72 P0, secI 79 P1, secI 82 P2, secI 90 P3].take (1 + 1)).flatten = post at *
   have HPS := Lib.hid hpost
   clear hpost
   clear HHD HOB HRT HZR HPO HE
   simp only [List.getD_eq_getElem?_getD, List.getElem?_toArray, List.getElem?_cons_zero, List.getElem?_cons_succ, Option.getD_some] at hcf
   go_wp2_with fail
   refine HG.out.mono ?_
   rintro e w5 ⟨v5, rfl, hown5, hb5⟩
   have HFB5 := Lib.hid (HFB.out.below hb5 HFB.out.lt)
   obtain ⟨A5, c5, rfl, hr5⟩ := own_sliceI hown5
   have HNE := Lib.hid (HCR.out.apart hown5 A5 c5 rfl)
   have HC5 := Lib.hid (HCR.out.below hb5)
   have HS0 := Lib.hid (BytesB.refl HC5.out.own)
   have HR5 := Lib.hid hr5
   have hB5 : B9 ≤ w5.heap.size := HC5.out.top
   clear hown5 hb5 hr5 HG hcf HCR HFB
   have HCN := Lib.hid (cnt7_len_le (show P1.length < 4294967296 by omega))
   have h8 : ∀ x ∈ 79 :: P1, x < 256 := fun x hx => by rcases List.mem_cons.1 hx with rfl | hx; decide; exact hp8 x hx
   obtain ⟨hs1, hs2⟩ := sumN_eq h8
   have HSM := Lib.hid (fun (A' : Option Addr) (c' : Nat) (w' : World) (hr' : Reads w' w'.heap.size 1 A' (P1.length + 1) (u8c (79 :: P1))) => sum_any A' (P1.length + 1) c' w'.heap.size (79 :: P1) w' (by omega) hr' h8)
   rw [hs1] at HSM
   have hwn : IntKind.u32.wrap (P1.length : Int) = (P1.length : Int) := by show (P1.length : Int) % 4294967296 = _; omega
   clear h8 hp8 hs1
   go_wp2_with (at_builtin; refine wpList_app_BB (.tmp 33) (.tmp 36) HS0.out ((Below.refl _ _).alloc (Nat.le_refl _) _) hB5 (reads_one w5 79) rfl rfl (by have := HBS.out; simp; omega) rfl rfl ?_; intro v6 w6 S6; have HS6 := Lib.hid S6; clear S6 HS0)
   refine (inumber_any P1.length (by omega) _).mono ?_
   rintro e w7 ⟨v7, rfl, hown7, hb7⟩
   obtain ⟨A7, c7, rfl, hr7⟩ := own_sliceI hown7
   have HR7 := Lib.hid hr7
   have HB7 := Lib.hid hb7
   clear hown7 hr7 hb7
   go_wp2_with (first | (at_builtin; refine wpList_app_BB (.tmp 38) (.tmp 42) HS6.out HB7.out hB5 HR7.out rfl rfl (by have := HBS.out; have := HCN.out; simp; omega) rfl rfl ?_; intro v8 w8 S8; have HS8 := Lib.hid S8; have HR8 := Lib.hid (S8.reads HR5.out HNE.out); clear S8 HS6 HR7) | (at_builtin; refine wpList_app_BB (.tmp 44) (.tmp 45) HS8.out (Below.refl _ _) hB5 HR8.out rfl rfl (by have := HBS.out; have := HCN.out; simp; omega) rfl rfl ?_; intro v9 w9 S9; have HS9 := Lib.hid S9; have HR9 := Lib.hid (S9.reads HR5.out HNE.out); clear S9 HS8 HR8) | (at_builtin; refine wpList_app_RB (.tmp 50) (.tmp 51) (RB.one w9 79) ((HR9.out.below ((Below.refl _ _).alloc (Nat.le_refl _) (.cells #[.int .u8 (79 : Int)] 5))).more (by simp)) rfl rfl (by simp; omega) rfl rfl ?_; intro v10 w10 C10 hg10; clear hg10; have HC10 := Lib.hid C10; clear C10))
   obtain ⟨A10, c10, rfl, hr10⟩ := HC10.out.reads
   have hr11 : Reads w10 w10.heap.size 1 A10 (P1.length + 1) (u8c (79 :: P1)) := by
    simp only [List.length_append, List.length_cons, List.length_nil] at hr10
    rw [Nat.add_comm] at hr10
    exact hr10
   have HM := Lib.hid (HSM.out A10 c10 w10 hr11)
   have HBW := Lib.hid HC10.out.base
   have e4 : ([79] ++ P1).length = P1.length + 1 := by rw [List.length_append]; simp; omega
   rw [e4]
   clear hr10 hr11 HC10 HSM e4
   refine HM.out.mono ?_
   rintro e w11 ⟨rfl, rfl⟩
   have HS11 := Lib.hid (HS9.out.below HBW.out)
   clear HS9 HM HBW
   go_wp2_with fail
   refine (HP4.out _ (sumN (79 :: P1)) hs2).mono ?_
   rintro e w12 ⟨v12, rfl, hown12, hb12⟩
   obtain ⟨A12, c12, rfl, hr12⟩ := own_sliceI hown12
   have HR12 := Lib.hid hr12
   have HB12 := Lib.hid hb12
   clear hown12 hr12 hb12
   go_wp2_with (at_builtin; refine wpList_app_BB (.tmp 47) (.tmp 54) HS11.out HB12.out hB5 HR12.out rfl rfl (by have := HBS.out; have := HCN.out; simp [four4_len]; omega) rfl rfl ?_; intro v13 w13 S13; have HS13 := Lib.hid S13; clear S13 HS11 HR12)
   have HFB13 := Lib.hid (HS13.out.blk HFB5.out (own_blkI HC5.out.own HFB5.out (by decide)))
   obtain ⟨v14, hv14, HC14⟩ := HC5.out.bytes HS13.out
   injection hv14 with hv14
   subst hv14
   have hsec : [] ++ [79] ++ cnt7 P1.length ++ P1 ++ four4 (sumN (79 :: P1)) = secI 79 P1 := by unfold secI; simp
   rw [hsec, ← HNX.out] at HC14
   have HC15 := Lib.hid HC14
   clear HC14 HS13 HC5 HFB5 hsec
   go_roundw
   case rel => exact ⟨1 + 1, by go_num, by omega, by rw [HPS.out]; exact HC15.out, HFB13.out⟩
   case measure => simp [intOf]
  ·have hcf := HFB.out.cell 2
   have HBS := Lib.hid (show ([secI 72 P0, secI 79 P1, secI 82 P2, secI 90 P3].take 2).flatten.length ≤ 8000000 by
    have h1 := cnt7_len_le (show P0.length < 4294967296 by omega)
    have h2 := cnt7_len_le (show P1.length < 4294967296 by omega)
    have h3 := cnt7_len_le (show P2.length < 4294967296 by omega)
    have h4 := cnt7_len_le (show P3.length < 4294967296 by rw [HP3.out]; simp)
    have h5 : P3.length = 0 := by rw [HP3.out]; rfl
    simp [secI_len] <;> omega)
   have HNX := Lib.hid (show [69, 70, 73, 71, 2] ++ ([secI 72 P0, secI 79 P1, secI 82 P2, secI 90 P3].take (2 + 1)).flatten = ([69, 70, 73, 71, 2] ++ ([secI 72 P0, secI 79 P1, secI 82 P2, secI 90 P3].take 2).flatten) ++ secI 82 P2 by simp)
   have hpl : P2.length ≤ 6291456 := by omega
   have hp8 : ∀ x ∈ P2, x < 256 := HPO.out.2.2
   have HG := Lib.hid (HRT.out _ HCR.out.base)
   generalize ([secI 72 P0, secI 79 P1, secI 82 P2, secI 90 P3].take 2).flatten = pre at *
   generalize hpost : ([secI 72 P0, secI 79 P1, secI 82 P2, secI 90 P3].take (2 + 1)).flatten = post at *
   have HPS := Lib.hid hpost
   clear hpost
   clear HHD HOB HRT HZR HPO HE
   simp only [List.getD_eq_getElem?_getD, List.getElem?_toArray, List.getElem?_cons_zero, List.getElem?_cons_succ, Option.getD_some] at hcf
   go_wp2_with fail
   refine HG.out.mono ?_
   rintro e w5 ⟨v5, rfl, hown5, hb5⟩
   have HFB5 := Lib.hid (HFB.out.below hb5 HFB.out.lt)
   obtain ⟨A5, c5, rfl, hr5⟩ := own_sliceI hown5
   have HNE := Lib.hid (HCR.out.apart hown5 A5 c5 rfl)
   have HC5 := Lib.hid (HCR.out.below hb5)
   have HS0 := Lib.hid (BytesB.refl HC5.out.own)
   have HR5 := Lib.hid hr5
   have hB5 : B9 ≤ w5.heap.size := HC5.out.top
   clear hown5 hb5 hr5 HG hcf HCR HFB
   have HCN := Lib.hid (cnt7_len_le (show P2.length < 4294967296 by omega))
   have h8 : ∀ x ∈ 82 :: P2, x < 256 := fun x hx => by rcases List.mem_cons.1 hx with rfl | hx; decide; exact hp8 x hx
   obtain ⟨hs1, hs2⟩ := sumN_eq h8
   have HSM := Lib.hid (fun (A' : Option Addr) (c' : Nat) (w' : World) (hr' : Reads w' w'.heap.size 1 A' (P2.length + 1) (u8c (82 :: P2))) => sum_any A' (P2.length + 1) c' w'.heap.size (82 :: P2) w' (by omega) hr' h8)
   rw [hs1] at HSM
   have hwn : IntKind.u32.wrap (P2.length : Int) = (P2.length : Int) := by show (P2.length : Int) % 4294967296 = _; omega
   clear h8 hp8 hs1
   go_wp2_with (at_builtin; refine wpList_app_BB (.tmp 33) (.tmp 36) HS0.out ((Below.refl _ _).alloc (Nat.le_refl _) _) hB5 (reads_one w5 82) rfl rfl (by have := HBS.out; simp; omega) rfl rfl ?_; intro v6 w6 S6; have HS6 := Lib.hid S6; clear S6 HS0)
   refine (inumber_any P2.length (by omega) _).mono ?_
   rintro e w7 ⟨v7, rfl, hown7, hb7⟩
   obtain ⟨A7, c7, rfl, hr7⟩ := own_sliceI hown7
   have HR7 := Lib.hid hr7
   have HB7 := Lib.hid hb7
   clear hown7 hr7 hb7
   go_wp2_with (first | (at_builtin; refine wpList_app_BB (.tmp 38) (.tmp 42) HS6.out HB7.out hB5 HR7.out rfl rfl (by have := HBS.out; have := HCN.out; simp; omega) rfl rfl ?_; intro v8 w8 S8; have HS8 := Lib.hid S8; have HR8 := Lib.hid (S8.reads HR5.out HNE.out); clear S8 HS6 HR7) | (at_builtin; refine wpList_app_BB (.tmp 44) (.tmp 45) HS8.out (Below.refl _ _) hB5 HR8.out rfl rfl (by have := HBS.out; have := HCN.out; simp; omega) rfl rfl ?_; intro v9 w9 S9; have HS9 := Lib.hid S9; have HR9 := Lib.hid (S9.reads HR5.out HNE.out); clear S9 HS8 HR8) | (at_builtin; refine wpList_app_RB (.tmp 50) (.tmp 51) (RB.one w9 82) ((HR9.out.below ((Below.refl _ _).alloc (Nat.le_refl _) (.cells #[.int .u8 (82 : Int)] 5))).more (by simp)) rfl rfl (by simp; omega) rfl rfl ?_; intro v10 w10 C10 hg10; clear hg10; have HC10 := Lib.hid C10; clear C10))
   obtain ⟨A10, c10, rfl, hr10⟩ := HC10.out.reads
   have hr11 : Reads w10 w10.heap.size 1 A10 (P2.length + 1) (u8c (82 :: P2)) := by
    simp only [List.length_append, List.length_cons, List.length_nil] at hr10
    rw [Nat.add_comm] at hr10
    exact hr10
   have HM := Lib.hid (HSM.out A10 c10 w10 hr11)
   have HBW := Lib.hid HC10.out.base
   have e4 : ([82] ++ P2).length = P2.length + 1 := by rw [List.length_append]; simp; omega
   rw [e4]
   clear hr10 hr11 HC10 HSM e4
   refine HM.out.mono ?_
   rintro e w11 ⟨rfl, rfl⟩
   have HS11 := Lib.hid (HS9.out.below HBW.out)
   clear HS9 HM HBW
   go_wp2_with fail
   refine (HP4.out _ (sumN (82 :: P2)) hs2).mono ?_
   rintro e w12 ⟨v12, rfl, hown12, hb12⟩
   obtain ⟨A12, c12, rfl, hr12⟩ := own_sliceI hown12
   have HR12 := Lib.hid hr12
   have HB12 := Lib.hid hb12
   clear hown12 hr12 hb12
   go_wp2_with (at_builtin; refine wpList_app_BB (.tmp 47) (.tmp 54) HS11.out HB12.out hB5 HR12.out rfl rfl (by have := HBS.out; have := HCN.out; simp [four4_len]; omega) rfl rfl ?_; intro v13 w13 S13; have HS13 := Lib.hid S13; clear S13 HS11 HR12)
   have HFB13 := Lib.hid (HS13.out.blk HFB5.out (own_blkI HC5.out.own HFB5.out (by decide)))
   obtain ⟨v14, hv14, HC14⟩ := HC5.out.bytes HS13.out
   injection hv14 with hv14
   subst hv14
   have hsec : [] ++ [82] ++ cnt7 P2.length ++ P2 ++ four4 (sumN (82 :: P2)) = secI 82 P2 := by unfold secI; simp
   rw [hsec, ← HNX.out] at HC14
   have HC15 := Lib.hid HC14
   clear HC14 HS13 HC5 HFB5 hsec
   go_roundw
   case rel => exact ⟨2 + 1, by go_num, by omega, by rw [HPS.out]; exact HC15.out, HFB13.out⟩
   case measure => simp [intOf]
  ·have hcf := HFB.out.cell 3
   have HBS := Lib.hid (show ([secI 72 P0, secI 79 P1, secI 82 P2, secI 90 P3].take 3).flatten.length ≤ 8000000 by
    have h1 := cnt7_len_le (show P0.length < 4294967296 by omega)
    have h2 := cnt7_len_le (show P1.length < 4294967296 by omega)
    have h3 := cnt7_len_le (show P2.length < 4294967296 by omega)
    have h4 := cnt7_len_le (show P3.length < 4294967296 by rw [HP3.out]; simp)
    have h5 : P3.length = 0 := by rw [HP3.out]; rfl
    simp [secI_len] <;> omega)
   have HNX := Lib.hid (show [69, 70, 73, 71, 2] ++ ([secI 72 P0, secI 79 P1, secI 82 P2, secI 90 P3].take (3 + 1)).flatten = ([69, 70, 73, 71, 2] ++ ([secI 72 P0, secI 79 P1, secI 82 P2, secI 90 P3].take 3).flatten) ++ secI 90 P3 by simp)
   have hpl : P3.length ≤ 6291456 := by rw [HP3.out]; simp
   have hp8 : ∀ x ∈ P3, x < 256 := (fun x hx => by rw [HP3.out] at hx; cases hx)
   have HG := Lib.hid (HZR.out _ HCR.out.base)
   generalize ([secI 72 P0, secI 79 P1, secI 82 P2, secI 90 P3].take 3).flatten = pre at *
   generalize hpost : ([secI 72 P0, secI 79 P1, secI 82 P2, secI 90 P3].take (3 + 1)).flatten = post at *
   have HPS := Lib.hid hpost
   clear hpost
   clear HHD HOB HRT HZR HPO HE
   simp only [List.getD_eq_getElem?_getD, List.getElem?_toArray, List.getElem?_cons_zero, List.getElem?_cons_succ, Option.getD_some] at hcf
   go_wp2_with fail
   refine HG.out.mono ?_
   rintro e w5 ⟨v5, rfl, hown5, hb5⟩
   have HFB5 := Lib.hid (HFB.out.below hb5 HFB.out.lt)
   obtain ⟨A5, c5, rfl, hr5⟩ := own_sliceI hown5
   have HNE := Lib.hid (HCR.out.apart hown5 A5 c5 rfl)
   have HC5 := Lib.hid (HCR.out.below hb5)
   have HS0 := Lib.hid (BytesB.refl HC5.out.own)
   have HR5 := Lib.hid hr5
   have hB5 : B9 ≤ w5.heap.size := HC5.out.top
   clear hown5 hb5 hr5 HG hcf HCR HFB
   have HCN := Lib.hid (cnt7_len_le (show P3.length < 4294967296 by omega))
   have h8 : ∀ x ∈ 90 :: P3, x < 256 := fun x hx => by rcases List.mem_cons.1 hx with rfl | hx; decide; exact hp8 x hx
   obtain ⟨hs1, hs2⟩ := sumN_eq h8
   have HSM := Lib.hid (fun (A' : Option Addr) (c' : Nat) (w' : World) (hr' : Reads w' w'.heap.size 1 A' (P3.length + 1) (u8c (90 :: P3))) => sum_any A' (P3.length + 1) c' w'.heap.size (90 :: P3) w' (by omega) hr' h8)
   rw [hs1] at HSM
   have hwn : IntKind.u32.wrap (P3.length : Int) = (P3.length : Int) := by show (P3.length : Int) % 4294967296 = _; omega
   clear h8 hp8 hs1
   go_wp2_with (at_builtin; refine wpList_app_BB (.tmp 33) (.tmp 36) HS0.out ((Below.refl _ _).alloc (Nat.le_refl _) _) hB5 (reads_one w5 90) rfl rfl (by have := HBS.out; simp; omega) rfl rfl ?_; intro v6 w6 S6; have HS6 := Lib.hid S6; clear S6 HS0)
   refine (inumber_any P3.length (by omega) _).mono ?_
   rintro e w7 ⟨v7, rfl, hown7, hb7⟩
   obtain ⟨A7, c7, rfl, hr7⟩ := own_sliceI hown7
   have HR7 := Lib.hid hr7
   have HB7 := Lib.hid hb7
   clear hown7 hr7 hb7
   go_wp2_with (first | (at_builtin; refine wpList_app_BB (.tmp 38) (.tmp 42) HS6.out HB7.out hB5 HR7.out rfl rfl (by have := HBS.out; have := HCN.out; simp; omega) rfl rfl ?_; intro v8 w8 S8; have HS8 := Lib.hid S8; have HR8 := Lib.hid (S8.reads HR5.out HNE.out); clear S8 HS6 HR7) | (at_builtin; refine wpList_app_BB (.tmp 44) (.tmp 45) HS8.out (Below.refl _ _) hB5 HR8.out rfl rfl (by have := HBS.out; have := HCN.out; simp; omega) rfl rfl ?_; intro v9 w9 S9; have HS9 := Lib.hid S9; have HR9 := Lib.hid (S9.reads HR5.out HNE.out); clear S9 HS8 HR8) | (at_builtin; refine wpList_app_RB (.tmp 50) (.tmp 51) (RB.one w9 90) ((HR9.out.below ((Below.refl _ _).alloc (Nat.le_refl _) (.cells #[.int .u8 (90 : Int)] 5))).more (by simp)) rfl rfl (by simp; omega) rfl rfl ?_; intro v10 w10 C10 hg10; clear hg10; have HC10 := Lib.hid C10; clear C10))
   obtain ⟨A10, c10, rfl, hr10⟩ := HC10.out.reads
   have hr11 : Reads w10 w10.heap.size 1 A10 (P3.length + 1) (u8c (90 :: P3)) := by
    simp only [List.length_append, List.length_cons, List.length_nil] at hr10
    rw [Nat.add_comm] at hr10
    exact hr10
   have HM := Lib.hid (HSM.out A10 c10 w10 hr11)
   have HBW := Lib.hid HC10.out.base
   have e4 : ([90] ++ P3).length = P3.length + 1 := by rw [List.length_append]; simp; omega
   rw [e4]
   clear hr10 hr11 HC10 HSM e4
   refine HM.out.mono ?_
   rintro e w11 ⟨rfl, rfl⟩
   have HS11 := Lib.hid (HS9.out.below HBW.out)
   clear HS9 HM HBW
   go_wp2_with fail
   refine (HP4.out _ (sumN (90 :: P3)) hs2).mono ?_
   rintro e w12 ⟨v12, rfl, hown12, hb12⟩
   obtain ⟨A12, c12, rfl, hr12⟩ := own_sliceI hown12
   have HR12 := Lib.hid hr12
   have HB12 := Lib.hid hb12
   clear hown12 hr12 hb12
   go_wp2_with (at_builtin; refine wpList_app_BB (.tmp 47) (.tmp 54) HS11.out HB12.out hB5 HR12.out rfl rfl (by have := HBS.out; have := HCN.out; simp [four4_len]; omega) rfl rfl ?_; intro v13 w13 S13; have HS13 := Lib.hid S13; clear S13 HS11 HR12)
   have HFB13 := Lib.hid (HS13.out.blk HFB5.out (own_blkI HC5.out.own HFB5.out (by decide)))
   obtain ⟨v14, hv14, HC14⟩ := HC5.out.bytes HS13.out
   injection hv14 with hv14
   subst hv14
   have hsec : [] ++ [90] ++ cnt7 P3.length ++ P3 ++ four4 (sumN (90 :: P3)) = secI 90 P3 := by unfold secI; simp
   rw [hsec, ← HNX.out] at HC14
   have HC15 := Lib.hid HC14
   clear HC14 HS13 HC5 HFB5 hsec
   go_roundw
   case rel => exact ⟨3 + 1, by go_num, by omega, by rw [HPS.out]; exact HC15.out, HFB13.out⟩
   case measure => simp [intOf]
  ·have hcw := HCR.out
   rw [show ([69, 70, 73, 71, 2] ++ ([secI 72 P0, secI 79 P1, secI 82 P2, secI 90 P3].take 4).flatten) = NI by rw [HE.out]; simp] at hcw
   have HCW := Lib.hid hcw
   clear hcw HCR
   go_wp2_with fail
   go_ret2
   exact ⟨_, rfl, own_lessI HCW.out.own (Nat.le_trans HB1.out.size hB91), below_top HB1.out HCW.out.base⟩
end
section
open Go.RowKit
attribute [local go_sem] Oper.semAt_some
theorem valsB_take_len {L rs : List Nat} (hL : L.length ≤ 1048576) (h : ∀ x ∈ rs, x < 4294967296) (k : Nat) : (valsB L (rs.take k)).length ≤ 5 * rs.length :=
 Nat.le_trans (valsB_len hL _ (fun x hx => h x (List.mem_of_mem_take hx))) (by rw [List.length_take]; omega)
theorem objsB_take1 {L : List Nat} {l : List Ob} {k : Nat} (hk : k < l.length) : objsB L (l.take (k + 1)) = objsB L (l.take k) ++ objB' L l[k] := by
 rw [List.take_add_one, List.getElem?_eq_getElem hk]
 exact objsB_snoc _ _ _
theorem objsB_take_le {L : List Nat} (hL : L.length ≤ 1048576) {l : List Ob} (K : ∀ b ∈ l, b.Ok) (k : Nat) : (objsB L (l.take k)).length ≤ 400000 * l.length :=
 Nat.le_trans (objsB_len hL _ (fun b hb => K b (List.mem_of_mem_take hb))) (by rw [List.length_take]; exact Nat.mul_le_mul_left _ (by omega))
theorem BytesB.apart {w wi : World} {B n : Nat} {v vi : Value} {bs cs : List Nat} {A : Option Addr} {xs : List Value} (h : BytesB B v bs cs w (.returned vi) wi) (hr : Reads w w.heap.size 1 A n xs) (hne : 0 < n → ∀ a, A = some a → v.ownBlock ≠ some a.block) : 0 < n → ∀ a, A = some a → vi.ownBlock ≠ some a.block := by
 intro hn a ha hk
 obtain ⟨b', hb', h0, h1, h2, h3, h4, h5, h6⟩ := h
 injection hb' with hb'
 subst hb'
 obtain ⟨a', ha', hlt, _⟩ := hr.2 hn
 rw [ha] at ha'
 injection ha' with ha'
 subst ha'
 rcases h6 _ hk with g | g
 ·exact hne hn a ha g
 ·omega
theorem RB.apart2 {w2 w6 w9 : World} {B n c : Nat} {v : Value} {bs cs : List Nat} {A : Option Addr} (C : RB w2 w6 B v bs) (D : RB w6 w9 w6.heap.size (.slice A n c) cs) : 0 < n → ∀ a, A = some a → v.ownBlock ≠ some a.block := by
 intro hn a ha hk
 have h1 := (C.own.lt _ hk).2
 have h2 := (D.own.lt a.block (by rw [ha]; rfl)).1
 omega
set_option maxRecDepth 100000 in
set_option maxHeartbeats 8000000 in
theorem rsave_any {w : World} {p : HP} {h : HM} {l : List Ob} (R : RAt w p h) (G : h.Good l) : Calls Tryz.prog 12 #[ptr p.g] w (RSavedP (h.newI l) w) := by
 have HBK := Lib.hid (rbook_any R G)
 have HR := Lib.hid (fun (w' : World) (hb : Below w.heap.size w w') => R.below hb)
 have hL := oopsL_le G
 have HLL := Lib.hid (oopsL_len l)
 have hnd := oopsL_nodup l
 have h00 := oopsL_zero l
 have hlast := G.fit.l32
 have h32r := G.fit.r32
 have hrl := G.fit.roots
 have HNB := Lib.hid (fun (w2 w' : World) (B : Nat) (v' : Value) (bs' : List Nat) (C : RB w2 w' B v' bs') (hn' : bs'.length ≤ 10000000000000) (x : Nat) (hx : x < 4294967296) => rnumber_any C.own C.top hn' x hx)
 have HE := Lib.hid (show h.newI l = [69, 70, 73, 71, 2] ++ (secI 72 (payH h l) ++ (secI 79 (objsB (oopsL l) l) ++ (secI 82 (valsB (oopsL l) h.roots) ++ secI 90 []))) from rfl)
 have HPL := Lib.hid (pay_lens G)
 have HPB := Lib.hid (pay_bytes G)
 unfold ptr at HBK ⊢
 clear R
 go_enter Tryz.func12, Tryz.ntmps12
 go_wp2_with fail
 refine HBK.out.mono ?_
 rintro e w1 ⟨mb, va, rfl, M1, hva, hmb, hb1⟩
 clear HBK
 obtain ⟨A1, c1, rfl, -⟩ := own_sliceI hva
 unfold bookV
 have e5 : (u8c [69, 70, 73, 71, 2]).toArray = #[.int .u8 69, .int .u8 70, .int .u8 73, .int .u8 71, .int .u8 2] := by simp [u8c]
 go_upto_region 2 with fail
 have BB1 := Blk.new w1 67 #[.map (some mb), .slice A1 (oopsL l).length c1]
 have hb2 : Below w1.heap.size w1 (w1.alloc (.cells #[.map (some mb), .slice A1 (oopsL l).length c1] 67)) := (Below.refl _ _).alloc (Nat.le_refl _) _
 have HST := Lib.hid (show Blk (w1.alloc (.cells #[.map (some mb), .slice A1 (oopsL l).length c1] 67)) w1.heap.size 67 #[.map (some mb), .slice A1 (oopsL l).length c1] ∧ MapU 72 (w1.alloc (.cells #[.map (some mb), .slice A1 (oopsL l).length c1] 67)) mb (oopsL l) ∧ (w1.alloc (.cells #[.map (some mb), .slice A1 (oopsL l).length c1] 67)).ownsRow w.heap.size 72 1 (.slice A1 (oopsL l).length c1) (oopsL l).length (u32s (oopsL l)) ∧ Below w.heap.size w (w1.alloc (.cells #[.map (some mb), .slice A1 (oopsL l).length c1] 67)) from
  ⟨BB1, M1.below hb2, own_sameI hva (fun k hk => hb2.block k (hva.lt k hk).2), below_top hb1 hb2⟩)
 clear BB1 hb2 M1 hva hb1
 generalize hW2 : w1.alloc (.cells #[.map (some mb), .slice A1 (oopsL l).length c1] 67) = W2 at *
 clear hW2
 generalize w1.heap.size = b3 at *
 have hc0 : RB W2 (W2.alloc (.cells (u8c [69, 70, 73, 71, 2]).toArray 5)) W2.heap.size (.slice (some ⟨W2.heap.size, 0, none⟩) 5 5) [69, 70, 73, 71, 2] := RB.new (own_new8 W2 _ 5 rfl (by decide)) ((Below.refl _ _).alloc (Nat.le_refl _) _) (Below.refl _ _)
 rw [e5] at hc0
 have HC0 := Lib.hid hc0
 clear hc0 e5
 go_upto_region 3 with fail
 generalize hW3 : W2.alloc (.cells #[.int .u8 69, .int .u8 70, .int .u8 73, .int .u8 71, .int .u8 2] 5) = W3 at *
 clear hW3
 refine wp_region_U 12 (fun w' => w'.cell? ⟨p.g, 3, none⟩ = some (.int .u32 h.last) ∧ w'.cell? ⟨b3, 1, none⟩ = some (.slice A1 (oopsL l).length c1)) (by kernel_rfl) ?_
 have HC3 := Lib.hid (HC0.out.below (w' := W3.drew) ⟨rfl, rfl, rfl, Nat.le_refl _, fun _ _ => rfl⟩)
 clear HC0
 generalize W3.drew = W3 at *
 have HSB := Lib.hid (fun (w' : World) (hb : Below W2.heap.size W2 w') => show w'.cell? ⟨p.g, 3, none⟩ = some (.int .u32 h.last) ∧ w'.cell? ⟨b3, 1, none⟩ = some (.slice A1 (oopsL l).length c1) from
  ⟨(HR.out _ (below_top HST.out.2.2.2 hb)).c3, (HST.out.1.below hb HST.out.1.lt).cell 1⟩)
 have hS := HSB.out _ HC3.out.base
 have hwl : IntKind.u32.wrap ((oopsL l).length : Int) = ((oopsL l).length : Int) := by show ((oopsL l).length : Int) % 4294967296 = _; omega
 refine U_read 0 (v := (.slice (some ⟨W2.heap.size, 0, none⟩) 5 5)) rfl (by kernel_rfl) (fun _ _ _ h => h) hS (by rfl) (fun w' hw' => by obtain ⟨h0, h1⟩ := hw'; go_simp) ?_
 try simp only [Act.put, List.setIfInBounds_toArray, List.set_cons_zero, List.set_cons_succ]
 refine U_read 1 (v := (.pointer (some ⟨p.g, 0, none⟩))) rfl (by kernel_rfl) (fun _ _ _ h => h) hS (by rfl) (fun w' hw' => by obtain ⟨h0, h1⟩ := hw'; go_simp) ?_
 try simp only [Act.put, List.setIfInBounds_toArray, List.set_cons_zero, List.set_cons_succ]
 refine U_read 2 (v := (.pointer (some ⟨p.g, 0, none⟩))) rfl (by kernel_rfl) (fun _ _ _ h => h) hS (by rfl) (fun w' hw' => by obtain ⟨h0, h1⟩ := hw'; go_simp) ?_
 try simp only [Act.put, List.setIfInBounds_toArray, List.set_cons_zero, List.set_cons_succ]
 refine U_read 3 (v := (.pointer (some ⟨p.g, 3, none⟩))) rfl (by kernel_rfl) (fun _ _ _ h => h) hS (by rfl) (fun w' hw' => by obtain ⟨h0, h1⟩ := hw'; go_simp) ?_
 try simp only [Act.put, List.setIfInBounds_toArray, List.set_cons_zero, List.set_cons_succ]
 refine U_read 4 (v := (.int .u32 (h.last : Int))) rfl (by kernel_rfl) (fun _ _ _ h => h) hS (by rfl) (fun w' hw' => by obtain ⟨h0, h1⟩ := hw'; go_simp) ?_
 try simp only [Act.put, List.setIfInBounds_toArray, List.set_cons_zero, List.set_cons_succ]
 refine U_read 6 (v := (.pointer (some ⟨b3, 1, none⟩))) rfl (by kernel_rfl) (fun _ _ _ h => h) hS (by rfl) (fun w' hw' => by obtain ⟨h0, h1⟩ := hw'; go_simp) ?_
 try simp only [Act.put, List.setIfInBounds_toArray, List.set_cons_zero, List.set_cons_succ]
 refine U_read 7 (v := (.slice A1 (oopsL l).length c1)) rfl (by kernel_rfl) (fun _ _ _ h => h) hS (by rfl) (fun w' hw' => by obtain ⟨h0, h1⟩ := hw'; go_simp) ?_
 try simp only [Act.put, List.setIfInBounds_toArray, List.set_cons_zero, List.set_cons_succ]
 refine U_read 8 (v := (.int .i64 ((oopsL l).length : Int))) rfl (by kernel_rfl) (fun _ _ _ h => h) hS (by rfl) (fun w' hw' => by obtain ⟨h0, h1⟩ := hw'; go_simp) ?_
 try simp only [Act.put, List.setIfInBounds_toArray, List.set_cons_zero, List.set_cons_succ]
 refine U_read 9 (v := (.int .u32 ((oopsL l).length : Int))) rfl (by kernel_rfl) (fun _ _ _ h => h) hS (by rfl) (fun w' hw' => by obtain ⟨h0, h1⟩ := hw'; go_simp) ?_
 try simp only [Act.put, List.setIfInBounds_toArray, List.set_cons_zero, List.set_cons_succ]
 refine U_one 5 (by kernel_rfl) rfl rfl (fun K hK => ?_)
 go_simp
 have HN0 := Lib.hid (RB.nil (w2 := W3) (Below.refl W3.heap.size W3) (Nat.le_refl _) (Nat.le_refl _))
 refine (HNB.out W3 W3 W3.heap.size (.slice none 0 0) [] HN0.out (by simp) h.last hlast).mono ?_
 rintro e w4 hB4
 obtain ⟨v4, rfl, C4⟩ := HN0.out.bytes hB4
 have HC4 := Lib.hid C4
 clear hB4 C4 HN0
 have hS4 := HSB.out _ (below_top HC3.out.base HC4.out.base)
 refine hK _ _ (fun _ => hS4) ?_
 clear hK K
 try simp only [Act.put, List.setIfInBounds_toArray, List.set_cons_zero, List.set_cons_succ]
 refine U_one 10 (by kernel_rfl) rfl rfl (fun K hK => ?_)
 go_simp
 refine (HNB.out W3 w4 W3.heap.size v4 ([] ++ cnt7 h.last) HC4.out (by have := cnt7_len_le hlast; simp; omega) (oopsL l).length (by omega)).mono ?_
 rintro e w5 hB5
 obtain ⟨v5, rfl, C5⟩ := HC4.out.bytes hB5
 have hpe : [] ++ cnt7 h.last ++ cnt7 (oopsL l).length = payH h l := by rw [HLL.out]; rfl
 rw [hpe] at C5
 have HC5 := Lib.hid C5
 clear hB5 C5 HC4 hS4
 have hS5 := HSB.out _ (below_top HC3.out.base HC5.out.base)
 refine hK _ _ (fun _ => hS5) ?_
 clear hK K
 try simp only [Act.put, List.setIfInBounds_toArray, List.set_cons_zero, List.set_cons_succ]
 obtain ⟨A5, c5, rfl, hr5⟩ := HC5.out.reads
 have HB3 := Lib.hid (HC3.out.below HC5.out.base)
 have hpl0 := HPL.out.1
 have hne5 : 0 < (payH h l).length → ∀ a, A5 = some a → (Value.slice (some ⟨W2.heap.size, 0, none⟩) 5 5).ownBlock ≠ some a.block := fun hn a ha hk => by
  have h1 := (HC3.out.own.lt _ hk).2
  have h2 := (HC5.out.own.lt a.block (by rw [ha]; rfl)).1
  omega
 refine U_one 11 (by kernel_rfl) rfl rfl (fun K hK => ?_)
 go_simp
 refine (rsection_any (B := W2.heap.size) (v := .slice (some ⟨W2.heap.size, 0, none⟩) 5 5) (bs := [69, 70, 73, 71, 2]) HB3.out.own HB3.out.top (by simp) 72 (by decide) hr5 (by omega) HPB.out.1 hne5).mono ?_
 rintro e w6 hB6
 obtain ⟨v6, rfl, C6⟩ := HB3.out.bytes hB6
 have HC6 := Lib.hid C6
 clear hB6 C6 HC5 hr5 hne5 HC3 HB3 hS5
 have hS6 := HSB.out _ HC6.out.base
 refine hK _ _ (fun _ => hS6) ?_
 clear hK K
 try simp only [Act.put, List.setIfInBounds_toArray, List.set_cons_zero, List.set_cons_succ]
 refine U_one 12 (by kernel_rfl) rfl rfl (fun K hK => ?_)
 go_simp
 refine hK _ _ (fun h => absurd h (by decide)) ?_
 clear hK K
 try simp only [Act.put, List.setIfInBounds_toArray, List.set_cons_zero, List.set_cons_succ]
 refine U_done (by kernel_rfl) ?_ _
 simp only [Calm, Exit.then]
 clear hS hS6 hpe hpl0
 have HMP := Lib.hid (fun (w' : World) (hb : Below W2.heap.size W2 w') => show RAt w' p h ∧ MapU 72 w' mb (oopsL l) ∧ Blk w' b3 67 #[.map (some mb), .slice A1 (oopsL l).length c1] ∧ w'.ownsRow w.heap.size 72 1 (.slice A1 (oopsL l).length c1) (oopsL l).length (u32s (oopsL l)) from
  ⟨HR.out _ (below_top HST.out.2.2.2 hb), HST.out.2.1.below hb, HST.out.1.below hb HST.out.1.lt, own_sameI HST.out.2.2.1 (fun k hk => hb.block k (HST.out.2.2.1.lt k hk).2)⟩)
 have HB2 := Lib.hid HST.out.2.2.2
 clear HST HSB HR
 generalize hpre : [69, 70, 73, 71, 2] ++ secI 72 (payH h l) = pre6 at *
 have HPRE := Lib.hid hpre
 clear hpre
 go_wp2_with fail
 have hlen1 : l.length ≤ 1048576 := by have := HLL.out; omega
 go_loopw [5, 7] (fun b i wr => ∃ k : Nat, i = .int .i64 k ∧ k ≤ l.length ∧ RB w6 wr w6.heap.size b (objsB (oopsL l) (l.take k))) (fun _ i _ => l.length - (intOf i).toNat)
 case atStart => exact ⟨0, rfl, Nat.zero_le _, by simpa [objsB] using RB.nil (Below.refl w6.heap.size w6) (Nat.le_refl _) (Nat.le_refl _)⟩
 case round =>
  obtain ⟨k, rfl, hk, hC⟩ := hrel
  have HC := Lib.hid hC
  have hbW := below_top HC6.out.base hC.base
  obtain ⟨r1, r2, r3, r4⟩ := HMP.out _ hbW
  have HBW := Lib.hid hbW
  clear hC hbW
  by_cases hkn : k < l.length
  ·have hkL : k < (oopsL l).length := by rw [HLL.out]; exact hkn
   have hkLi : (k : Int) < ((oopsL l).length : Int) := by omega
   have hd : decide ((k : Int) < ((oopsL l).length : Int)) = true := by simp; omega
   have q1 := r3.cell 1
   go_upto_region 8 with fail
   obtain ⟨ga, c', hva', hrow, -, -⟩ := Row.of_any r4 (by omega)
   injection hva' with e1 e2 e3
   subst e1
   have HRW := Lib.hid hrow
   clear r1 r2 r4 q1 hrow e2 e3
   have HBX := Lib.hid r3
   clear r3
   refine wp_region_U 9 (fun w' => w'.cell? ⟨b3, 0, none⟩ = some (.map (some mb)) ∧ w'.cell? ⟨b3, 1, none⟩ = some (.slice (some ⟨ga, 0, none⟩) (oopsL l).length c1) ∧ w'.cell? ⟨ga, k, none⟩ = some (.int .u32 (2 * posOf (l.take k) : Nat))) (by kernel_rfl) ?_
   have HC7 := Lib.hid (HC.out.below (w' := wr.drew) ⟨rfl, rfl, rfl, Nat.le_refl _, fun _ _ => rfl⟩)
   have hgk : (oopsL l).getD k 0 = 2 * posOf (l.take k) := oopsL_getD hkn
   have hS : wr.drew.cell? ⟨b3, 0, none⟩ = some (.map (some mb)) ∧ wr.drew.cell? ⟨b3, 1, none⟩ = some (.slice (some ⟨ga, 0, none⟩) (oopsL l).length c1) ∧ wr.drew.cell? ⟨ga, k, none⟩ = some (.int .u32 (2 * posOf (l.take k) : Nat)) :=
    ⟨HBX.out.cell 0, HBX.out.cell 1, by rw [← hgk]; exact HRW.out.cell (u32s_get hkL)⟩
   have HBW7 := Lib.hid (below_top HC6.out.base HC7.out.base)
   clear HC HRW HBX hgk HBW
   generalize wr.drew = W7 at *
   refine U_read 0 (v := (.agg #[.map (some mb), .slice (some ⟨ga, 0, none⟩) (oopsL l).length c1])) rfl (by kernel_rfl) (fun _ _ _ h => h) hS (by rfl) (fun w' hw' => by obtain ⟨h0, h1, h2⟩ := hw'; go_simp) ?_
   try simp only [Act.put, List.setIfInBounds_toArray, List.set_cons_zero, List.set_cons_succ]
   refine U_read 1 (v := u5) rfl (by kernel_rfl) (fun _ _ _ h => h) hS (by rfl) (fun w' hw' => by obtain ⟨h0, h1, h2⟩ := hw'; go_simp) ?_
   try simp only [Act.put, List.setIfInBounds_toArray, List.set_cons_zero, List.set_cons_succ]
   refine U_read 2 (v := (.pointer (some ⟨p.g, 0, none⟩))) rfl (by kernel_rfl) (fun _ _ _ h => h) hS (by rfl) (fun w' hw' => by obtain ⟨h0, h1, h2⟩ := hw'; go_simp) ?_
   try simp only [Act.put, List.setIfInBounds_toArray, List.set_cons_zero, List.set_cons_succ]
   refine U_read 3 (v := (.pointer (some ⟨b3, 1, none⟩))) rfl (by kernel_rfl) (fun _ _ _ h => h) hS (by rfl) (fun w' hw' => by obtain ⟨h0, h1, h2⟩ := hw'; go_simp) ?_
   try simp only [Act.put, List.setIfInBounds_toArray, List.set_cons_zero, List.set_cons_succ]
   refine U_read 4 (v := (.slice (some ⟨ga, 0, none⟩) (oopsL l).length c1)) rfl (by kernel_rfl) (fun _ _ _ h => h) hS (by rfl) (fun w' hw' => by obtain ⟨h0, h1, h2⟩ := hw'; go_simp) ?_
   try simp only [Act.put, List.setIfInBounds_toArray, List.set_cons_zero, List.set_cons_succ]
   refine U_read 5 (v := (.int .i64 (k : Int))) rfl (by kernel_rfl) (fun _ _ _ h => h) hS (by rfl) (fun w' hw' => by obtain ⟨h0, h1, h2⟩ := hw'; go_simp) ?_
   try simp only [Act.put, List.setIfInBounds_toArray, List.set_cons_zero, List.set_cons_succ]
   refine U_read 6 (v := (.pointer (some ⟨ga, k, none⟩))) rfl (by kernel_rfl) (fun _ _ _ h => h) hS (by rfl) (fun w' hw' => by obtain ⟨h0, h1, h2⟩ := hw'; go_simp) ?_
   try simp only [Act.put, List.setIfInBounds_toArray, List.set_cons_zero, List.set_cons_succ]
   refine U_read 7 (v := (.int .u32 (2 * posOf (l.take k) : Nat))) rfl (by kernel_rfl) (fun _ _ _ h => h) hS (by rfl) (fun w' hw' => by obtain ⟨h0, h1, h2⟩ := hw'; go_simp) ?_
   try simp only [Act.put, List.setIfInBounds_toArray, List.set_cons_zero, List.set_cons_succ]
   have HOBJ := Lib.hid (objsB_take1 (L := oopsL l) hkn)
   have hol := objsB_take_le hL G.laid.ok k
   have hwm := HMP.out _ HC6.out.base
   refine U_one 8 (by kernel_rfl) rfl rfl (fun K hK => ?_)
   go_simp
   refine (robject_any (va := .slice (some ⟨ga, 0, none⟩) (oopsL l).length c1) hwm.1 G hwm.2.1 HC7.out (by omega) k hkn).mono ?_
   rintro e w8 ⟨v8, rfl, C8⟩
   obtain ⟨s1, s2, s3, s4⟩ := HMP.out _ (below_top HC6.out.base C8.base)
   obtain ⟨ga', c'', hva', hrow, -, -⟩ := Row.of_any s4 (by omega)
   injection hva' with e1 e2 e3
   injection e1 with e1
   injection e1 with e1
   subst e1
   have hS8 : w8.cell? ⟨b3, 0, none⟩ = some (.map (some mb)) ∧ w8.cell? ⟨b3, 1, none⟩ = some (.slice (some ⟨ga, 0, none⟩) (oopsL l).length c1) ∧ w8.cell? ⟨ga, k, none⟩ = some (.int .u32 (2 * posOf (l.take k) : Nat)) :=
    ⟨s3.cell 0, s3.cell 1, by rw [← oopsL_getD hkn]; exact hrow.cell (u32s_get hkL)⟩
   rw [← HOBJ.out] at C8
   have HC8 := Lib.hid C8
   clear C8 HC7 s1 s2 s3 s4 hrow e2 e3 hol hwm
   refine hK _ _ (fun _ => hS8) ?_
   clear hK K
   try simp only [Act.put, List.setIfInBounds_toArray, List.set_cons_zero, List.set_cons_succ]
   refine U_one 9 (by kernel_rfl) rfl rfl (fun K hK => ?_)
   go_simp
   refine hK _ _ (fun h => absurd h (by decide)) ?_
   clear hK K
   try simp only [Act.put, List.setIfInBounds_toArray, List.set_cons_zero, List.set_cons_succ]
   refine U_done (by kernel_rfl) ?_ _
   simp only [Calm, Exit.then]
   clear hS hS8
   go_wp2_with fail
   go_roundw
   case rel => exact ⟨k + 1, by go_num, by omega, HC8.out⟩
   case measure => simp [intOf]; omega
  ·obtain rfl : k = l.length := by omega
   have hkLi : ¬ (l.length : Int) < ((oopsL l).length : Int) := by rw [HLL.out]; omega
   have hd : decide ((l.length : Int) < ((oopsL l).length : Int)) = false := by simpa using hkLi
   have q1 := r3.cell 1
   have hC := HC.out
   rw [List.take_length] at hC
   have HC7 := Lib.hid hC
   obtain ⟨W9, hW9⟩ : ∃ W, W = wr := ⟨_, rfl⟩
   subst hW9
   obtain ⟨A8, c8, hA8, hr8⟩ := hC.reads
   subst hA8
   have HR8 := Lib.hid hr8
   have HB9 := Lib.hid (HC6.out.below hC.base)
   clear hC HC r1 r2 r4 hk hr8
   have HVT := Lib.hid (fun k => valsB_take_len hL h32r k)
   go_wp2_with fail
   go_loopw [6, 8] (fun b i wr => ∃ k : Nat, i = .int .i64 k ∧ k ≤ h.roots.length ∧ RB W9 wr W9.heap.size b (valsB (oopsL l) (h.roots.take k))) (fun _ i _ => h.roots.length - (intOf i).toNat)
   case atStart => exact ⟨0, rfl, Nat.zero_le _, by simpa [valsB] using RB.nil (Below.refl W9.heap.size W9) (Nat.le_refl _) (Nat.le_refl _)⟩
   case round =>
    clear q1 hd hkn r3
    obtain ⟨k, rfl, hk, hC⟩ := hrel
    have HC := Lib.hid hC
    have hbW := below_top HBW.out hC.base
    obtain ⟨r1, r2, r3, r4⟩ := HMP.out _ hbW
    by_cases hkr : k < h.roots.length
    ·have hd : decide ((k : Int) < (h.roots.length : Int)) = true := by simp; omega
     have g2 := r1.c2
     go_upto_region 12 with fail
     have hx32 : h.roots.getD k 0 < 4294967296 := by rw [List.getD_eq_getElem?_getD, List.getElem?_eq_getElem hkr]; exact h32r _ (List.getElem_mem hkr)
     have HTK := Lib.hid (valsB_take1 (L := oopsL l) hkr)
     have hcl := r1.2.2.2.cell (u32s_get hkr)
     have HVK := Lib.hid (HVT.out k)
     refine wp_region_U 11 (fun w' => w'.cell? ⟨b3, 0, none⟩ = some (.map (some mb)) ∧ w'.cell? ⟨b3, 1, none⟩ = some (.slice A1 (oopsL l).length c1) ∧ w'.cell? ⟨p.g, 2, none⟩ = some (.slice (some ⟨p.gr, 0, none⟩) h.roots.length p.cr) ∧ w'.cell? ⟨p.gr, k, none⟩ = some (.int .u32 (h.roots.getD k 0 : Nat))) (by kernel_rfl) ?_
     have HC7 := Lib.hid (HC.out.below (w' := wr.drew) ⟨rfl, rfl, rfl, Nat.le_refl _, fun _ _ => rfl⟩)
     have HSB := Lib.hid (fun (w' : World) (hb : Below W9.heap.size W9 w') => show w'.cell? ⟨b3, 0, none⟩ = some (.map (some mb)) ∧ w'.cell? ⟨b3, 1, none⟩ = some (.slice A1 (oopsL l).length c1) ∧ w'.cell? ⟨p.g, 2, none⟩ = some (.slice (some ⟨p.gr, 0, none⟩) h.roots.length p.cr) ∧ w'.cell? ⟨p.gr, k, none⟩ = some (.int .u32 (h.roots.getD k 0 : Nat)) from by
      obtain ⟨s1, s2, s3, s4⟩ := HMP.out _ (below_top HBW.out hb)
      exact ⟨s3.cell 0, s3.cell 1, s1.c2, s1.2.2.2.cell (u32s_get hkr)⟩)
     clear HC hbW r1 r2 r3 r4 g2 hcl hC
     generalize wr.drew = W10 at *
     have hS := HSB.out _ HC7.out.base
     generalize h.roots.getD k 0 = x at *
     generalize valsB (oopsL l) (h.roots.take k) = pk at *
     refine U_read 0 (v := u6) rfl (by kernel_rfl) (fun _ _ _ h => h) hS (by rfl) (fun w' hw' => by obtain ⟨h0, h1, h2, h3⟩ := hw'; go_simp) ?_
     try simp only [Act.put, List.setIfInBounds_toArray, List.set_cons_zero, List.set_cons_succ]
     refine U_read 1 (v := (.agg #[.map (some mb), .slice A1 (oopsL l).length c1])) rfl (by kernel_rfl) (fun _ _ _ h => h) hS (by rfl) (fun w' hw' => by obtain ⟨h0, h1, h2, h3⟩ := hw'; go_simp) ?_
     try simp only [Act.put, List.setIfInBounds_toArray, List.set_cons_zero, List.set_cons_succ]
     refine U_read 2 (v := (.pointer (some ⟨p.g, 0, none⟩))) rfl (by kernel_rfl) (fun _ _ _ h => h) hS (by rfl) (fun w' hw' => by obtain ⟨h0, h1, h2, h3⟩ := hw'; go_simp) ?_
     try simp only [Act.put, List.setIfInBounds_toArray, List.set_cons_zero, List.set_cons_succ]
     refine U_read 3 (v := (.pointer (some ⟨p.g, 0, none⟩))) rfl (by kernel_rfl) (fun _ _ _ h => h) hS (by rfl) (fun w' hw' => by obtain ⟨h0, h1, h2, h3⟩ := hw'; go_simp) ?_
     try simp only [Act.put, List.setIfInBounds_toArray, List.set_cons_zero, List.set_cons_succ]
     refine U_read 4 (v := (.pointer (some ⟨p.g, 2, none⟩))) rfl (by kernel_rfl) (fun _ _ _ h => h) hS (by rfl) (fun w' hw' => by obtain ⟨h0, h1, h2, h3⟩ := hw'; go_simp) ?_
     try simp only [Act.put, List.setIfInBounds_toArray, List.set_cons_zero, List.set_cons_succ]
     refine U_read 5 (v := (.slice (some ⟨p.gr, 0, none⟩) h.roots.length p.cr)) rfl (by kernel_rfl) (fun _ _ _ h => h) hS (by rfl) (fun w' hw' => by obtain ⟨h0, h1, h2, h3⟩ := hw'; go_simp) ?_
     try simp only [Act.put, List.setIfInBounds_toArray, List.set_cons_zero, List.set_cons_succ]
     refine U_read 6 (v := (.int .i64 (k : Int))) rfl (by kernel_rfl) (fun _ _ _ h => h) hS (by rfl) (fun w' hw' => by obtain ⟨h0, h1, h2, h3⟩ := hw'; go_simp) ?_
     try simp only [Act.put, List.setIfInBounds_toArray, List.set_cons_zero, List.set_cons_succ]
     refine U_read 7 (v := (.pointer (some ⟨p.gr, k, none⟩))) rfl (by kernel_rfl) (fun _ _ _ h => h) hS (by rfl) (fun w' hw' => by obtain ⟨h0, h1, h2, h3⟩ := hw'; go_simp) ?_
     try simp only [Act.put, List.setIfInBounds_toArray, List.set_cons_zero, List.set_cons_succ]
     refine U_read 8 (v := (.int .u32 (x : Int))) rfl (by kernel_rfl) (fun _ _ _ h => h) hS (by rfl) (fun w' hw' => by obtain ⟨h0, h1, h2, h3⟩ := hw'; go_simp) ?_
     try simp only [Act.put, List.setIfInBounds_toArray, List.set_cons_zero, List.set_cons_succ]
     refine U_one 9 (by kernel_rfl) rfl rfl (fun K hK => ?_)
     go_simp
     refine (rbvalue_any (va := .slice A1 (oopsL l).length c1) (HMP.out _ (below_top HBW.out HC7.out.base)).2.1 hL hnd h00 x hx32).mono ?_
     rintro e w11 ⟨rfl, hb11⟩
     have HC11 := Lib.hid (HC7.out.below hb11)
     clear hb11 HC7
     have hS11 := HSB.out _ HC11.out.base
     refine hK _ _ (fun _ => hS11) ?_
     clear hK K
     try simp only [Act.put, List.setIfInBounds_toArray, List.set_cons_zero, List.set_cons_succ]
     refine U_one 10 (by kernel_rfl) rfl rfl (fun K hK => ?_)
     go_simp
     refine (HNB.out W9 w11 W9.heap.size u6 pk HC11.out (by have := HVK.out; omega) (vnum (oopsL l) x) (vnum_lt hL hx32)).mono ?_
     rintro e w12 hB12
     obtain ⟨v12, rfl, C12⟩ := HC11.out.bytes hB12
     rw [← HTK.out] at C12
     have HC12 := Lib.hid C12
     clear hB12 C12 HC11
     have hS12 := HSB.out _ HC12.out.base
     refine hK _ _ (fun _ => hS12) ?_
     clear hK K
     try simp only [Act.put, List.setIfInBounds_toArray, List.set_cons_zero, List.set_cons_succ]
     refine U_one 11 (by kernel_rfl) rfl rfl (fun K hK => ?_)
     go_simp
     refine hK _ _ (fun h => absurd h (by decide)) ?_
     clear hK K
     try simp only [Act.put, List.setIfInBounds_toArray, List.set_cons_zero, List.set_cons_succ]
     refine U_done (by kernel_rfl) ?_ _
     simp only [Calm, Exit.then]
     clear hS hS11 hS12 HSB
     go_wp2_with fail
     go_roundw
     case rel => exact ⟨k + 1, by go_num, by omega, HC12.out⟩
     case measure => simp [intOf]; omega
    ·obtain rfl : k = h.roots.length := by omega
     have hd : decide ((h.roots.length : Int) < (h.roots.length : Int)) = false := by simp
     have g2 := r1.c2
     have hC9 := HC.out
     rw [List.take_length] at hC9
     obtain ⟨A10, c10, hA10, hr10⟩ := hC9.reads
     subst hA10
     have HR10 := Lib.hid hr10
     have HC9 := Lib.hid hC9
     clear hC hC9 HC hr10 hk hbW r2 r3 r4
     have HB10 := Lib.hid (HB9.out.below HC9.out.base)
     have hn8 := HC6.out.apart2 HC7.out
     have hn10 := HB9.out.apart2 HC9.out
     have HR8' := Lib.hid ((HR8.out.below HC9.out.base).more HC9.out.base.size)
     obtain ⟨p0, p1, p2⟩ := HPL.out
     have hq0 := cnt7_len_le (show (payH h l).length < 4294967296 by omega)
     have hq1 := cnt7_len_le (show (objsB (oopsL l) l).length < 4294967296 by omega)
     have hq2 := cnt7_len_le (show (valsB (oopsL l) h.roots).length < 4294967296 by omega)
     have hp6 : pre6.length ≤ 100 := by rw [← HPRE.out]; simp only [List.length_append, secI_len, List.length_cons, List.length_nil]; omega
     go_wp2_with fail
     refine (rsection_any HB10.out.own HB10.out.top (by omega) 79 (by decide) HR8'.out (by omega) HPB.out.2.1 hn8).mono ?_
     rintro e w13 hB13
     obtain ⟨v13, rfl, C13⟩ := HB10.out.bytes hB13
     have HC13 := Lib.hid C13
     have HR13 := Lib.hid (hB13.reads HR10.out hn10)
     have hn13 := hB13.apart HR10.out hn10
     clear hB13 C13 HB10 HR8' HR8
     go_wp2_with fail
     refine (rsection_any HC13.out.own HC13.out.top (by simp only [List.length_append, secI_len]; omega) 82 (by decide) HR13.out (by omega) HPB.out.2.2 hn13).mono ?_
     rintro e w14 hB14
     obtain ⟨v14, rfl, C14⟩ := HC13.out.bytes hB14
     have HC14 := Lib.hid C14
     clear hB14 C14 HC13 HR13
     go_wp2_with fail
     refine (rsection_any HC14.out.own HC14.out.top (by simp only [List.length_append, secI_len]; omega) 90 (by decide) (A := none) (n := 0) (c := 0) (p := []) Reads.none_ (by decide) (fun _ hx => (by cases hx)) (fun h0 => absurd h0 (by omega))).mono ?_
     rintro e w15 hB15
     obtain ⟨v15, rfl, C15⟩ := HC14.out.bytes hB15
     have hfin := C15
     have hNI : pre6 ++ secI 79 (objsB (oopsL l) l) ++ secI 82 (valsB (oopsL l) h.roots) ++ secI 90 [] = h.newI l := by rw [HE.out, ← HPRE.out]; simp only [List.append_assoc]
     rw [hNI] at hfin
     have HFN := Lib.hid hfin
     clear hB15 C15 HC14 hfin hNI
     go_wp2_with fail
     go_ret
     exact ⟨_, rfl, own_lessI HFN.out.own HB2.out.size, below_top HB2.out HFN.out.base⟩
end
end Go.Proofs.YthadjmhipckelaaGreatDoor
