/- Save: the program's. -/
import Derived.Test.YtfpleoblehfhbaaDoorJIEq
import Derived.Test.YtfpleoblehfhbaaDoorJIObj
import Derived.Test.YtfpleoblehfhbaaDoorJIBack
import Derived.Lib.SlBytesConst
set_option linter.unusedVariables false
set_option linter.unusedSimpArgs false
namespace Go.Proofs.YtfpleoblehfhbaaDoor
open Go.RowKit
attribute [local go_sem] Oper.semAt_some
theorem isave1_any (w : World) : Calls Tryd.prog 30 #[] w (BytesN [] w) := by
  unfold BytesN
  go_enter Tryd.func30, Tryd.ntmps30
  go_wp2_with fail
  go_ret
  exact ⟨_, rfl, ⟨rfl, .inl ⟨rfl, rfl⟩⟩, Below.refl _ _⟩
/-- A row made later lies elsewhere. -/
theorem RB.apart {w2 w wr : World} {B n : Nat} {v v5 : Value} {bs : List Nat} {xs : List Value} (C : RB w2 wr B v bs) (h : w.ownsRow wr.heap.size 5 1 v5 n xs) : ∀ A c, v5 = .slice A n c → 0 < n → ∀ a, A = some a → v.ownBlock ≠ some a.block := by
  intro A c e hn a ha hk
  have h1 := (C.own.lt _ hk).2
  have h2 := (h.lt a.block (by rw [e, ha]; rfl)).1
  omega
theorem payH_byte (h : HM) (l : List Ob) : ∀ x ∈ payH h l, x < 256 := by
  intro x hx
  unfold payH at hx
  rcases List.mem_append.1 hx with h1 | h1 <;> exact cnt7_byte _ _ h1
theorem valsB_byte (L rs : List Nat) : ∀ x ∈ valsB L rs, x < 256 := by
  intro x hx
  unfold valsB at hx
  obtain ⟨o, _, h1⟩ := List.mem_flatMap.1 hx
  exact cnt7_byte _ _ h1
theorem bytesM_byte (ys : List Nat) : ∀ x ∈ bytesM ys, x < 256 := by
  intro x hx
  unfold bytesM at hx
  obtain ⟨y, _, h1⟩ := List.mem_flatMap.1 hx
  simp [bytes4] at h1
  omega
theorem objsB_byte {L : List Nat} {l : List Ob} (K : ∀ b ∈ l, b.Ok) : ∀ x ∈ objsB L l, x < 256 := by
  intro x hx
  unfold objsB at hx
  obtain ⟨b, hb, h1⟩ := List.mem_flatMap.1 hx
  have k := (K b hb).fit
  have k1 := k.fmt
  have k2 := k.spare
  unfold objB' at h1
  simp only [List.mem_append, List.mem_cons, List.not_mem_nil, or_false] at h1
  rcases h1 with h1 | h1 | h1 | h1 | h1
  · exact cnt7_byte _ _ h1
  · omega
  · exact cnt7_byte _ _ h1
  · exact cnt7_byte _ _ h1
  · unfold payB at h1
    split at h1
    · exact bytesM_byte _ _ (List.mem_of_mem_take h1)
    · split at h1
      · obtain ⟨y, _, h2⟩ := List.mem_flatMap.1 h1
        exact cnt7_byte _ _ h2
      · exact valsB_byte _ _ _ h1
theorem pay_bytes {h : HM} {l : List Ob} (G : h.Good l) : (∀ x ∈ payH h l, x < 256) ∧ (∀ x ∈ objsB (oopsL l) l, x < 256) ∧ (∀ x ∈ valsB (oopsL l) h.roots, x < 256) :=
  ⟨payH_byte h l, objsB_byte G.laid.ok, valsB_byte _ _⟩
set_option maxRecDepth 100000 in
set_option maxHeartbeats 8000000 in
theorem isave_any {w : World} {p : HP} {h : HM} {l : List Ob} (H : HAt w p h) (G : h.Good l) (hs : Spares w) : Calls Tryd.prog 7 #[ptr p.g] w (SavedP (h.newI l) w) := by
  have HSZ := Lib.hid (size_any H G.fit)
  have HNS := Lib.hid (newSaver_any H G hs)
  have hsz : h.size ≠ 0 := by have := G.fit.lo; omega
  have e0 : ((h.size : Int) == 0) = false := by simp; omega
  have HH := Lib.hid (fun (w' : World) (hb : Below w.heap.size w w') => And.intro (H.below hb) (hs.below hb))
  have HPL := Lib.hid (pay_lens G)
  have kc := fun (w : World) (C : Array Value) (n c : Nat) => Lib.run_convert_bytes_const (P := Tryd.prog) w 32 5 C n c Tryd.underlying32 Tryd.underlying5
  unfold ptr at HSZ HNS ⊢
  clear H hs hsz
  go_enter Tryd.func7, Tryd.ntmps7
  go_wp2_with fail
  refine HSZ.out.mono ?_
  rintro e w1 ⟨rfl, rfl⟩
  go_wp2_with fail
  refine HNS.out.mono ?_
  rintro e w1 ⟨sg, mb, rfl, S1, hsg, hmb, hb1⟩
  have HS1 := Lib.hid S1
  have HB1 := Lib.hid hb1
  clear S1 hb1 HSZ HNS
  have e1 : (u8c [2]).toArray = #[.int .u8 2] := by simp [u8c]
  have e4 : (u8c [69, 70, 73, 71]).toArray = #[.int .u8 69, .int .u8 70, .int .u8 73, .int .u8 71] := by simp [u8c]
  have hr1 := reads_new1 w1 (.cells #[.int .u8 69, .int .u8 70, .int .u8 73, .int .u8 71] 5 (4, 5)) [2] 1 rfl
  have hr0 := reads_marked w1 (.cells #[.int .u8 2] 5) (4, 5) [69, 70, 73, 71] 4 rfl
  rw [e1] at hr1
  rw [e4] at hr0
  have HR1 := Lib.hid hr1
  have HR0 := Lib.hid hr0
  clear hr1 hr0 e1 e4
  go_wp2_with (at_builtin; refine wpList_app_full (w2 := w1) (.tmp 15) (.tmp 16) (bs := [69, 70, 73, 71]) (cs := [2]) (((Below.refl _ _).alloc (Nat.le_refl _) _).alloc (by simp) _) HR0.out HR1.out rfl rfl (by decide) (by decide) rfl rfl ?_; intro v9 w9 C9; have HC9 := Lib.hid C9; clear C9 HR0 HR1)
  generalize hB9 : ((w1.alloc (.cells #[.int .u8 69, .int .u8 70, .int .u8 73, .int .u8 71] 5 (4, 5))).alloc (.cells #[.int .u8 2] 5)).heap.size = B9 at HC9
  have hB91 : w1.heap.size ≤ B9 := HC9.out.hB
  clear hB9
  have HFB := Lib.hid (Blk.new w9 63 #[.func (.func 27) #[.pointer (some ⟨sg, 0, none⟩)] #[], .func (.func 28) #[.pointer (some ⟨sg, 0, none⟩)] #[], .func (.func 29) #[.pointer (some ⟨sg, 0, none⟩)] #[], .func (.func 30) #[] #[]])
  have HC0 := Lib.hid (HC9.out.alloc (.cells #[.func (.func 27) #[.pointer (some ⟨sg, 0, none⟩)] #[], .func (.func 28) #[.pointer (some ⟨sg, 0, none⟩)] #[], .func (.func 29) #[.pointer (some ⟨sg, 0, none⟩)] #[], .func (.func 30) #[] #[]] 63))
  clear HC9
  generalize w9.alloc (.cells #[.func (.func 27) #[.pointer (some ⟨sg, 0, none⟩)] #[], .func (.func 28) #[.pointer (some ⟨sg, 0, none⟩)] #[], .func (.func 29) #[.pointer (some ⟨sg, 0, none⟩)] #[], .func (.func 30) #[] #[]] 63) = W0 at *
  generalize w9.heap.size = gf at *
  have HPO := Lib.hid (pay_bytes G)
  obtain ⟨P3, hP3⟩ : ∃ P : List Nat, P = [] := ⟨_, rfl⟩
  have HE := Lib.hid (show h.newI l = [69, 70, 73, 71, 2] ++ (secI 72 (payH h l) ++ (secI 79 (objsB (oopsL l) l) ++ (secI 82 (valsB (oopsL l) h.roots) ++ secI 90 P3))) by rw [hP3]; rfl)
  have HP3 := Lib.hid hP3
  have hL := oopsL_le G
  have hnd := oopsL_nodup l
  have HHD := Lib.hid (fun (w' : World) (hb : Below w1.heap.size w1 w') => shead_any (HH.out _ (below_top HB1.out hb)).1 G.fit (HS1.out.below hb) hL hnd)
  have HOB := Lib.hid (fun (w' : World) (hb : Below w1.heap.size w1 w') => sobjects_any (HH.out _ (below_top HB1.out hb)).1 G (HH.out _ (below_top HB1.out hb)).2 (HS1.out.below hb))
  have HRT := Lib.hid (fun (w' : World) (hb : Below w1.heap.size w1 w') => sroots_any (HH.out _ (below_top HB1.out hb)).1 G.fit (HS1.out.below hb) hL hnd)
  rw [show (oopsL l).length = l.length from oopsL_len l, show cnt7 h.last ++ cnt7 l.length = payH h l from rfl] at HHD
  have HZR := Lib.hid (fun (w' : World) (hb : Below w1.heap.size w1 w') => isave1_any w')
  rw [← hP3] at HZR
  clear hP3
  have HP4 := Lib.hid (fun (w' : World) (x : Nat) (hx : x < 4294967296) => ifour_any x hx w')
  clear hL hnd HS1
  generalize h.newI l = NI at *
  generalize payH h l = P0 at *
  generalize objsB (oopsL l) l = P1 at *
  generalize valsB (oopsL l) h.roots = P2 at *
  go_loopw [5, 26] (fun b i wr => ∃ k : Nat, i = .int .i64 k ∧ k ≤ 4 ∧ RB w1 wr B9 b ([69, 70, 73, 71, 2] ++ ([secI 72 P0, secI 79 P1, secI 82 P2, secI 90 P3].take k).flatten) ∧ Blk wr gf 63 #[.func (.func 27) #[.pointer (some ⟨sg, 0, none⟩)] #[], .func (.func 28) #[.pointer (some ⟨sg, 0, none⟩)] #[], .func (.func 29) #[.pointer (some ⟨sg, 0, none⟩)] #[], .func (.func 30) #[] #[]]) (fun _ y _ => 4 - (intOf y).toNat)
  case atStart => exact ⟨0, rfl, by omega, by simpa using HC0.out, HFB.out⟩
  case round =>
    clear HC0 HFB
    obtain ⟨k, rfl, hk, hcr, hfb⟩ := hrel
    have HCR := Lib.hid hcr
    have HFB := Lib.hid hfb
    clear hcr hfb
    obtain ⟨hp0, hp1, hp2⟩ := HPL.out
    obtain rfl | rfl | rfl | rfl | rfl : k = 0 ∨ k = 1 ∨ k = 2 ∨ k = 3 ∨ k = 4 := by omega
    · have hcf := HFB.out.cell 0
      have HBS := Lib.hid (show ([secI 72 P0, secI 79 P1, secI 82 P2, secI 90 P3].take 0).flatten.length ≤ 8000000 by
        have h1 := cnt7_len_le (show P0.length < 4294967296 by omega)
        have h2 := cnt7_len_le (show P1.length < 4294967296 by omega)
        have h3 := cnt7_len_le (show P2.length < 4294967296 by omega)
        have h4 := cnt7_len_le (show P3.length < 4294967296 by rw [HP3.out]; simp)
        have h5 : P3.length = 0 := by rw [HP3.out]; rfl
        simp [secI_len] <;> omega)
      have HNX := Lib.hid (show [69, 70, 73, 71, 2] ++ ([secI 72 P0, secI 79 P1, secI 82 P2, secI 90 P3].take (0 + 1)).flatten = ([69, 70, 73, 71, 2] ++ ([secI 72 P0, secI 79 P1, secI 82 P2, secI 90 P3].take 0).flatten) ++ secI 72 P0 by simp)
      have hpl : P0.length ≤ 6291456 := by omega
      have hp8 : ∀ x ∈ P0, x < 256 := HPO.out.1
      have HG := Lib.hid (HHD.out _ HCR.out.base)
      generalize ([secI 72 P0, secI 79 P1, secI 82 P2, secI 90 P3].take 0).flatten = pre at *
      generalize hpost : ([secI 72 P0, secI 79 P1, secI 82 P2, secI 90 P3].take (0 + 1)).flatten = post at *
      have HPS := Lib.hid hpost
      clear hpost
      clear HHD HOB HRT HZR HPO HE
      simp only [List.getD_eq_getElem?_getD, List.getElem?_toArray, List.getElem?_cons_zero, List.getElem?_cons_succ, Option.getD_some] at hcf
      go_wp2_with fail
      refine HG.out.mono ?_
      rintro e w5 ⟨v5, rfl, hown5, hb5⟩
      have HFB5 := Lib.hid (HFB.out.below hb5 HFB.out.lt)
      obtain ⟨A5, c5, rfl, hr5⟩ := own_sliceI hown5
      have HNE := Lib.hid (HCR.out.apart hown5 A5 c5 rfl)
      have HC5 := Lib.hid (HCR.out.below hb5)
      have HS0 := Lib.hid (BytesB.refl HC5.out.own)
      have HR5 := Lib.hid hr5
      have hB5 : B9 ≤ w5.heap.size := HC5.out.top
      clear hown5 hb5 hr5 HG hcf HCR HFB
      have HCN := Lib.hid (cnt7_len_le (show P0.length < 4294967296 by omega))
      have h8 : ∀ x ∈ 72 :: P0, x < 256 := fun x hx => by rcases List.mem_cons.1 hx with rfl | hx; decide; exact hp8 x hx
      obtain ⟨hs1, hs2⟩ := sumN_eq h8
      have HSM := Lib.hid (fun (A' : Option Addr) (c' : Nat) (w' : World) (hr' : Reads w' w'.heap.size 1 A' (P0.length + 1) (u8c (72 :: P0))) => sum_any A' (P0.length + 1) c' w'.heap.size (72 :: P0) w' (by omega) hr' h8)
      rw [hs1] at HSM
      have hwn : IntKind.u32.wrap (P0.length : Int) = (P0.length : Int) := by show (P0.length : Int) % 4294967296 = _; omega
      clear h8 hp8 hs1
      go_wp2_with (at_builtin; refine wpList_app_BB (.tmp 33) (.tmp 36) HS0.out ((Below.refl _ _).alloc (Nat.le_refl _) _) hB5 (reads_one w5 72) rfl rfl (by have := HBS.out; simp; omega) rfl rfl ?_; intro v6 w6 S6; have HS6 := Lib.hid S6; clear S6 HS0)
      refine (inumber_any P0.length (by omega) _).mono ?_
      rintro e w7 ⟨v7, rfl, hown7, hb7⟩
      obtain ⟨A7, c7, rfl, hr7⟩ := own_sliceI hown7
      have HR7 := Lib.hid hr7
      have HB7 := Lib.hid hb7
      clear hown7 hr7 hb7
      go_wp2_with (first | (at_builtin; refine wpList_app_BB (.tmp 38) (.tmp 42) HS6.out HB7.out hB5 HR7.out rfl rfl (by have := HBS.out; have := HCN.out; simp; omega) rfl rfl ?_; intro v8 w8 S8; have HS8 := Lib.hid S8; have HR8 := Lib.hid (S8.reads HR5.out HNE.out); clear S8 HS6 HR7) | (at_builtin; refine wpList_app_BB (.tmp 44) (.tmp 45) HS8.out (Below.refl _ _) hB5 HR8.out rfl rfl (by have := HBS.out; have := HCN.out; simp; omega) rfl rfl ?_; intro v9 w9 S9; have HS9 := Lib.hid S9; have HR9 := Lib.hid (S9.reads HR5.out HNE.out); clear S9 HS8 HR8) | (at_builtin; refine wpList_app_RB (.tmp 50) (.tmp 51) (RB.one w9 72) ((HR9.out.below ((Below.refl _ _).alloc (Nat.le_refl _) (.cells #[.int .u8 (72 : Int)] 5))).more (by simp)) rfl rfl (by simp; omega) rfl rfl ?_; intro v10 w10 C10 hg10; clear hg10; have HC10 := Lib.hid C10; clear C10))
      obtain ⟨A10, c10, rfl, hr10⟩ := HC10.out.reads
      have hr11 : Reads w10 w10.heap.size 1 A10 (P0.length + 1) (u8c (72 :: P0)) := by
        simp only [List.length_append, List.length_cons, List.length_nil] at hr10
        rw [Nat.add_comm] at hr10
        exact hr10
      have HM := Lib.hid (HSM.out A10 c10 w10 hr11)
      have HBW := Lib.hid HC10.out.base
      have e4 : ([72] ++ P0).length = P0.length + 1 := by rw [List.length_append]; simp; omega
      rw [e4]
      clear hr10 hr11 HC10 HSM e4
      refine HM.out.mono ?_
      rintro e w11 ⟨rfl, rfl⟩
      have HS11 := Lib.hid (HS9.out.below HBW.out)
      clear HS9 HM HBW
      go_wp2_with fail
      refine (HP4.out _ (sumN (72 :: P0)) hs2).mono ?_
      rintro e w12 ⟨v12, rfl, hown12, hb12⟩
      obtain ⟨A12, c12, rfl, hr12⟩ := own_sliceI hown12
      have HR12 := Lib.hid hr12
      have HB12 := Lib.hid hb12
      clear hown12 hr12 hb12
      go_wp2_with (at_builtin; refine wpList_app_BB (.tmp 47) (.tmp 54) HS11.out HB12.out hB5 HR12.out rfl rfl (by have := HBS.out; have := HCN.out; simp [four4_len]; omega) rfl rfl ?_; intro v13 w13 S13; have HS13 := Lib.hid S13; clear S13 HS11 HR12)
      have HFB13 := Lib.hid (HS13.out.blk HFB5.out (own_blkI HC5.out.own HFB5.out (by decide)))
      obtain ⟨v14, hv14, HC14⟩ := HC5.out.bytes HS13.out
      injection hv14 with hv14
      subst hv14
      have hsec : [] ++ [72] ++ cnt7 P0.length ++ P0 ++ four4 (sumN (72 :: P0)) = secI 72 P0 := by unfold secI; simp
      rw [hsec, ← HNX.out] at HC14
      have HC15 := Lib.hid HC14
      clear HC14 HS13 HC5 HFB5 hsec
      go_roundw
      case rel => exact ⟨0 + 1, by go_num, by omega, by rw [HPS.out]; exact HC15.out, HFB13.out⟩
      case measure => simp [intOf]
    · have hcf := HFB.out.cell 1
      have HBS := Lib.hid (show ([secI 72 P0, secI 79 P1, secI 82 P2, secI 90 P3].take 1).flatten.length ≤ 8000000 by
        have h1 := cnt7_len_le (show P0.length < 4294967296 by omega)
        have h2 := cnt7_len_le (show P1.length < 4294967296 by omega)
        have h3 := cnt7_len_le (show P2.length < 4294967296 by omega)
        have h4 := cnt7_len_le (show P3.length < 4294967296 by rw [HP3.out]; simp)
        have h5 : P3.length = 0 := by rw [HP3.out]; rfl
        simp [secI_len] <;> omega)
      have HNX := Lib.hid (show [69, 70, 73, 71, 2] ++ ([secI 72 P0, secI 79 P1, secI 82 P2, secI 90 P3].take (1 + 1)).flatten = ([69, 70, 73, 71, 2] ++ ([secI 72 P0, secI 79 P1, secI 82 P2, secI 90 P3].take 1).flatten) ++ secI 79 P1 by simp)
      have hpl : P1.length ≤ 6291456 := by omega
      have hp8 : ∀ x ∈ P1, x < 256 := HPO.out.2.1
      have HG := Lib.hid (HOB.out _ HCR.out.base)
      generalize ([secI 72 P0, secI 79 P1, secI 82 P2, secI 90 P3].take 1).flatten = pre at *
      generalize hpost : ([secI 72 P0, secI 79 P1, secI 82 P2, secI 90 P3].take (1 + 1)).flatten = post at *
      have HPS := Lib.hid hpost
      clear hpost
      clear HHD HOB HRT HZR HPO HE
      simp only [List.getD_eq_getElem?_getD, List.getElem?_toArray, List.getElem?_cons_zero, List.getElem?_cons_succ, Option.getD_some] at hcf
      go_wp2_with fail
      refine HG.out.mono ?_
      rintro e w5 ⟨v5, rfl, hown5, hb5⟩
      have HFB5 := Lib.hid (HFB.out.below hb5 HFB.out.lt)
      obtain ⟨A5, c5, rfl, hr5⟩ := own_sliceI hown5
      have HNE := Lib.hid (HCR.out.apart hown5 A5 c5 rfl)
      have HC5 := Lib.hid (HCR.out.below hb5)
      have HS0 := Lib.hid (BytesB.refl HC5.out.own)
      have HR5 := Lib.hid hr5
      have hB5 : B9 ≤ w5.heap.size := HC5.out.top
      clear hown5 hb5 hr5 HG hcf HCR HFB
      have HCN := Lib.hid (cnt7_len_le (show P1.length < 4294967296 by omega))
      have h8 : ∀ x ∈ 79 :: P1, x < 256 := fun x hx => by rcases List.mem_cons.1 hx with rfl | hx; decide; exact hp8 x hx
      obtain ⟨hs1, hs2⟩ := sumN_eq h8
      have HSM := Lib.hid (fun (A' : Option Addr) (c' : Nat) (w' : World) (hr' : Reads w' w'.heap.size 1 A' (P1.length + 1) (u8c (79 :: P1))) => sum_any A' (P1.length + 1) c' w'.heap.size (79 :: P1) w' (by omega) hr' h8)
      rw [hs1] at HSM
      have hwn : IntKind.u32.wrap (P1.length : Int) = (P1.length : Int) := by show (P1.length : Int) % 4294967296 = _; omega
      clear h8 hp8 hs1
      go_wp2_with (at_builtin; refine wpList_app_BB (.tmp 33) (.tmp 36) HS0.out ((Below.refl _ _).alloc (Nat.le_refl _) _) hB5 (reads_one w5 79) rfl rfl (by have := HBS.out; simp; omega) rfl rfl ?_; intro v6 w6 S6; have HS6 := Lib.hid S6; clear S6 HS0)
      refine (inumber_any P1.length (by omega) _).mono ?_
      rintro e w7 ⟨v7, rfl, hown7, hb7⟩
      obtain ⟨A7, c7, rfl, hr7⟩ := own_sliceI hown7
      have HR7 := Lib.hid hr7
      have HB7 := Lib.hid hb7
      clear hown7 hr7 hb7
      go_wp2_with (first | (at_builtin; refine wpList_app_BB (.tmp 38) (.tmp 42) HS6.out HB7.out hB5 HR7.out rfl rfl (by have := HBS.out; have := HCN.out; simp; omega) rfl rfl ?_; intro v8 w8 S8; have HS8 := Lib.hid S8; have HR8 := Lib.hid (S8.reads HR5.out HNE.out); clear S8 HS6 HR7) | (at_builtin; refine wpList_app_BB (.tmp 44) (.tmp 45) HS8.out (Below.refl _ _) hB5 HR8.out rfl rfl (by have := HBS.out; have := HCN.out; simp; omega) rfl rfl ?_; intro v9 w9 S9; have HS9 := Lib.hid S9; have HR9 := Lib.hid (S9.reads HR5.out HNE.out); clear S9 HS8 HR8) | (at_builtin; refine wpList_app_RB (.tmp 50) (.tmp 51) (RB.one w9 79) ((HR9.out.below ((Below.refl _ _).alloc (Nat.le_refl _) (.cells #[.int .u8 (79 : Int)] 5))).more (by simp)) rfl rfl (by simp; omega) rfl rfl ?_; intro v10 w10 C10 hg10; clear hg10; have HC10 := Lib.hid C10; clear C10))
      obtain ⟨A10, c10, rfl, hr10⟩ := HC10.out.reads
      have hr11 : Reads w10 w10.heap.size 1 A10 (P1.length + 1) (u8c (79 :: P1)) := by
        simp only [List.length_append, List.length_cons, List.length_nil] at hr10
        rw [Nat.add_comm] at hr10
        exact hr10
      have HM := Lib.hid (HSM.out A10 c10 w10 hr11)
      have HBW := Lib.hid HC10.out.base
      have e4 : ([79] ++ P1).length = P1.length + 1 := by rw [List.length_append]; simp; omega
      rw [e4]
      clear hr10 hr11 HC10 HSM e4
      refine HM.out.mono ?_
      rintro e w11 ⟨rfl, rfl⟩
      have HS11 := Lib.hid (HS9.out.below HBW.out)
      clear HS9 HM HBW
      go_wp2_with fail
      refine (HP4.out _ (sumN (79 :: P1)) hs2).mono ?_
      rintro e w12 ⟨v12, rfl, hown12, hb12⟩
      obtain ⟨A12, c12, rfl, hr12⟩ := own_sliceI hown12
      have HR12 := Lib.hid hr12
      have HB12 := Lib.hid hb12
      clear hown12 hr12 hb12
      go_wp2_with (at_builtin; refine wpList_app_BB (.tmp 47) (.tmp 54) HS11.out HB12.out hB5 HR12.out rfl rfl (by have := HBS.out; have := HCN.out; simp [four4_len]; omega) rfl rfl ?_; intro v13 w13 S13; have HS13 := Lib.hid S13; clear S13 HS11 HR12)
      have HFB13 := Lib.hid (HS13.out.blk HFB5.out (own_blkI HC5.out.own HFB5.out (by decide)))
      obtain ⟨v14, hv14, HC14⟩ := HC5.out.bytes HS13.out
      injection hv14 with hv14
      subst hv14
      have hsec : [] ++ [79] ++ cnt7 P1.length ++ P1 ++ four4 (sumN (79 :: P1)) = secI 79 P1 := by unfold secI; simp
      rw [hsec, ← HNX.out] at HC14
      have HC15 := Lib.hid HC14
      clear HC14 HS13 HC5 HFB5 hsec
      go_roundw
      case rel => exact ⟨1 + 1, by go_num, by omega, by rw [HPS.out]; exact HC15.out, HFB13.out⟩
      case measure => simp [intOf]
    · have hcf := HFB.out.cell 2
      have HBS := Lib.hid (show ([secI 72 P0, secI 79 P1, secI 82 P2, secI 90 P3].take 2).flatten.length ≤ 8000000 by
        have h1 := cnt7_len_le (show P0.length < 4294967296 by omega)
        have h2 := cnt7_len_le (show P1.length < 4294967296 by omega)
        have h3 := cnt7_len_le (show P2.length < 4294967296 by omega)
        have h4 := cnt7_len_le (show P3.length < 4294967296 by rw [HP3.out]; simp)
        have h5 : P3.length = 0 := by rw [HP3.out]; rfl
        simp [secI_len] <;> omega)
      have HNX := Lib.hid (show [69, 70, 73, 71, 2] ++ ([secI 72 P0, secI 79 P1, secI 82 P2, secI 90 P3].take (2 + 1)).flatten = ([69, 70, 73, 71, 2] ++ ([secI 72 P0, secI 79 P1, secI 82 P2, secI 90 P3].take 2).flatten) ++ secI 82 P2 by simp)
      have hpl : P2.length ≤ 6291456 := by omega
      have hp8 : ∀ x ∈ P2, x < 256 := HPO.out.2.2
      have HG := Lib.hid (HRT.out _ HCR.out.base)
      generalize ([secI 72 P0, secI 79 P1, secI 82 P2, secI 90 P3].take 2).flatten = pre at *
      generalize hpost : ([secI 72 P0, secI 79 P1, secI 82 P2, secI 90 P3].take (2 + 1)).flatten = post at *
      have HPS := Lib.hid hpost
      clear hpost
      clear HHD HOB HRT HZR HPO HE
      simp only [List.getD_eq_getElem?_getD, List.getElem?_toArray, List.getElem?_cons_zero, List.getElem?_cons_succ, Option.getD_some] at hcf
      go_wp2_with fail
      refine HG.out.mono ?_
      rintro e w5 ⟨v5, rfl, hown5, hb5⟩
      have HFB5 := Lib.hid (HFB.out.below hb5 HFB.out.lt)
      obtain ⟨A5, c5, rfl, hr5⟩ := own_sliceI hown5
      have HNE := Lib.hid (HCR.out.apart hown5 A5 c5 rfl)
      have HC5 := Lib.hid (HCR.out.below hb5)
      have HS0 := Lib.hid (BytesB.refl HC5.out.own)
      have HR5 := Lib.hid hr5
      have hB5 : B9 ≤ w5.heap.size := HC5.out.top
      clear hown5 hb5 hr5 HG hcf HCR HFB
      have HCN := Lib.hid (cnt7_len_le (show P2.length < 4294967296 by omega))
      have h8 : ∀ x ∈ 82 :: P2, x < 256 := fun x hx => by rcases List.mem_cons.1 hx with rfl | hx; decide; exact hp8 x hx
      obtain ⟨hs1, hs2⟩ := sumN_eq h8
      have HSM := Lib.hid (fun (A' : Option Addr) (c' : Nat) (w' : World) (hr' : Reads w' w'.heap.size 1 A' (P2.length + 1) (u8c (82 :: P2))) => sum_any A' (P2.length + 1) c' w'.heap.size (82 :: P2) w' (by omega) hr' h8)
      rw [hs1] at HSM
      have hwn : IntKind.u32.wrap (P2.length : Int) = (P2.length : Int) := by show (P2.length : Int) % 4294967296 = _; omega
      clear h8 hp8 hs1
      go_wp2_with (at_builtin; refine wpList_app_BB (.tmp 33) (.tmp 36) HS0.out ((Below.refl _ _).alloc (Nat.le_refl _) _) hB5 (reads_one w5 82) rfl rfl (by have := HBS.out; simp; omega) rfl rfl ?_; intro v6 w6 S6; have HS6 := Lib.hid S6; clear S6 HS0)
      refine (inumber_any P2.length (by omega) _).mono ?_
      rintro e w7 ⟨v7, rfl, hown7, hb7⟩
      obtain ⟨A7, c7, rfl, hr7⟩ := own_sliceI hown7
      have HR7 := Lib.hid hr7
      have HB7 := Lib.hid hb7
      clear hown7 hr7 hb7
      go_wp2_with (first | (at_builtin; refine wpList_app_BB (.tmp 38) (.tmp 42) HS6.out HB7.out hB5 HR7.out rfl rfl (by have := HBS.out; have := HCN.out; simp; omega) rfl rfl ?_; intro v8 w8 S8; have HS8 := Lib.hid S8; have HR8 := Lib.hid (S8.reads HR5.out HNE.out); clear S8 HS6 HR7) | (at_builtin; refine wpList_app_BB (.tmp 44) (.tmp 45) HS8.out (Below.refl _ _) hB5 HR8.out rfl rfl (by have := HBS.out; have := HCN.out; simp; omega) rfl rfl ?_; intro v9 w9 S9; have HS9 := Lib.hid S9; have HR9 := Lib.hid (S9.reads HR5.out HNE.out); clear S9 HS8 HR8) | (at_builtin; refine wpList_app_RB (.tmp 50) (.tmp 51) (RB.one w9 82) ((HR9.out.below ((Below.refl _ _).alloc (Nat.le_refl _) (.cells #[.int .u8 (82 : Int)] 5))).more (by simp)) rfl rfl (by simp; omega) rfl rfl ?_; intro v10 w10 C10 hg10; clear hg10; have HC10 := Lib.hid C10; clear C10))
      obtain ⟨A10, c10, rfl, hr10⟩ := HC10.out.reads
      have hr11 : Reads w10 w10.heap.size 1 A10 (P2.length + 1) (u8c (82 :: P2)) := by
        simp only [List.length_append, List.length_cons, List.length_nil] at hr10
        rw [Nat.add_comm] at hr10
        exact hr10
      have HM := Lib.hid (HSM.out A10 c10 w10 hr11)
      have HBW := Lib.hid HC10.out.base
      have e4 : ([82] ++ P2).length = P2.length + 1 := by rw [List.length_append]; simp; omega
      rw [e4]
      clear hr10 hr11 HC10 HSM e4
      refine HM.out.mono ?_
      rintro e w11 ⟨rfl, rfl⟩
      have HS11 := Lib.hid (HS9.out.below HBW.out)
      clear HS9 HM HBW
      go_wp2_with fail
      refine (HP4.out _ (sumN (82 :: P2)) hs2).mono ?_
      rintro e w12 ⟨v12, rfl, hown12, hb12⟩
      obtain ⟨A12, c12, rfl, hr12⟩ := own_sliceI hown12
      have HR12 := Lib.hid hr12
      have HB12 := Lib.hid hb12
      clear hown12 hr12 hb12
      go_wp2_with (at_builtin; refine wpList_app_BB (.tmp 47) (.tmp 54) HS11.out HB12.out hB5 HR12.out rfl rfl (by have := HBS.out; have := HCN.out; simp [four4_len]; omega) rfl rfl ?_; intro v13 w13 S13; have HS13 := Lib.hid S13; clear S13 HS11 HR12)
      have HFB13 := Lib.hid (HS13.out.blk HFB5.out (own_blkI HC5.out.own HFB5.out (by decide)))
      obtain ⟨v14, hv14, HC14⟩ := HC5.out.bytes HS13.out
      injection hv14 with hv14
      subst hv14
      have hsec : [] ++ [82] ++ cnt7 P2.length ++ P2 ++ four4 (sumN (82 :: P2)) = secI 82 P2 := by unfold secI; simp
      rw [hsec, ← HNX.out] at HC14
      have HC15 := Lib.hid HC14
      clear HC14 HS13 HC5 HFB5 hsec
      go_roundw
      case rel => exact ⟨2 + 1, by go_num, by omega, by rw [HPS.out]; exact HC15.out, HFB13.out⟩
      case measure => simp [intOf]
    · have hcf := HFB.out.cell 3
      have HBS := Lib.hid (show ([secI 72 P0, secI 79 P1, secI 82 P2, secI 90 P3].take 3).flatten.length ≤ 8000000 by
        have h1 := cnt7_len_le (show P0.length < 4294967296 by omega)
        have h2 := cnt7_len_le (show P1.length < 4294967296 by omega)
        have h3 := cnt7_len_le (show P2.length < 4294967296 by omega)
        have h4 := cnt7_len_le (show P3.length < 4294967296 by rw [HP3.out]; simp)
        have h5 : P3.length = 0 := by rw [HP3.out]; rfl
        simp [secI_len] <;> omega)
      have HNX := Lib.hid (show [69, 70, 73, 71, 2] ++ ([secI 72 P0, secI 79 P1, secI 82 P2, secI 90 P3].take (3 + 1)).flatten = ([69, 70, 73, 71, 2] ++ ([secI 72 P0, secI 79 P1, secI 82 P2, secI 90 P3].take 3).flatten) ++ secI 90 P3 by simp)
      have hpl : P3.length ≤ 6291456 := by rw [HP3.out]; simp
      have hp8 : ∀ x ∈ P3, x < 256 := (fun x hx => by rw [HP3.out] at hx; cases hx)
      have HG := Lib.hid (HZR.out _ HCR.out.base)
      generalize ([secI 72 P0, secI 79 P1, secI 82 P2, secI 90 P3].take 3).flatten = pre at *
      generalize hpost : ([secI 72 P0, secI 79 P1, secI 82 P2, secI 90 P3].take (3 + 1)).flatten = post at *
      have HPS := Lib.hid hpost
      clear hpost
      clear HHD HOB HRT HZR HPO HE
      simp only [List.getD_eq_getElem?_getD, List.getElem?_toArray, List.getElem?_cons_zero, List.getElem?_cons_succ, Option.getD_some] at hcf
      go_wp2_with fail
      refine HG.out.mono ?_
      rintro e w5 ⟨v5, rfl, hown5, hb5⟩
      have HFB5 := Lib.hid (HFB.out.below hb5 HFB.out.lt)
      obtain ⟨A5, c5, rfl, hr5⟩ := own_sliceI hown5
      have HNE := Lib.hid (HCR.out.apart hown5 A5 c5 rfl)
      have HC5 := Lib.hid (HCR.out.below hb5)
      have HS0 := Lib.hid (BytesB.refl HC5.out.own)
      have HR5 := Lib.hid hr5
      have hB5 : B9 ≤ w5.heap.size := HC5.out.top
      clear hown5 hb5 hr5 HG hcf HCR HFB
      have HCN := Lib.hid (cnt7_len_le (show P3.length < 4294967296 by omega))
      have h8 : ∀ x ∈ 90 :: P3, x < 256 := fun x hx => by rcases List.mem_cons.1 hx with rfl | hx; decide; exact hp8 x hx
      obtain ⟨hs1, hs2⟩ := sumN_eq h8
      have HSM := Lib.hid (fun (A' : Option Addr) (c' : Nat) (w' : World) (hr' : Reads w' w'.heap.size 1 A' (P3.length + 1) (u8c (90 :: P3))) => sum_any A' (P3.length + 1) c' w'.heap.size (90 :: P3) w' (by omega) hr' h8)
      rw [hs1] at HSM
      have hwn : IntKind.u32.wrap (P3.length : Int) = (P3.length : Int) := by show (P3.length : Int) % 4294967296 = _; omega
      clear h8 hp8 hs1
      go_wp2_with (at_builtin; refine wpList_app_BB (.tmp 33) (.tmp 36) HS0.out ((Below.refl _ _).alloc (Nat.le_refl _) _) hB5 (reads_one w5 90) rfl rfl (by have := HBS.out; simp; omega) rfl rfl ?_; intro v6 w6 S6; have HS6 := Lib.hid S6; clear S6 HS0)
      refine (inumber_any P3.length (by omega) _).mono ?_
      rintro e w7 ⟨v7, rfl, hown7, hb7⟩
      obtain ⟨A7, c7, rfl, hr7⟩ := own_sliceI hown7
      have HR7 := Lib.hid hr7
      have HB7 := Lib.hid hb7
      clear hown7 hr7 hb7
      go_wp2_with (first | (at_builtin; refine wpList_app_BB (.tmp 38) (.tmp 42) HS6.out HB7.out hB5 HR7.out rfl rfl (by have := HBS.out; have := HCN.out; simp; omega) rfl rfl ?_; intro v8 w8 S8; have HS8 := Lib.hid S8; have HR8 := Lib.hid (S8.reads HR5.out HNE.out); clear S8 HS6 HR7) | (at_builtin; refine wpList_app_BB (.tmp 44) (.tmp 45) HS8.out (Below.refl _ _) hB5 HR8.out rfl rfl (by have := HBS.out; have := HCN.out; simp; omega) rfl rfl ?_; intro v9 w9 S9; have HS9 := Lib.hid S9; have HR9 := Lib.hid (S9.reads HR5.out HNE.out); clear S9 HS8 HR8) | (at_builtin; refine wpList_app_RB (.tmp 50) (.tmp 51) (RB.one w9 90) ((HR9.out.below ((Below.refl _ _).alloc (Nat.le_refl _) (.cells #[.int .u8 (90 : Int)] 5))).more (by simp)) rfl rfl (by simp; omega) rfl rfl ?_; intro v10 w10 C10 hg10; clear hg10; have HC10 := Lib.hid C10; clear C10))
      obtain ⟨A10, c10, rfl, hr10⟩ := HC10.out.reads
      have hr11 : Reads w10 w10.heap.size 1 A10 (P3.length + 1) (u8c (90 :: P3)) := by
        simp only [List.length_append, List.length_cons, List.length_nil] at hr10
        rw [Nat.add_comm] at hr10
        exact hr10
      have HM := Lib.hid (HSM.out A10 c10 w10 hr11)
      have HBW := Lib.hid HC10.out.base
      have e4 : ([90] ++ P3).length = P3.length + 1 := by rw [List.length_append]; simp; omega
      rw [e4]
      clear hr10 hr11 HC10 HSM e4
      refine HM.out.mono ?_
      rintro e w11 ⟨rfl, rfl⟩
      have HS11 := Lib.hid (HS9.out.below HBW.out)
      clear HS9 HM HBW
      go_wp2_with fail
      refine (HP4.out _ (sumN (90 :: P3)) hs2).mono ?_
      rintro e w12 ⟨v12, rfl, hown12, hb12⟩
      obtain ⟨A12, c12, rfl, hr12⟩ := own_sliceI hown12
      have HR12 := Lib.hid hr12
      have HB12 := Lib.hid hb12
      clear hown12 hr12 hb12
      go_wp2_with (at_builtin; refine wpList_app_BB (.tmp 47) (.tmp 54) HS11.out HB12.out hB5 HR12.out rfl rfl (by have := HBS.out; have := HCN.out; simp [four4_len]; omega) rfl rfl ?_; intro v13 w13 S13; have HS13 := Lib.hid S13; clear S13 HS11 HR12)
      have HFB13 := Lib.hid (HS13.out.blk HFB5.out (own_blkI HC5.out.own HFB5.out (by decide)))
      obtain ⟨v14, hv14, HC14⟩ := HC5.out.bytes HS13.out
      injection hv14 with hv14
      subst hv14
      have hsec : [] ++ [90] ++ cnt7 P3.length ++ P3 ++ four4 (sumN (90 :: P3)) = secI 90 P3 := by unfold secI; simp
      rw [hsec, ← HNX.out] at HC14
      have HC15 := Lib.hid HC14
      clear HC14 HS13 HC5 HFB5 hsec
      go_roundw
      case rel => exact ⟨3 + 1, by go_num, by omega, by rw [HPS.out]; exact HC15.out, HFB13.out⟩
      case measure => simp [intOf]
    · have hcw := HCR.out
      rw [show ([69, 70, 73, 71, 2] ++ ([secI 72 P0, secI 79 P1, secI 82 P2, secI 90 P3].take 4).flatten) = NI by rw [HE.out]; simp] at hcw
      have HCW := Lib.hid hcw
      clear hcw HCR
      go_wp2_with fail
      go_ret2
      exact ⟨_, rfl, own_lessI HCW.out.own (Nat.le_trans HB1.out.size hB91), below_top HB1.out HCW.out.base⟩
end Go.Proofs.YtfpleoblehfhbaaDoor
