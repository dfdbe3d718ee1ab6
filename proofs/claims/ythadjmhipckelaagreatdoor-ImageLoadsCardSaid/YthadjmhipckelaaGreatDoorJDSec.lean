import Derived.Test.YthadjmhipckelaaGreatDoorJIObjS
import Derived.Test.YthadjmhipckelaaGreatDoorJIEq
set_option linter.unusedVariables false
set_option linter.unusedSimpArgs false
namespace Go.Proofs.YthadjmhipckelaaGreatDoor
section
open Go.RowKit
attribute [local go_sem] Oper.semAt_some
theorem RdD.skip {w : World} {L rg c : Nat} {A : Option Addr} {bs : List Nat} {bad : Bool} (R : RdD w L rg A c bs bad) {k : Nat} (hk : k ≤ bs.length) : RdD (w.setCell ⟨rg, 0, none⟩ (.slice (tailA A c k) (bs.length - k) (c - k))) L rg (tailA A c k) (c - k) (bs.drop k) bad := by
 have hl : (bs.drop k).length = bs.length - k := List.length_drop ..
 refine ⟨by rw [hl]; exact R.box.set_ 0 _, by rw [hl]; have := R.cap; omega, ?_, R.far, fun x hx => R.b8 x (List.mem_of_mem_drop hx)⟩
 rw [hl]
 exact (reads_rest R.rd R.cap hk).below (Below.setCell (Below.refl _ _) (p := ⟨rg, 0, none⟩) R.far _)
theorem rdW_some {bs : List Nat} (h : 4 ≤ bs.length) : ∃ v t, rdW bs = some (v, t) := by
 match bs, h with
 | a :: b :: c :: d :: t, _ => exact ⟨_, _, rfl⟩
theorem word_four {bs t : List Nat} {v : Nat} (h : rdW bs = some (v, t)) (h8 : ∀ x ∈ bs, x < 256) {s : Nat} (hs : s < 4294967296) : (v = s ↔ bs.take 4 = four4 s) ∧ t = bs.drop 4 := by
 match bs, h, h8 with
 | a :: b :: c :: d :: r, h, h8 =>
   injection h with h
   injection h with h1 h2
   have ha := h8 a (by simp)
   have hb := h8 b (by simp)
   have hc := h8 c (by simp)
   have hd := h8 d (by simp)
   refine ⟨?_, h2.symm⟩
   unfold four4
   simp only [List.take_succ_cons, List.take_zero, List.cons.injEq, and_true]
   omega
structure SecSd (L : Nat) (W0 wr : World) (rg : Nat) (v : Value) (vs : List Value) (ps : List (List Nat)) (A : Option Addr) (c : Nat) (bs : List Nat) : Prop where
 rd : RdD wr L rg A c bs false
 fr : Fr1 rg W0 wr
 own : wr.ownsRow W0.heap.size 22 1 v ps.length vs
 pay : PayV wr L vs ps
 lt : rg < W0.heap.size
section
variable {L rg c c' : Nat} {W0 wr w' : World} {v v' : Value} {vs : List Value} {ps : List (List Nat)} {A A' : Option Addr} {bs bs' : List Nat}
theorem SecSd.read (S : SecSd L W0 wr rg v vs ps A c bs) (R : RdD w' L rg A' c' bs' false) (F : Fr1 rg wr w') : SecSd L W0 w' rg v vs ps A' c' bs' :=
 ⟨R, S.fr.trans F, own_sameI S.own (fun k hk => F.same k (S.own.lt k hk).2 (fun e => by have := (S.own.lt k hk).1; have := S.lt; omega)), S.pay.below (F.below S.rd.far (by have := S.lt; have := S.fr.size; have := S.rd.far; omega)), S.lt⟩
theorem SecSd.below (S : SecSd L W0 wr rg v vs ps A c bs) (h : Below wr.heap.size wr w') : SecSd L W0 w' rg v vs ps A c bs := S.read (S.rd.below h) (Fr1.of_below h)
theorem SecSd.app {p : List Nat} {Ap : Option Addr} {cp : Nat} (S : SecSd L W0 wr rg v vs ps A c bs) (hc : p.length ≤ cp) (hr : Reads wr L 1 Ap p.length (u8c p)) (h8 : ∀ x ∈ p, x < 256)
 (ho : w'.ownsRow W0.heap.size 22 1 v' (ps.length + 1) (vs ++ [.slice Ap p.length cp])) (hg : wr.grownBy w' v.ownBlock) : SecSd L W0 w' rg v' (vs ++ [.slice Ap p.length cp]) (ps ++ [p]) A c bs := by
 have hsame : ∀ k, k < W0.heap.size → w'.heap[k]? = wr.heap[k]? := fun k hk => hg.block k (Nat.lt_of_lt_of_le hk S.fr.size) (fun e => by have := (S.own.lt k (by first | exact e | exact e.symm)).1; omega)
 have hb : Below L wr w' := ⟨hg.os, hg.tape, hg.output, hg.size, fun k hk => hsame k (by have := S.rd.far; have := S.lt; omega)⟩
 refine ⟨⟨S.rd.box.same (hsame rg S.lt), S.rd.cap, S.rd.rd.below hb, S.rd.far, S.rd.b8⟩, ⟨hg.os.trans S.fr.os, hg.tape.trans S.fr.tape, hg.output.trans S.fr.output, Nat.le_trans S.fr.size hg.size, fun k hk hne => (hsame k hk).trans (S.fr.same k hk hne)⟩, by rw [List.length_append]; exact ho, (S.pay.snoc hc hr h8).below hb, S.lt⟩
end
set_option maxRecDepth 100000 in
set_option maxHeartbeats 8000000 in
theorem sectionsD_any {w : World} {A : Option Addr} {n c : Nat} {bs : List Nat} (hr : Reads w w.heap.size 1 A n (u8c bs)) (hc : n ≤ c) (hn : n ≤ 9000000) (h8 : ∀ x ∈ bs, x < 256) :
 Calls Tryz.prog 50 #[.slice A n c] w (SecP w.heap.size bs w) := by
 have hbl : bs.length = n := by have := hr.1; rw [u8c_len] at this; omega
 subst hbl
 have HR := Lib.hid hr
 clear hr
 go_enter Tryz.func50, Tryz.ntmps50
 have hB0 : Below w.heap.size w ((w.alloc (.cells #[.slice A bs.length c, .bool false] 96)).alloc (.cells #[.int .u8 72, .int .u8 79, .int .u8 82, .int .u8 90] 5)) := ((Below.refl _ w).alloc (Nat.le_refl _) _).alloc (by simp) _
 have hS0 : SecSd w.heap.size ((w.alloc (.cells #[.slice A bs.length c, .bool false] 96)).alloc (.cells #[.int .u8 72, .int .u8 79, .int .u8 82, .int .u8 90] 5)) ((w.alloc (.cells #[.slice A bs.length c, .bool false] 96)).alloc (.cells #[.int .u8 72, .int .u8 79, .int .u8 82, .int .u8 90] 5)) w.heap.size (.slice none 0 0) [] [] A c bs :=
  ⟨⟨(Blk.new w _ _).alloc _, hc, HR.out.below hB0, Nat.le_refl _, h8⟩, Fr1.refl _ _, ⟨rfl, .inl ⟨rfl, rfl⟩⟩, PayV.nil _ _, by simp; omega⟩
 have hT : ∀ k t, [72, 79, 82, 90][k]? = some t → ((w.alloc (.cells #[.slice A bs.length c, .bool false] 96)).alloc (.cells #[.int .u8 72, .int .u8 79, .int .u8 82, .int .u8 90] 5)).cell? ⟨w.heap.size + 1, k, none⟩ = some (.int .u8 (t : Nat)) := fun k t ht => by
  have h1 := heap_alloc_new (w.alloc (.cells #[.slice A bs.length c, .bool false] 96)) (.cells #[.int .u8 72, .int .u8 79, .int .u8 82, .int .u8 90] 5)
  rw [World.size_alloc] at h1
  refine (cell_of_row _ (w.heap.size + 1) k _ 5 (0, 0) h1).trans ?_
  match k, ht with
  | 0, ht => injection ht with ht; subst ht; rfl
  | 1, ht => injection ht with ht; subst ht; rfl
  | 2, ht => injection ht with ht; subst ht; rfl
  | 3, ht => injection ht with ht; subst ht; rfl
 have hsz : ((w.alloc (.cells #[.slice A bs.length c, .bool false] 96)).alloc (.cells #[.int .u8 72, .int .u8 79, .int .u8 82, .int .u8 90] 5)).heap.size = w.heap.size + 2 := by simp
 go_wp2_with fail
 generalize ((w.alloc (.cells #[.slice A bs.length c, .bool false] 96)).alloc (.cells #[.int .u8 72, .int .u8 79, .int .u8 82, .int .u8 90] 5)) = W0 at *
 have HT := Lib.hid (fun (wr : World) (h : Fr1 w.heap.size W0 wr) (k t : Nat) (ht : [72, 79, 82, 90][k]? = some t) => (World.cell?_of_block (h.same (w.heap.size + 1) (by omega) (by omega))).trans (hT k t ht))
 have HS0 := Lib.hid hS0
 have HB0 := Lib.hid hB0
 clear hT hS0 hB0 HR
 go_loopw [5, 16] (fun v i wr => ∃ (k : Nat) (vs : List Value) (ps : List (List Nat)) (A' : Option Addr) (c' : Nat) (bs' : List Nat), i = .int .i64 k ∧ k ≤ 4 ∧ SecSd w.heap.size W0 wr w.heap.size v vs ps A' c' bs' ∧ SecGo bs k ps bs' ∧ bs'.length ≤ bs.length) (fun _ i _ => 4 - (intOf i).toNat)
 case atStart => exact ⟨0, [], [], A, c, bs, rfl, by omega, HS0.out, SecGo.start bs, Nat.le_refl _⟩
 case round =>
  clear HS0
  obtain ⟨k, vs, ps, A', c', bs', rfl, hk, S, G, hlen⟩ := hrel
  have HS := Lib.hid S
  have HG := Lib.hid G
  have HFN := Lib.hid (fun (w' : World) (h : Fr1 w.heap.size W0 w') => show Below w.heap.size w w' from ⟨h.os.trans HB0.out.os, h.tape.trans HB0.out.tape, h.output.trans HB0.out.output, Nat.le_trans HB0.out.size h.size, fun k hk => (h.same k (by omega) (by omega)).trans (HB0.out.block k hk)⟩)
  by_cases hk4 : k < 4
  ·obtain ⟨t, ht⟩ : ∃ t, [72, 79, 82, 90][k]? = some t := ⟨_, List.getElem?_eq_getElem (by simpa using hk4)⟩
   have hd : decide ((k : Int) < 4) = true := by simp; omega
   have htc := HT.out _ S.fr k t ht
   have htb : t < 256 := by
    have := List.mem_of_getElem? ht
    simp at this
    omega
   have c0 := S.rd.box.cell 0
   have HTT := Lib.hid ht
   have HE := Lib.hid (fun (w' : World) (h : Fr1 w.heap.size W0 w') (E : Nat) (he : rdSec t bs' = .error E) => show SecP w.heap.size bs w (.returned (.tuple #[.slice none 0 0, .int .i64 (E : Nat)])) w' from ⟨HFN.out _ h, by rw [G.fail ht he]⟩)
   clear ht S G
   match hbs : bs' with
   | [] =>
     have hF := HE.out _ HS.out.fr 143 rfl
     have HF := Lib.hid hF
     clear hF HE HS HG HTT
     go_wp2_with fail
     go_ret2
     exact HF.out
   | x :: b1 =>
     have HBY := Lib.hid (rbyteD_any HS.out.rd (by omega))
     have hlb : b1.length + 1 ≤ bs.length := by simpa using hlen
     go_wp2_with fail
     refine HBY.out.mono ?_
     rintro e w5 ⟨x5, A5, c5, bs5, bad5, rfl, hx5, R5, F5, D5, -⟩
     obtain rfl : bad5 = false := D5.2 rfl ⟨_, rfl⟩
     obtain ⟨_, hq⟩ := D5.1 rfl
     injection hq with hq
     injection hq with hq1 hq2
     subst hq1 hq2
     have HS5 := Lib.hid (HS.out.read R5 F5)
     clear HBY D5 HS htc c0 R5 F5
     by_cases hxt : x = t
     ·subst hxt
      have hne : ((x : Int) != (x : Int)) = false := by simp
      have HNU := Lib.hid (rnumberD_any HS5.out.rd (by omega))
      go_wp2_with fail
      refine HNU.out.mono ?_
      rintro e w6 ⟨n6, A6, c6, bs6, bad6, rfl, hn6, R6, F6, D6, d6, hd6⟩
      have k1 := R6.box.cell 1
      have hlb6 : bs6.length ≤ b1.length := by rw [hd6, List.length_append]; omega
      clear HNU hd6
      cases bad6 with
      | true =>
        have hno : rdNum b1 = none := by
         cases hh : rdNum b1 with
         | none => rfl
         | some q => have := D6.2 rfl ⟨q, hh⟩; cases this
        have HF := Lib.hid (HE.out _ (HS5.out.fr.trans F6) 143 (by unfold rdSec; simp [hno]))
        clear HE HS5 HG HTT R6 F6 D6 hno
        go_wp2_with fail
        go_ret2
        exact HF.out
      | false =>
        obtain ⟨_, hnum⟩ := D6.1 rfl
        have HS6 := Lib.hid (HS5.out.read R6 F6)
        have HNM := Lib.hid hnum
        have k0 := R6.box.cell 0
        clear HS5 R6 F6 D6 hnum
        have hw1 : IntKind.u64.wrap (bs6.length : Int) = (bs6.length : Int) := by show (bs6.length : Int) % 18446744073709551616 = _; omega
        by_cases hshort : bs6.length < n6 + 4
        ·have hds : decide ((bs6.length : Int) < (n6 : Int) + 4) = true := by simp; omega
         have HF := Lib.hid (HE.out _ HS6.out.fr 143 (by unfold rdSec; simp only [ne_eq, not_true_eq_false, if_false, HNM.out]; rw [if_pos hshort]))
         clear HE HS6 HG HTT HNM
         go_wp2_with fail
         go_ret2
         exact HF.out
        ·have hds : decide ((bs6.length : Int) < (n6 : Int) + 4) = false := by simp; omega
         have hcap6 := HS6.out.rd.cap
         have hl7 : (bs6.drop n6).length = bs6.length - n6 := by simp
         have hlp : (bs6.take n6).length = n6 := by simp; omega
         have z0 := HS6.out.rd.box.frozen 0
         have hsr := fun w => slice_rest w A6 bs6.length c6 n6 (by omega)
         have hsh := fun w => slice_head w A6 bs6.length c6 n6 (by omega)
         have HS7 := Lib.hid (show SecSd w.heap.size W0 (w6.setCell ⟨w.heap.size, 0, none⟩ (.slice (tailA A6 c6 n6) (bs6.length - n6) (c6 - n6))) w.heap.size u5 vs ps (tailA A6 c6 n6) (c6 - n6) (bs6.drop n6) from HS6.out.read (HS6.out.rd.skip (by omega)) (Fr1.set _ _ _ _))
         have HP7 := Lib.hid ((reads_head (k := n6) (c := c6) HS6.out.rd.rd (by omega)).below (Below.setCell (Below.refl _ _) (p := ⟨w.heap.size, 0, none⟩) (Nat.le_refl _) (.slice (tailA A6 c6 n6) (bs6.length - n6) (c6 - n6))))
         have HP8 := Lib.hid (fun x (hx : x ∈ bs6.take n6) => HS6.out.rd.b8 x (List.mem_of_mem_take hx))
         have HDR := Lib.hid (show rdSec x (x :: b1) = if (bs6.drop n6).take 4 = four4 (sumN (x :: bs6.take n6)) then .ok (bs6.take n6, bs6.drop (n6 + 4)) else .error 144 by
          unfold rdSec; simp only [ne_eq, not_true_eq_false, if_false, HNM.out]; rw [if_neg hshort])
         have HDD := Lib.hid (show (bs6.drop n6).drop 4 = bs6.drop (n6 + 4) by rw [List.drop_drop])
         have hnl0 : bs6.length ≤ bs.length := by omega
         clear HS6 HNM hlb6
         go_upto_region 15 with fail
         have hw7 : w.heap.size ≤ (w6.setCell ⟨w.heap.size, 0, none⟩ (.slice (tailA A6 c6 n6) (bs6.length - n6) (c6 - n6))).heap.size := by have := HS7.out.rd.box.lt; omega
         have hw7s := HS7.out.rd.box.lt
         generalize w6.setCell ⟨w.heap.size, 0, none⟩ (.slice (tailA A6 c6 n6) (bs6.length - n6) (c6 - n6)) = w7 at *
         clear k0 k1 z0 hsr hsh
         have h8p : ∀ y ∈ x :: bs6.take n6, y < 256 := fun y hy => by rcases List.mem_cons.1 hy with rfl | hy; exact hx5; exact HP8.out y hy
         obtain ⟨hs1, hs2⟩ := sumN_eq h8p
         have HPL := Lib.hid hlp
         have HH8 := Lib.hid h8p
         have HS1 := Lib.hid hs1
         have HB8 := Lib.hid (fun x (hx : x ∈ bs6.drop n6) => HS7.out.rd.b8 x hx)
         clear h8p hs1 hlp
         generalize hpg : bs6.take n6 = pp at *
         generalize hqg : bs6.drop n6 = qq at *
         clear hpg hqg
         obtain ⟨j0, hj0, hy0, hy1, hy2⟩ := info_parts info_u8
         have hnl : (bs6.length : Nat) ≤ 9000000 := by omega
         go_upto_region 17 with (at_builtin; refine wpList_append_any _ rfl (.tmp 62) (.tmp 64) _ rfl w7.heap.size 5 j0 _ 1 1 Tryz.underlying22 hj0 hy0 hy1 hy2 rfl (by omega) (.slice none 0 0) 0 [] rfl ⟨rfl, .inl ⟨rfl, rfl⟩⟩ (w7.heap.size + 1) (some ⟨w7.heap.size, 0, none⟩) 1 1 (u8c [x]) rfl ⟨rfl, fun _ => ⟨_, rfl, by simp, cell_one_new _ _ _⟩⟩ (one_u8c _) (by simp only [maxLen]; omega) (by omega) (by simp) ?_; intro v8 w8 hown8 hg8 hat8; have hb8 := below_grown (Nat.le_refl _) ((Below.refl w7.heap.size w7).alloc (Nat.le_refl _) (.cells #[.int .u8 (x : Int)] 5)) hg8 (fun q hq => by cases hq); clear hg8 hat8)
         have HO8 := Lib.hid (show w8.ownsRow w7.heap.size 5 1 v8 1 (u8c [x]) from hown8)
         have HB78 := Lib.hid hb8
         have HPB := Lib.hid (HP7.out.below (hb8.mono hw7))
         have HW8 := Lib.hid (show w7.heap.size ≤ w8.heap.size from hb8.size)
         have hw78 := hb8.size
         clear hown8 hb8 HP7
         go_upto_region 18 with (at_builtin; refine wpList_append_any _ rfl (.tmp 66) (.tmp 67) _ rfl w7.heap.size 5 j0 _ 1 1 Tryz.underlying22 hj0 hy0 hy1 hy2 rfl (by omega) v8 1 (u8c [x]) rfl HO8.out w.heap.size (tailA A6 c6 0) n6 c6 (u8c pp) rfl HPB.out (one_u8c _) (by simp only [maxLen]; omega) (by omega) (by omega) ?_; intro v9 w9 hown9 hg9 hat9; have hb9 := below_grown (B := w7.heap.size) hw78 (Below.refl w7.heap.size w8 |>.mono (Nat.le_refl _)) hg9 (fun q hq => (HO8.out.lt q hq).1); clear hat9)
         have hql : qq.length = bs6.length - n6 := hl7
         have HB9 := Lib.hid hb9
         have HO9 := Lib.hid (show w9.ownsRow w7.heap.size 5 1 v9 (1 + n6) (u8c (x :: pp)) from hown9)
         have HS9 := Lib.hid (HS7.out.below (HB78.out.trans hb9))
         have HP9 := Lib.hid (HPB.out.below (hb9.mono hw7))
         have hw79 : w7.heap.size ≤ w9.heap.size := Nat.le_trans hw78 hb9.size
         clear hown9 hg9 hb9 HO8 HS7 HB78 HPB HW8 HB9
         have HWD := Lib.hid (rwordD_any HS9.out.rd (by omega))
         go_wp2_with fail
         refine HWD.out.mono ?_
         rintro e w10 ⟨v10, A10, c10, bs10, bad10, rfl, hv10, R10, F10, D10, e10, he10⟩
         have hsome := rdW_some (bs := qq) (by omega)
         obtain rfl : bad10 = false := D10.2 rfl (by obtain ⟨a, b, h⟩ := hsome; exact ⟨_, h⟩)
         obtain ⟨hwf, hbs10⟩ := word_four (D10.1 rfl).2 HB8.out hs2
         have HWF := Lib.hid hwf
         have HBS := Lib.hid hbs10
         have HS10 := Lib.hid (HS9.out.read R10 F10)
         have HP10 := Lib.hid (HP9.out.below (F10.below HS9.out.rd.far (by have := HS9.out.rd.box.lt; omega)))
         have HO10 := Lib.hid (own_sameI HO9.out (fun q hq => F10.same q (HO9.out.lt q hq).2 (by have := (HO9.out.lt q hq).1; omega)))
         have hw710 : w7.heap.size ≤ w10.heap.size := Nat.le_trans hw79 F10.size
         clear hsome hwf hbs10 R10 F10 D10 HWD HS9 HP9 HO9 he10 e10
         obtain ⟨A9, c9, rfl, hr9⟩ := own_sliceI HO10.out
         have hsm := refSum_any A9 (1 + n6) c9 w10.heap.size (x :: pp) w10 (by omega) hr9 HH8.out
         rw [HS1.out] at hsm
         have HSM := Lib.hid hsm
         clear hr9 HO10 hsm HS1 HH8
         go_wp2_with fail
         refine HSM.out.mono ?_
         rintro e w11 ⟨rfl, rfl⟩
         clear HSM
         by_cases heq : v10 = sumN (x :: pp)
         ·have hne : ((v10 : Int) != (sumN (x :: pp) : Int)) = false := by simp; omega
          have hdr := HDR.out
          rw [if_pos (HWF.out.1 heq), ← HDD.out, ← HBS.out] at hdr
          have HNX := Lib.hid (HG.out.next HTT.out hdr)
          clear heq hdr HDR HE HG HTT HDD HWF
          have hpl := HPL.out
          obtain ⟨i0, hi0, hz0, hz1, hz2⟩ := info_parts info_sl8
          have hgk : ps.length = k := by have := HNX.out.2; simp at this; omega
          have h4c : w.heap.size ≤ w10.heap.size := by omega
          have HPA := Lib.hid (HP10.out.below ((Below.refl w10.heap.size w10).alloc (Nat.le_refl _) (.cells #[.slice (tailA A6 c6 0) n6 c6] 22) |>.mono h4c))
          have HSA := Lib.hid (HS10.out.below ((Below.refl _ _).alloc (Nat.le_refl _) (.cells #[.slice (tailA A6 c6 0) n6 c6] 22)))
          have hll : bs10.length ≤ bs.length := by rw [HBS.out, List.length_drop]; omega
          go_wp2_with (at_builtin; refine wpList_append_any _ rfl (.tmp 74) (.tmp 76) _ rfl W0.heap.size 22 i0 _ 1 24 Tryz.underlying97 hi0 hz0 hz1 hz2 rfl (by omega) u5 ps.length vs rfl HSA.out.own (w10.heap.size + 1) (some ⟨w10.heap.size, 0, none⟩) 1 1 [.slice (tailA A6 c6 0) n6 c6] rfl ⟨rfl, fun _ => ⟨_, rfl, by simp, cell_one_new _ _ _⟩⟩ (fun u hu => by rcases List.mem_singleton.1 hu with rfl; rfl) (by simp only [maxLen]; omega) (by omega) (by have := HS10.out.fr.size; simp; omega) ?_; intro v13 w13 hown13 hgrow13 hat13; have HS13 := Lib.hid (HSA.out.app (p := pp) (Ap := tailA A6 c6 0) (cp := c6) (by omega) (by rw [hpl]; exact HPA.out) HP8.out (by rw [hpl]; exact hown13) hgrow13); clear hown13 hgrow13 hat13)
          go_roundw
          case rel => exact ⟨k + 1, _, ps ++ [pp], _, _, bs10, by go_num, by omega, HS13.out, HNX.out, hll⟩
          case measure => simp [intOf]; omega
         ·have hne : ((v10 : Int) != (sumN (x :: pp) : Int)) = true := by simp; omega
          have HF := Lib.hid (HE.out _ HS10.out.fr 144 (by rw [HDR.out, if_neg (fun h => heq (HWF.out.2 h))]))
          clear HE HS10 HG HTT HDR HDD heq HWF
          go_wp2_with fail
          go_ret2
          exact HF.out
     ·have hne : ((x : Int) != (t : Int)) = true := by simp; omega
      have HF := Lib.hid (HE.out _ HS5.out.fr 142 (by unfold rdSec; simp [hxt]))
      clear HE HS5 HG HTT
      go_wp2_with fail
      go_ret2
      exact HF.out
  ·obtain rfl : k = 4 := by omega
   have hd : decide ((4 : Int) < 4) = false := by decide
   have c0 := S.rd.box.cell 0
   have hps := G.2
   have hg := G.1
   have hdn : rdSecs ([72, 79, 82, 90].drop 4) bs' = .ok ([], bs') := rfl
   rw [hdn] at hg
   simp only [List.append_nil] at hg
   have HGG := Lib.hid hg
   clear hg G HG HS hdn hk hk4
   by_cases h0 : bs'.length = 0
   ·have hd0 : decide (0 < (bs'.length : Int)) = false := decide_eq_false (by omega)
    have hbn : bs' = [] := List.eq_nil_of_length_eq_zero h0
    have HF := Lib.hid (show SecP w.heap.size bs w (.returned (.tuple #[u5, .int .i64 0])) wr from ⟨HFN.out _ S.fr, by
     rw [HGG.out]
     simp only
     rw [if_pos hbn]
     exact ⟨u5, vs, rfl, by
      have ho := S.own
      rw [hps] at ho
      refine ⟨ho.1, ?_⟩
      rcases ho.2 with h1 | ⟨g, cap, cur, h1, h2, h3⟩
      ·exact .inl h1
      ·exact .inr ⟨g, cap, cur, h1, Nat.le_trans HB0.out.size h2, h3⟩, S.pay, hps⟩⟩)
    clear HGG S hbn
    go_wp2_with fail
    go_ret2
    exact HF.out
   ·have hd0 : decide (0 < (bs'.length : Int)) = true := decide_eq_true (by omega)
    have hbn : bs' ≠ [] := fun e => h0 (by rw [e]; rfl)
    have HF := Lib.hid (show SecP w.heap.size bs w (.returned (.tuple #[.slice none 0 0, .int .i64 143])) wr from ⟨HFN.out _ S.fr, by
     rw [HGG.out]
     simp only
     rw [if_neg hbn]
     trivial⟩)
    clear HGG S hbn
    go_wp2_with fail
    go_ret2
    exact HF.out
end
end Go.Proofs.YthadjmhipckelaaGreatDoor
