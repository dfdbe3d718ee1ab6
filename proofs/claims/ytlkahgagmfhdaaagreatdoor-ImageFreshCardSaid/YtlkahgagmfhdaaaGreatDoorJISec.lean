import Derived.Test.YtlkahgagmfhdaaaGreatDoorJIHead
import Derived.Test.YtlkahgagmfhdaaaGreatDoorJLook
import Derived.Test.YtlkahgagmfhdaaaGreatDoorJAll
import Derived.Test.YtlkahgagmfhdaaaGreatDoorJLive
import Derived.Lib.SlBytesConst
set_option linter.unusedVariables false
set_option linter.unusedSimpArgs false
set_option linter.unusedSectionVars false
namespace Go.Proofs.YtlkahgagmfhdaaaGreatDoor
section
open Go.RowKit
attribute [local go_sem] Oper.semAt_some
theorem info_sl8 : (Tryz.prog.info? 22).map (fun i => (i.zero, i.size, i.bytes)) = some (some (Value.slice none 0 0), 1, 24) := by kernel_rfl
def PayV (w : World) (L : Nat) (vs : List Value) (ps : List (List Nat)) : Prop :=
 vs.length = ps.length ∧ ∀ (i : Nat) (p : List Nat), ps[i]? = some p → ∃ (A : Option Addr) (c : Nat), vs[i]? = some (Value.slice A p.length c) ∧ p.length ≤ c ∧ Reads w L 1 A p.length (u8c p) ∧ ∀ x ∈ p, x < 256
theorem PayV.nil (w : World) (L : Nat) : PayV w L [] [] := ⟨rfl, fun i p h => by simp at h⟩
theorem PayV.below {w w' : World} {L : Nat} {vs : List Value} {ps : List (List Nat)} (P : PayV w L vs ps) (h : Below L w w') : PayV w' L vs ps :=
 ⟨P.1, fun i p hp => by obtain ⟨A, c, h1, h2, h3, h4⟩ := P.2 i p hp; exact ⟨A, c, h1, h2, h3.below h, h4⟩⟩
theorem PayV.snoc {w : World} {L c : Nat} {A : Option Addr} {vs : List Value} {ps : List (List Nat)} {p : List Nat} (P : PayV w L vs ps) (hc : p.length ≤ c) (hr : Reads w L 1 A p.length (u8c p)) (h8 : ∀ x ∈ p, x < 256) : PayV w L (vs ++ [.slice A p.length c]) (ps ++ [p]) := by
 refine ⟨by simp [P.1], fun i q hq => ?_⟩
 rcases Nat.lt_or_ge i ps.length with h | h
 ·rw [List.getElem?_append_left h] at hq
  obtain ⟨A', c', h1, h2⟩ := P.2 i q hq
  exact ⟨A', c', by rw [List.getElem?_append_left (by rw [P.1]; exact h)]; exact h1, h2⟩
 ·rw [List.getElem?_append_right h] at hq
  have hi : i - ps.length = 0 := by
   rcases Nat.eq_zero_or_pos (i - ps.length) with h0 | h0
   ·exact h0
   ·rw [List.getElem?_eq_none (by simp; omega)] at hq; cases hq
  rw [hi] at hq
  simp at hq
  subst hq
  refine ⟨A, c, ?_, hc, hr, h8⟩
  rw [List.getElem?_append_right (by rw [P.1]; exact h), P.1, hi]
  rfl
def SecP (L : Nat) (bs : List Nat) (w : World) (e : Ending) (w' : World) : Prop :=
 Below w.heap.size w w' ∧ match rdSecs [72, 79, 82, 90] bs with
  | .error E => e = .returned (.tuple #[.slice none 0 0, .int .i64 (E : Nat)])
  | .ok (ps, r) => if r = [] then ∃ v vs, e = .returned (.tuple #[v, .int .i64 0]) ∧ w'.ownsRow w.heap.size 22 1 v 4 vs ∧ PayV w' L vs ps ∧ ps.length = 4 else e = .returned (.tuple #[.slice none 0 0, .int .i64 143])
def SecGo (bs : List Nat) (k : Nat) (ps : List (List Nat)) (r : List Nat) : Prop :=
 rdSecs [72, 79, 82, 90] bs = (match rdSecs ([72, 79, 82, 90].drop k) r with
  | .error e => .error e
  | .ok (ps2, r') => .ok (ps ++ ps2, r')) ∧ ps.length = k
theorem SecGo.start (bs : List Nat) : SecGo bs 0 [] bs := by
 refine ⟨?_, rfl⟩
 cases h : rdSecs [72, 79, 82, 90] bs with
 | error e => simp [h]
 | ok p => simp [h]
theorem SecGo.fail {bs r : List Nat} {k t E : Nat} {ps : List (List Nat)} (S : SecGo bs k ps r) (ht : [72, 79, 82, 90][k]? = some t) (h : rdSec t r = .error E) : rdSecs [72, 79, 82, 90] bs = .error E := by
 obtain ⟨h1, _⟩ := S
 have hk : k < 4 := by
  rcases Nat.lt_or_ge k 4 with h | h
  ·exact h
  ·rw [List.getElem?_eq_none (by simpa using h)] at ht; cases ht
 have e : [72, 79, 82, 90].drop k = t :: [72, 79, 82, 90].drop (k + 1) := by
  rw [List.getElem?_eq_getElem (by simpa using hk)] at ht
  injection ht with ht
  rw [← ht, List.getElem_cons_drop]
 rw [h1, e]
 unfold rdSecs
 rw [h]
theorem SecGo.next {bs r r' p : List Nat} {k t : Nat} {ps : List (List Nat)} (S : SecGo bs k ps r) (ht : [72, 79, 82, 90][k]? = some t) (h : rdSec t r = .ok (p, r')) : SecGo bs (k + 1) (ps ++ [p]) r' := by
 obtain ⟨h1, h2⟩ := S
 have hk : k < 4 := by
  rcases Nat.lt_or_ge k 4 with h | h
  ·exact h
  ·rw [List.getElem?_eq_none (by simpa using h)] at ht; cases ht
 have e : [72, 79, 82, 90].drop k = t :: [72, 79, 82, 90].drop (k + 1) := by
  rw [List.getElem?_eq_getElem (by simpa using hk)] at ht
  injection ht with ht
  rw [← ht, List.getElem_cons_drop]
 refine ⟨?_, by simp [h2]⟩
 rw [h1, e]
 conv => lhs; unfold rdSecs
 rw [h]
 simp only
 cases rdSecs ([72, 79, 82, 90].drop (k + 1)) r' with
 | error e => rfl
 | ok q => simp
structure SecSt (L : Nat) (W0 wr : World) (rg : Nat) (v : Value) (vs : List Value) (ps : List (List Nat)) (A : Option Addr) (c : Nat) (bs : List Nat) : Prop where
 rd : RdAt wr L rg A c bs false
 fr : Fr1 rg W0 wr
 own : wr.ownsRow W0.heap.size 22 1 v ps.length vs
 pay : PayV wr L vs ps
 lt : rg < W0.heap.size
section
variable {L rg c c' : Nat} {W0 wr w' : World} {v v' : Value} {vs : List Value} {ps : List (List Nat)} {A A' : Option Addr} {bs bs' : List Nat}
theorem SecSt.read (S : SecSt L W0 wr rg v vs ps A c bs) (R : RdAt w' L rg A' c' bs' false) (F : Fr1 rg wr w') : SecSt L W0 w' rg v vs ps A' c' bs' :=
 ⟨R, S.fr.trans F, own_sameI S.own (fun k hk => F.same k (S.own.lt k hk).2 (fun e => by have := (S.own.lt k hk).1; have := S.lt; omega)), S.pay.below (F.below S.rd.far (by have := S.lt; have := S.fr.size; have := S.rd.far; omega)), S.lt⟩
theorem SecSt.below (S : SecSt L W0 wr rg v vs ps A c bs) (h : Below wr.heap.size wr w') : SecSt L W0 w' rg v vs ps A c bs := S.read (S.rd.below h) (Fr1.of_below h)
theorem SecSt.app {p : List Nat} {Ap : Option Addr} {cp : Nat} (S : SecSt L W0 wr rg v vs ps A c bs) (hc : p.length ≤ cp) (hr : Reads wr L 1 Ap p.length (u8c p)) (h8 : ∀ x ∈ p, x < 256)
 (ho : w'.ownsRow W0.heap.size 22 1 v' (ps.length + 1) (vs ++ [.slice Ap p.length cp])) (hg : wr.grownBy w' v.ownBlock) : SecSt L W0 w' rg v' (vs ++ [.slice Ap p.length cp]) (ps ++ [p]) A c bs := by
 have hsame : ∀ k, k < W0.heap.size → w'.heap[k]? = wr.heap[k]? := fun k hk => hg.block k (Nat.lt_of_lt_of_le hk S.fr.size) (fun e => by have := (S.own.lt k (by first | exact e | exact e.symm)).1; omega)
 have hb : Below L wr w' := ⟨hg.os, hg.tape, hg.output, hg.size, fun k hk => hsame k (by have := S.rd.far; have := S.lt; omega)⟩
 refine ⟨⟨S.rd.box.same (hsame rg S.lt), S.rd.cap, S.rd.rd.below hb, S.rd.far, S.rd.b8⟩, ⟨hg.os.trans S.fr.os, hg.tape.trans S.fr.tape, hg.output.trans S.fr.output, Nat.le_trans S.fr.size hg.size, fun k hk hne => (hsame k hk).trans (S.fr.same k hk hne)⟩, by rw [List.length_append]; exact ho, (S.pay.snoc hc hr h8).below hb, S.lt⟩
end
set_option maxRecDepth 100000 in
set_option maxHeartbeats 8000000 in
theorem sections_any {w : World} {A : Option Addr} {n c : Nat} {bs : List Nat} (hr : Reads w w.heap.size 1 A n (u8c bs)) (hc : n ≤ c) (hn : n ≤ 9000000) (h8 : ∀ x ∈ bs, x < 256) :
 Calls Tryz.prog 196 #[.slice A n c] w (SecP w.heap.size bs w) := by
 have hbl : bs.length = n := by have := hr.1; rw [u8c_len] at this; omega
 have kc := fun (w : World) (C : Array Value) (n c : Nat) => Lib.run_convert_bytes_const (P := Tryz.prog) w 22 5 C n c Tryz.underlying22 Tryz.underlying5
 subst hbl
 have HR := Lib.hid hr
 clear hr
 go_enter Tryz.func196, Tryz.ntmps196
 have kc1 := kc (w.alloc (.cells #[.slice A bs.length c, .bool false] 300)) #[.int .u8 72, .int .u8 79, .int .u8 82, .int .u8 90] 4 4
 rw [World.size_alloc] at kc1
 clear kc
 have hB0 : Below w.heap.size w ((w.alloc (.cells #[.slice A bs.length c, .bool false] 300)).alloc (.cells #[.int .u8 72, .int .u8 79, .int .u8 82, .int .u8 90] 5 (4, 5))) := ((Below.refl _ w).alloc (Nat.le_refl _) _).alloc (by simp) _
 have hS0 : SecSt w.heap.size ((w.alloc (.cells #[.slice A bs.length c, .bool false] 300)).alloc (.cells #[.int .u8 72, .int .u8 79, .int .u8 82, .int .u8 90] 5 (4, 5))) ((w.alloc (.cells #[.slice A bs.length c, .bool false] 300)).alloc (.cells #[.int .u8 72, .int .u8 79, .int .u8 82, .int .u8 90] 5 (4, 5))) w.heap.size (.slice none 0 0) [] [] A c bs :=
  ⟨⟨(Blk.new w _ _).alloc _, hc, HR.out.below hB0, Nat.le_refl _, h8⟩, Fr1.refl _ _, ⟨rfl, .inl ⟨rfl, rfl⟩⟩, PayV.nil _ _, by simp; omega⟩
 have hT : ∀ k t, [72, 79, 82, 90][k]? = some t → ((w.alloc (.cells #[.slice A bs.length c, .bool false] 300)).alloc (.cells #[.int .u8 72, .int .u8 79, .int .u8 82, .int .u8 90] 5 (4, 5))).cell? ⟨w.heap.size + 1, k, none⟩ = some (.int .u8 (t : Nat)) := fun k t ht => by
  have h1 := heap_alloc_new (w.alloc (.cells #[.slice A bs.length c, .bool false] 300)) (.cells #[.int .u8 72, .int .u8 79, .int .u8 82, .int .u8 90] 5 (4, 5))
  rw [World.size_alloc] at h1
  refine (cell_of_row _ (w.heap.size + 1) k _ 5 (4, 5) h1).trans ?_
  match k, ht with
  | 0, ht => injection ht with ht; subst ht; rfl
  | 1, ht => injection ht with ht; subst ht; rfl
  | 2, ht => injection ht with ht; subst ht; rfl
  | 3, ht => injection ht with ht; subst ht; rfl
 have hsz : ((w.alloc (.cells #[.slice A bs.length c, .bool false] 300)).alloc (.cells #[.int .u8 72, .int .u8 79, .int .u8 82, .int .u8 90] 5 (4, 5))).heap.size = w.heap.size + 2 := by simp
 go_wp2_with fail
 generalize ((w.alloc (.cells #[.slice A bs.length c, .bool false] 300)).alloc (.cells #[.int .u8 72, .int .u8 79, .int .u8 82, .int .u8 90] 5 (4, 5))) = W0 at *
 have HT := Lib.hid (fun (wr : World) (h : Fr1 w.heap.size W0 wr) (k t : Nat) (ht : [72, 79, 82, 90][k]? = some t) => (World.cell?_of_block (h.same (w.heap.size + 1) (by omega) (by omega))).trans (hT k t ht))
 have HS0 := Lib.hid hS0
 have HB0 := Lib.hid hB0
 clear hT kc1 hS0 hB0 HR
 go_loopw [5, 17] (fun v i wr => ∃ (k : Nat) (vs : List Value) (ps : List (List Nat)) (A' : Option Addr) (c' : Nat) (bs' : List Nat), i = .int .i64 k ∧ k ≤ 4 ∧ SecSt w.heap.size W0 wr w.heap.size v vs ps A' c' bs' ∧ SecGo bs k ps bs' ∧ bs'.length ≤ bs.length) (fun _ i _ => 4 - (intOf i).toNat)
 case atStart => exact ⟨0, [], [], A, c, bs, rfl, by omega, HS0.out, SecGo.start bs, Nat.le_refl _⟩
 case round =>
  clear HS0
  obtain ⟨k, vs, ps, A', c', bs', rfl, hk, S, G, hlen⟩ := hrel
  have HS := Lib.hid S
  have HG := Lib.hid G
  have HFN := Lib.hid (fun (w' : World) (h : Fr1 w.heap.size W0 w') => show Below w.heap.size w w' from ⟨h.os.trans HB0.out.os, h.tape.trans HB0.out.tape, h.output.trans HB0.out.output, Nat.le_trans HB0.out.size h.size, fun k hk => (h.same k (by omega) (by omega)).trans (HB0.out.block k hk)⟩)
  by_cases hk4 : k < 4
  ·obtain ⟨t, ht⟩ : ∃ t, [72, 79, 82, 90][k]? = some t := ⟨_, List.getElem?_eq_getElem (by simpa using hk4)⟩
   have hd : decide ((k : Int) < 4) = true := by simp; omega
   have htc := HT.out _ S.fr k t ht
   have htb : t < 256 := by
    have := List.mem_of_getElem? ht
    simp at this
    omega
   have c0 := S.rd.box.cell 0
   have HTT := Lib.hid ht
   have HE := Lib.hid (fun (w' : World) (h : Fr1 w.heap.size W0 w') (E : Nat) (he : rdSec t bs' = .error E) => show SecP w.heap.size bs w (.returned (.tuple #[.slice none 0 0, .int .i64 (E : Nat)])) w' from ⟨HFN.out _ h, by rw [G.fail ht he]⟩)
   clear ht S G
   match hbs : bs' with
   | [] =>
     have hF := HE.out _ HS.out.fr 143 rfl
     have HF := Lib.hid hF
     clear hF HE HS HG HTT
     go_wp2_with fail
     go_ret2
     exact HF.out
   | x :: b1 =>
     have HBY := Lib.hid (rbyteI_any HS.out.rd (by omega))
     have hlb : b1.length + 1 ≤ bs.length := by simpa using hlen
     go_wp2_with fail
     refine HBY.out.mono ?_
     rintro e w5 ⟨x5, A5, c5, bs5, bad5, rfl, hx5, R5, F5, D5, -⟩
     obtain rfl : bad5 = false := D5.2 rfl ⟨_, rfl⟩
     obtain ⟨_, hq⟩ := D5.1 rfl
     injection hq with hq
     injection hq with hq1 hq2
     subst hq1 hq2
     have HS5 := Lib.hid (HS.out.read R5 F5)
     clear HBY D5 HS htc c0 R5 F5
     by_cases hxt : x = t
     ·subst hxt
      have hne : ((x : Int) != (x : Int)) = false := by simp
      have HNU := Lib.hid (rnumberI_any HS5.out.rd (by omega))
      go_wp2_with fail
      refine HNU.out.mono ?_
      rintro e w6 ⟨n6, A6, c6, bs6, bad6, rfl, hn6, R6, F6, D6, d6, hd6⟩
      have k1 := R6.box.cell 1
      have hlb6 : bs6.length ≤ b1.length := by rw [hd6, List.length_append]; omega
      clear HNU hd6
      cases bad6 with
      | true =>
        have hno : rdNum b1 = none := by
         cases hh : rdNum b1 with
         | none => rfl
         | some q => have := D6.2 rfl ⟨q, hh⟩; cases this
        have HF := Lib.hid (HE.out _ (HS5.out.fr.trans F6) 143 (by unfold rdSec; simp [hno]))
        clear HE HS5 HG HTT R6 F6 D6 hno
        go_wp2_with fail
        go_ret2
        exact HF.out
      | false =>
        obtain ⟨_, hnum⟩ := D6.1 rfl
        have HS6 := Lib.hid (HS5.out.read R6 F6)
        have HNM := Lib.hid hnum
        have k0 := R6.box.cell 0
        clear HS5 R6 F6 D6 hnum
        have hw1 : IntKind.u64.wrap (bs6.length : Int) = (bs6.length : Int) := by show (bs6.length : Int) % 18446744073709551616 = _; omega
        by_cases hshort : bs6.length < n6 + 4
        ·have hds : decide ((bs6.length : Int) < (n6 : Int) + 4) = true := by simp; omega
         have HF := Lib.hid (HE.out _ HS6.out.fr 143 (by unfold rdSec; simp only [ne_eq, not_true_eq_false, if_false, HNM.out]; rw [if_pos hshort]))
         clear HE HS6 HG HTT HNM
         go_wp2_with fail
         go_ret2
         exact HF.out
        ·have hds : decide ((bs6.length : Int) < (n6 : Int) + 4) = false := by simp; omega
         have HB1 := Lib.hid (rbytesI_any HS6.out.rd (by omega) n6 (by omega))
         go_wp2_with fail
         refine HB1.out.mono ?_
         rintro e w7 ⟨F7, (⟨_, rfl, R7⟩ | ⟨hlt, _⟩)⟩
         rotate_left
         ·omega
         have HS7 := Lib.hid (HS6.out.read R7 F7)
         have hcap6 := HS6.out.rd.cap
         have HP7 := Lib.hid ((reads_head (k := n6) (c := c6) HS6.out.rd.rd (by omega)).below (F7.below HS6.out.rd.far (by have := HS6.out.rd.box.lt; have := HS6.out.rd.far; omega)))
         have HP8 := Lib.hid (fun x (hx : x ∈ bs6.take n6) => HS6.out.rd.b8 x (List.mem_of_mem_take hx))
         clear HB1 R7 F7 HS6 k0 k1
         have hl7 : (bs6.drop n6).length = bs6.length - n6 := by simp
         have hlp : (bs6.take n6).length = n6 := by simp; omega
         have HB2 := Lib.hid (rbytesI_any HS7.out.rd (by omega) 4 (by omega))
         go_wp2_with fail
         refine HB2.out.mono ?_
         rintro e w8 ⟨F8, (⟨_, rfl, R8⟩ | ⟨hlt, _⟩)⟩
         rotate_left
         ·omega
         have HS8 := Lib.hid (HS7.out.read R8 F8)
         have hrg := HS7.out.rd.box.lt
         have hb78 := F8.below HS7.out.rd.far (Nat.le_of_lt hrg)
         have HP := Lib.hid (HP7.out.below hb78)
         have HQ := Lib.hid ((reads_head (k := 4) (c := c6 - n6) HS7.out.rd.rd (by omega)).below hb78)
         have HQ8 := Lib.hid (fun x (hx : x ∈ (bs6.drop n6).take 4) => HS7.out.rd.b8 x (List.mem_of_mem_take hx))
         have h48 : w.heap.size ≤ w8.heap.size := by have := hb78.size; omega
         clear HB2 R8 F8 HS7 HP7 hb78 hrg
         have hQl : ((bs6.drop n6).take 4).length = 4 := by simp; omega
         have h8p : ∀ y ∈ x :: bs6.take n6, y < 256 := fun y hy => by rcases List.mem_cons.1 hy with rfl | hy; exact hx5; exact HP8.out y hy
         obtain ⟨hs1, hs2⟩ := sumN_eq h8p
         have HPL := Lib.hid hlp
         have HSM := Lib.hid (fun (A' : Option Addr) (c' : Nat) (w' : World) (hr' : Reads w' w'.heap.size 1 A' (n6 + 1) (u8c (x :: bs6.take n6))) => sum_any A' (n6 + 1) c' w'.heap.size (x :: bs6.take n6) w' (by omega) hr' h8p)
         rw [hs1] at HSM
         have HDR := Lib.hid (show rdSec x (x :: b1) = if (bs6.drop n6).take 4 = four4 (sumN (x :: bs6.take n6)) then .ok (bs6.take n6, bs6.drop (n6 + 4)) else .error 144 by
          unfold rdSec; simp only [ne_eq, not_true_eq_false, if_false, HNM.out]; rw [if_neg hshort])
         have HDD := Lib.hid (show (bs6.drop n6).drop 4 = bs6.drop (n6 + 4) by rw [List.drop_drop])
         clear h8p hs1 hlp HNM
         generalize hpg : bs6.take n6 = pp at *
         generalize hqg : (bs6.drop n6).take 4 = qq at *
         clear hpg hqg
         go_wp2_with (at_builtin; refine wpList_app_RB (.tmp 57) (.tmp 58) (RB.one w8 x) (((HP.out.below ((Below.refl _ _).alloc (Nat.le_refl _) (.cells #[.int .u8 (x : Int)] 5) |>.mono h48)).more (by simp; omega))) rfl rfl (by simp; omega) rfl rfl ?_; intro v9 w9 C9 hg9; clear hg9; have HC9 := Lib.hid C9; clear C9)
         obtain ⟨A9, c9, rfl, hr9⟩ := HC9.out.reads
         have hr10 : Reads w9 w9.heap.size 1 A9 (n6 + 1) (u8c (x :: pp)) := by
          have e := HPL.out
          simp only [List.length_append, List.length_cons, List.length_nil, e] at hr9
          rw [Nat.add_comm] at hr9
          exact hr9
         have HM := Lib.hid (HSM.out A9 c9 w9 hr10)
         have HB9 := Lib.hid HC9.out.base
         have e4 : ([x] ++ pp).length = n6 + 1 := by rw [List.length_append, HPL.out]; simp; omega
         rw [e4]
         clear hr9 hr10 HC9 HSM e4
         refine HM.out.mono ?_
         rintro e w10 ⟨rfl, rfl⟩
         have HS10 := Lib.hid (HS8.out.below HB9.out)
         have HP10 := Lib.hid (HP.out.below (HB9.out.mono h48))
         have HQ10 := Lib.hid ((HQ.out.below (HB9.out.mono h48)).more (B' := w9.heap.size) (by have := HB9.out.size; omega))
         have h4a : w.heap.size ≤ w9.heap.size := by have := HB9.out.size; omega
         clear HS8 HP HQ HB9 HM
         go_wp2_with fail
         refine (ifour_any (sumN (x :: pp)) hs2 _).mono ?_
         rintro e w11 ⟨v11, rfl, hown11, hb11⟩
         obtain ⟨A11, c11, rfl, hr11⟩ := own_sliceI hown11
         have HS11 := Lib.hid (HS10.out.below hb11)
         have HP11 := Lib.hid (HP10.out.below (hb11.mono h4a))
         have HEQ := Lib.hid (equal_u8 (tailA (tailA A6 c6 n6) (c6 - n6) 0) A11 4 4 (c6 - n6) c11 qq (four4 (sumN (x :: pp))) w11 (by omega) (by omega) ((HQ10.out.below hb11).more hb11.size) hr11)
         have h4b : w.heap.size ≤ w11.heap.size := by have := hb11.size; omega
         clear HS10 HP10 HQ10 hb11 hr11 hown11
         go_wp2_with fail
         refine HEQ.out.mono ?_
         rintro e w12 ⟨rfl, m12, rfl⟩
         have hb12 : Below w11.heap.size w11 (w11.drewN m12) := ⟨rfl, rfl, rfl, Nat.le_refl _, fun _ _ => rfl⟩
         have HS12 := Lib.hid (HS11.out.below hb12)
         have HP12 := Lib.hid (HP11.out.below (hb12.mono h4b))
         clear HS11 HP11 HEQ hb12
         generalize w11.drewN m12 = w12 at *
         by_cases heq : qq = four4 (sumN (x :: pp))
         ·have hsb : sameL qq (four4 (sumN (x :: pp))) = true := by rw [heq]; exact sameL_self _
          have hdr := HDR.out
          rw [if_pos heq, ← HDD.out] at hdr
          have HNX := Lib.hid (HG.out.next HTT.out hdr)
          clear heq hdr HDR HE HG HTT HDD
          have hpl := HPL.out
          have HOW := Lib.hid HS12.out.own
          obtain ⟨i0, hi0, hz0, hz1, hz2⟩ := info_parts info_sl8
          have hgk : ps.length = k := by have := HNX.out.2; simp at this; omega
          have h4c : w.heap.size ≤ w12.heap.size := by have := HS12.out.rd.box.lt; omega
          have HPA := Lib.hid (HP12.out.below ((Below.refl w12.heap.size w12).alloc (Nat.le_refl _) (.cells #[.slice (tailA A6 c6 0) n6 c6] 22) |>.mono h4c))
          have HSA := Lib.hid (HS12.out.below ((Below.refl _ _).alloc (Nat.le_refl _) (.cells #[.slice (tailA A6 c6 0) n6 c6] 22)))
          go_wp2_with (at_builtin; refine wpList_append_any _ rfl (.tmp 64) (.tmp 66) _ rfl W0.heap.size 22 i0 _ 1 24 Tryz.underlying241 hi0 hz0 hz1 hz2 rfl (by omega) u5 ps.length vs rfl HSA.out.own (w12.heap.size + 1) (some ⟨w12.heap.size, 0, none⟩) 1 1 [.slice (tailA A6 c6 0) n6 c6] rfl ⟨rfl, fun _ => ⟨_, rfl, by simp, cell_one_new _ _ _⟩⟩ (fun u hu => by rcases List.mem_singleton.1 hu with rfl; rfl) (by simp only [maxLen]; omega) (by omega) (by have := HS12.out.fr.size; simp; omega) ?_; intro v13 w13 hown13 hgrow13 hat13; have HS13 := Lib.hid (HSA.out.app (p := pp) (Ap := tailA A6 c6 0) (cp := c6) (by omega) (by rw [hpl]; exact HPA.out) HP8.out (by rw [hpl]; exact hown13) hgrow13); clear hown13 hgrow13 hat13)
          have hlen' : (bs6.drop n6).drop 4 = (bs6.drop n6).drop 4 := rfl
          go_roundw
          case rel =>
           have hll : ((bs6.drop n6).drop 4).length ≤ bs.length := by simp; omega
           exact ⟨k + 1, _, ps ++ [pp], _, _, (bs6.drop n6).drop 4, by go_num, by omega, HS13.out, HNX.out, hll⟩
          case measure => simp [intOf]; omega
         ·have hsb : sameL qq (four4 (sumN (x :: pp))) = false := by unfold sameL; rw [beq_eq_false_iff_ne]; exact heq
          have HF := Lib.hid (HE.out _ HS12.out.fr 144 (by rw [HDR.out, if_neg heq]))
          clear HE HS12 HG HTT HDR HDD heq
          go_wp2_with fail
          go_ret2
          exact HF.out
     ·have hne : ((x : Int) != (t : Int)) = true := by simp; omega
      have HF := Lib.hid (HE.out _ HS5.out.fr 142 (by unfold rdSec; simp [hxt]))
      clear HE HS5 HG HTT
      go_wp2_with fail
      go_ret2
      exact HF.out
  ·obtain rfl : k = 4 := by omega
   have hd : decide ((4 : Int) < 4) = false := by decide
   have c0 := S.rd.box.cell 0
   have hps := G.2
   have hg := G.1
   have hdn : rdSecs ([72, 79, 82, 90].drop 4) bs' = .ok ([], bs') := rfl
   rw [hdn] at hg
   simp only [List.append_nil] at hg
   have HGG := Lib.hid hg
   clear hg G HG HS hdn hk hk4
   by_cases h0 : bs'.length = 0
   ·have hd0 : decide (0 < (bs'.length : Int)) = false := decide_eq_false (by omega)
    have hbn : bs' = [] := List.eq_nil_of_length_eq_zero h0
    have HF := Lib.hid (show SecP w.heap.size bs w (.returned (.tuple #[u5, .int .i64 0])) wr from ⟨HFN.out _ S.fr, by
     rw [HGG.out]
     simp only
     rw [if_pos hbn]
     exact ⟨u5, vs, rfl, by
      have ho := S.own
      rw [hps] at ho
      refine ⟨ho.1, ?_⟩
      rcases ho.2 with h1 | ⟨g, cap, cur, h1, h2, h3⟩
      ·exact .inl h1
      ·exact .inr ⟨g, cap, cur, h1, Nat.le_trans HB0.out.size h2, h3⟩, S.pay, hps⟩⟩)
    clear HGG S hbn
    go_wp2_with fail
    go_ret2
    exact HF.out
   ·have hd0 : decide (0 < (bs'.length : Int)) = true := decide_eq_true (by omega)
    have hbn : bs' ≠ [] := fun e => h0 (by rw [e]; rfl)
    have HF := Lib.hid (show SecP w.heap.size bs w (.returned (.tuple #[.slice none 0 0, .int .i64 143])) wr from ⟨HFN.out _ S.fr, by
     rw [HGG.out]
     simp only
     rw [if_neg hbn]
     trivial⟩)
    clear HGG S hbn
    go_wp2_with fail
    go_ret2
    exact HF.out
end
section
open Go.RowKit
attribute [local go_sem] Oper.semAt_some
theorem info_wr : (Tryz.prog.info? 303).map (fun i => (i.zero, i.size, i.bytes)) = some (some (Value.agg #[.int .i64 0, .int .i64 0, .int .i64 0, .int .u32 0, .int .u32 0, .int .u32 0, .slice none 0 0, .int .i64 0]), 8, 72) := by kernel_rfl
structure Wr where
 x : Hd
 A : Option Addr
 c : Nat
 fs : List Nat
 pl : Nat
instance : Inhabited Wr := ⟨⟨⟨0, 0, 0, 0, 0⟩, none, 0, [], 0⟩⟩
def Wr.th (u : Wr) : Th := ⟨u.x, u.fs⟩
def Wr.cells (u : Wr) : List Value := [.int .i64 u.x.size, .int .i64 u.x.fmt, .int .i64 u.x.spare, .int .u32 0, .int .u32 u.x.ser, .int .u32 u.x.cls, .slice u.A u.fs.length u.c, .int .i64 u.pl]
def wrL (us : List Wr) : List Value := us.flatMap Wr.cells
theorem wrL_snoc (l : List Wr) (u : Wr) : wrL (l ++ [u]) = wrL l ++ u.cells := by simp [wrL]
theorem wr_one (n : Wr) : ∀ u ∈ n.cells, u.oneCell' = true := by
 intro u hu
 simp [Wr.cells] at hu
 rcases hu with rfl | rfl | rfl | rfl | rfl | rfl | rfl | rfl <;> rfl
theorem wrL_get : ∀ (l : List Wr) (i j : Nat), i < l.length → j < 8 → (wrL l)[i * 8 + j]? = ((l.getD i default).cells)[j]?
 | [], i, j, hi, hj => by simp at hi
 | a :: l, 0, j, hi, hj => by
   unfold wrL
   rw [List.flatMap_cons, List.getElem?_append_left (by simp [Wr.cells]; omega)]
   simp
 | a :: l, i + 1, j, hi, hj => by
   have ih := wrL_get l i j (by simpa using hi) hj
   unfold wrL at *
   rw [List.flatMap_cons, List.getElem?_append_right (by simp [Wr.cells]; omega)]
   rw [show (i + 1) * 8 + j - a.cells.length = i * 8 + j by simp [Wr.cells]; omega, ih]
   simp
theorem wrL_set (l : List Wr) (i : Nat) (hi : i < l.length) (at_ : Nat) : wrL (l.set i { (l.getD i default) with pl := at_ }) = (wrL l).set (i * 8 + 7) (.int .i64 at_) := by
 induction l generalizing i with
 | nil => simp at hi
 | cons a l ih =>
   cases i with
   | zero =>
     unfold wrL
     rw [List.set_cons_zero, List.flatMap_cons, List.flatMap_cons, List.set_append_left _ _ (by simp [Wr.cells])]
     rfl
   | succ i =>
     have := ih i (by simpa using hi)
     unfold wrL at *
     rw [List.set_cons_succ, List.flatMap_cons, List.flatMap_cons, List.set_append_right _ _ (by simp [Wr.cells]; omega)]
     rw [show (i + 1) * 8 + 7 - a.cells.length = i * 8 + 7 by simp [Wr.cells]; omega, ← this]
     simp
def Wrs (w : World) (g : Nat) (us : List Wr) : Prop := ∃ cur, Blk w g 303 cur ∧ cur.toList.take (us.length * 8) = wrL us
section
variable {w w' : World} {g : Nat} {us : List Wr}
theorem Wrs.lt (h : Wrs w g us) : g < w.heap.size := by obtain ⟨_, h, _⟩ := h; exact h.lt
theorem Wrs.same (h : Wrs w g us) (hs : w'.heap[g]? = w.heap[g]?) : Wrs w' g us := by obtain ⟨cur, hb, r⟩ := h; exact ⟨cur, hb.same hs, r⟩
theorem Wrs.below (h : Wrs w g us) (hb : Below w.heap.size w w') : Wrs w' g us := h.same (hb.block g h.lt)
theorem Wrs.frozen (h : Wrs w g us) (i : Nat) : w.frozen? ⟨g, i, none⟩ = false := by obtain ⟨cur, hb, _⟩ := h; exact hb.frozen i
theorem Wrs.cell (h : Wrs w g us) {i j : Nat} {u : Value} (hi : i < us.length) (hj : j < 8) (hu : ((us.getD i default).cells)[j]? = some u) : w.cell? ⟨g, i * 8 + j, none⟩ = some u := by
 obtain ⟨cur, hb, r⟩ := h
 rw [hb.cell (i * 8 + j)]
 have h1 : (wrL us)[i * 8 + j]? = some u := by rw [wrL_get us i j hi hj]; exact hu
 rw [← r, List.getElem?_take] at h1
 split at h1
 ·rw [← h1]; simp
 ·cases h1
theorem Wrs.place (h : Wrs w g us) (i : Nat) (hi : i < us.length) (at_ : Nat) : Wrs (w.setCell ⟨g, i * 8 + 7, none⟩ (.int .i64 at_)) g (us.set i { (us.getD i default) with pl := at_ }) := by
 obtain ⟨cur, hb, r⟩ := h
 refine ⟨_, hb.set_ (i * 8 + 7) (.int .i64 at_), ?_⟩
 rw [wrL_set us i hi, List.length_set, ← r]
 simp [List.take_set]
end
theorem own_wrs {w : World} {base n : Nat} {v : Value} {us : List Wr} (h : w.ownsRow base 303 8 v n (wrL us)) (hn : us.length = n) (h0 : 0 < n) : ∃ g c, v = .slice (some ⟨g, 0, none⟩) n c ∧ Wrs w g us ∧ base ≤ g := by
 rcases h.2 with ⟨rfl, h1⟩ | ⟨g, cap, cur, rfl, hb, hg, hh, hc, hs, ht⟩
 ·omega
 ·refine ⟨g, cap, rfl, ⟨cur, hg, ?_⟩, hb⟩
  rw [hn]
  exact ht
end
section
open Go.RowKit
attribute [local go_sem] Oper.semAt_some
theorem u32_or1 (x : Nat) (hx : 2 * x < 4294967296) : bits .or .u32 ((2 * x : Nat) : Int) 1 = ((2 * x + 1 : Nat) : Int) := by
 have h := u32_or_nat (2 * x) 1 hx (by omega)
 rw [show 2 * x ||| 1 = 2 * x + 1 from by
  have h2 := Nat.shiftLeft_add_eq_or_of_lt (i := 1) (b := 1) (by omega) x
  rw [Nat.shiftLeft_eq] at h2
  rw [show 2 * x = x * 2 ^ 1 by omega]
  exact h2.symm] at h
 exact h
theorem ofits_any (v : Int) (h1 : -1073741824 ≤ v) (h2 : v ≤ 1073741823) (w : World) : Calls Tryz.prog 274 #[.int .i64 v] w fun e w' => e = .returned (.bool true) ∧ w = w' := by
 go_enter Tryz.func274, Tryz.ntmps274
 go_wp2_with fail
 go_ret
 exact ⟨by simp, rfl⟩
theorem osmall_any (v : Int) (h1 : -1073741824 ≤ v) (h2 : v ≤ 1073741823) (w : World) : Calls Tryz.prog 253 #[.int .i64 v] w fun e w' => e = .returned (.tuple #[.int .u32 (smallO v : Nat), .int .i64 0]) ∧ w = w' := by
 have HF := Lib.hid (ofits_any v h1 h2 w)
 obtain ⟨x, hx⟩ : ∃ x : Nat, ((2 * x : Nat) : Int) = v % 4294967296 * 2 % 4294967296 := ⟨(v % 2147483648).toNat, by omega⟩
 have hxl : 2 * x < 4294967296 := by omega
 have hor : bits .or .u32 (v % 4294967296 * 2 % 4294967296) 1 = ((2 * x + 1 : Nat) : Int) := by rw [← hx]; exact u32_or1 x hxl
 have HV := Lib.hid (show smallO v = 2 * x + 1 by unfold smallO; omega)
 clear hx hxl
 go_enter Tryz.func253, Tryz.ntmps253
 go_wp2_with fail
 refine HF.out.mono ?_
 rintro e w1 ⟨rfl, rfl⟩
 go_wp2_with fail
 go_ret2
 exact ⟨by rw [HV.out]; rfl, rfl⟩
structure LayB (w : World) (b5 bf : Nat) (A : Option Addr) (c : Nat) (us : List Wr) (fine : Bool) : Prop where
 objs : Blk w b5 301 #[.slice A us.length c]
 fn : Blk w bf 4 #[.bool fine]
 row : 0 < us.length → ∃ g, A = some ⟨g, 0, none⟩ ∧ Wrs w g us
 pl : ∀ i, i < us.length → (us.getD i default).pl = placeT ((us.map Wr.th).take i)
 top : placeT (us.map Wr.th) ≤ 1048576
 len : us.length ≤ 9000000
def FineP (bf : Nat) (v : Nat) (fine : Bool) (w : World) (e : Ending) (w' : World) : Prop :=
 e = .returned (.int .u32 (v : Nat)) ∧ Blk w' bf 4 #[.bool fine] ∧ Fr1 bf w w'
set_option maxRecDepth 100000 in
set_option maxHeartbeats 2000000 in
theorem laynamed_any {w : World} {b5 bf c : Nat} {A : Option Addr} {us : List Wr} {fine : Bool} (S : LayB w b5 bf A c us fine) (n : Nat) (hn : n < 4294967296) :
 Calls Tryz.prog 251 #[.int .u32 n, .pointer (some ⟨b5, 0, none⟩), .pointer (some ⟨bf, 0, none⟩)] w (FineP bf (namedT (us.map Wr.th) n) (fine && !wrongN (us.map Wr.th) n) w) := by
 have c0 := S.objs.cell 0
 have c1 := S.fn.cell 0
 have z1 := S.fn.frozen 0
 have hlen := S.len
 have hul : (us.map Wr.th).length = us.length := List.length_map ..
 by_cases h0 : n = 0
 ·subst h0
  have HF := Lib.hid (show FineP bf (namedT (us.map Wr.th) 0) (fine && !wrongN (us.map Wr.th) 0) w (.returned (.int .u32 0)) w from
   ⟨rfl, by rw [show (fine && !wrongN (us.map Wr.th) 0) = fine by unfold wrongN; simp]; exact S.fn, Fr1.refl _ _⟩)
  clear S
  go_enter Tryz.func251, Tryz.ntmps251
  go_wp2_with fail
  go_ret
  exact HF.out
 have hz : ((n : Int) == 0) = false := by simp; omega
 have hw : IntKind.u32.wrap (us.length : Int) = (us.length : Int) := by show (us.length : Int) % 4294967296 = _; omega
 by_cases hbig : us.length < n
 ·have hd : decide ((us.length : Int) < (n : Int)) = true := by simp; omega
  have HF := Lib.hid (show FineP bf (namedT (us.map Wr.th) n) (fine && !wrongN (us.map Wr.th) n) w (.returned (.int .u32 0)) (w.setCell ⟨bf, 0, none⟩ (.bool false)) from by
   refine ⟨by unfold namedT; rw [if_neg h0, if_pos (by rw [hul]; exact hbig)]; rfl, ?_, Fr1.set _ _ _ _⟩
   rw [show (fine && !wrongN (us.map Wr.th) n) = false by unfold wrongN; rw [hul]; simp [hbig]]
   exact S.fn.set_ 0 _)
  clear S h0
  go_enter Tryz.func251, Tryz.ntmps251
  go_wp2_with fail
  go_ret
  exact HF.out
 ·have hd : decide ((us.length : Int) < (n : Int)) = false := by simp; omega
  obtain ⟨g, hA, hrow⟩ := S.row (by omega)
  subst hA
  have hpl := S.pl (n - 1) (by omega)
  have hcl := hrow.cell (i := n - 1) (j := 7) (u := .int .i64 (us.getD (n - 1) default).pl) (by omega) (by omega) rfl
  have hp1 : 1 ≤ (us.getD (n - 1) default).pl := by rw [hpl]; unfold placeT; omega
  have hp2 : (us.getD (n - 1) default).pl ≤ 1048576 := by rw [hpl]; exact Nat.le_trans (placeT_le _ _) S.top
  have HAT := Lib.hid (oat_any (us.getD (n - 1) default).pl hp1 (by omega) w)
  have HF := Lib.hid (show FineP bf (namedT (us.map Wr.th) n) (fine && !wrongN (us.map Wr.th) n) w (.returned (.int .u32 (2 * (us.getD (n - 1) default).pl : Nat))) w from by
   refine ⟨?_, ?_, Fr1.refl _ _⟩
   ·unfold namedT
    rw [if_neg h0, if_neg (by rw [hul]; omega), ← hpl, Nat.mod_eq_of_lt (by omega)]
   ·rw [show (fine && !wrongN (us.map Wr.th) n) = fine by unfold wrongN; rw [hul]; simp; omega]
    exact S.fn)
  clear S hrow hpl
  generalize (us.getD (n - 1) default).pl = pl at *
  obtain ⟨m, rfl⟩ : ∃ m, n = m + 1 := ⟨n - 1, by omega⟩
  have hm1 : ((m + 1 : Nat) : Int) - 1 = (m : Int) := by omega
  have hlt : (m : Int) < (us.length : Int) := by omega
  simp only [Nat.add_sub_cancel] at hcl
  clear h0
  go_enter Tryz.func251, Tryz.ntmps251
  go_wp2_with fail
  refine HAT.out.mono ?_
  rintro e w1 ⟨rfl, rfl⟩
  go_wp2_with fail
  go_ret
  exact HF.out
structure LayV (w : World) (b5 bf b13 : Nat) (A : Option Addr) (c : Nat) (us : List Wr) (fine : Bool) : Prop where
 b : LayB w b5 bf A c us fine
 cl : Blk w b13 55 #[.func (.func 251) #[] #[.pointer (some ⟨b5, 0, none⟩), .pointer (some ⟨bf, 0, none⟩)]]
set_option maxRecDepth 100000 in
set_option maxHeartbeats 2000000 in
theorem layvalue_any {w : World} {b5 bf b13 c : Nat} {A : Option Addr} {us : List Wr} {fine : Bool} (S : LayV w b5 bf b13 A c us fine) (n : Nat) (hn : n < 4294967296) :
 Calls Tryz.prog 252 #[.int .u32 n, .pointer (some ⟨b13, 0, none⟩)] w (FineP bf (valT (us.map Wr.th) n) (fine && !wrongV (us.map Wr.th) n) w) := by
 have c0 := S.cl.cell 0
 have hand := u32_and_one n hn
 by_cases h0 : n % 2 = 0
 ·have HN := Lib.hid (laynamed_any S.b (n / 2) (by omega))
  have HE := Lib.hid (show valT (us.map Wr.th) n = namedT (us.map Wr.th) (n / 2) ∧ wrongV (us.map Wr.th) n = wrongN (us.map Wr.th) (n / 2) from ⟨by unfold valT; rw [if_pos h0], by unfold wrongV; rw [decide_eq_true h0, Bool.true_and]⟩)
  rw [h0] at hand
  have hdv : ((n / 2 : Nat) : Int) = (n : Int) / 2 := by omega
  rw [hdv] at HN
  clear S h0 hdv
  go_enter Tryz.func252, Tryz.ntmps252
  go_wp2_with fail
  refine HN.out.mono ?_
  rintro e w1 ⟨rfl, h1, h2⟩
  have HR := Lib.hid (And.intro h1 h2)
  clear h1 h2
  go_wp2_with fail
  go_ret
  rw [HE.out.1, HE.out.2]
  exact ⟨rfl, HR.out.1, HR.out.2⟩
 ·have h1 : n % 2 = 1 := by omega
  have HE := Lib.hid (show valT (us.map Wr.th) n = smallO (zagI (n / 2)) ∧ (fine && !wrongV (us.map Wr.th) n) = fine from ⟨by unfold valT; rw [if_neg h0], by unfold wrongV; rw [decide_eq_false h0]; simp⟩)
  have HB := Lib.hid S.b.fn
  rw [h1] at hand
  clear S h0
  obtain ⟨z, hz⟩ : ∃ z, z = n / 2 := ⟨_, rfl⟩
  have hzl : z < 2147483648 := by omega
  have hzi : (n : Int) / 2 = (z : Int) := by omega
  by_cases hp : z % 2 = 0
  ·have HV := Lib.hid (show zagI (n / 2) = (z : Int) / 2 by rw [← hz]; unfold zagI; rw [if_pos hp]; omega)
   have hr : ((z : Int) % 2 == 1) = false := by simp; omega
   have HS := Lib.hid (osmall_any ((z : Int) / 2) (by omega) (by omega) w)
   rw [HV.out] at HE
   clear hp hz h1 HV
   go_enter Tryz.func252, Tryz.ntmps252
   go_wp2_with fail
   refine HS.out.mono ?_
   rintro e w1 ⟨rfl, rfl⟩
   go_wp2_with fail
   go_ret
   rw [HE.out.1, HE.out.2]
   exact ⟨rfl, HB.out, Fr1.refl _ _⟩
  ·obtain ⟨y, hy⟩ : ∃ y, y = (z + 1) / 2 := ⟨_, rfl⟩
   have hyb : y ≤ 1073741824 := by omega
   have HV := Lib.hid (show zagI (n / 2) = -(y : Int) by rw [← hz]; unfold zagI; rw [if_neg hp, hy])
   have hr : ((z : Int) % 2 == 1) = true := by simp; omega
   have HS := Lib.hid (osmall_any (-(y : Int)) (by omega) (by omega) w)
   have hq : ((z : Int) + 1).tdiv 2 = (y : Int) := by rw [Int.tdiv_eq_ediv_of_nonneg (by omega)]; omega
   rw [HV.out] at HE
   clear hp hz h1 HV hy
   go_enter Tryz.func252, Tryz.ntmps252
   go_wp2_with fail
   refine HS.out.mono ?_
   rintro e w1 ⟨rfl, rfl⟩
   go_wp2_with fail
   go_ret
   rw [HE.out.1, HE.out.2]
   exact ⟨rfl, HB.out, Fr1.refl _ _⟩
end
section
open Go.RowKit
attribute [local go_sem] Oper.semAt_some
structure KpO (M : Nat) (A B : World) : Prop where
 os : B.os = A.os
 tape : B.tape = A.tape
 output : B.output = A.output
 size : A.heap.size ≤ B.heap.size
 low : ∀ k, k < M → B.heap[k]? = A.heap[k]?
 cells : ∀ k cs t, t ≠ 5 → t ≠ 22 → Blk A k t cs → Blk B k t cs
theorem KpO.refl (M : Nat) (A : World) : KpO M A A := ⟨rfl, rfl, rfl, Nat.le_refl _, fun _ _ => rfl, fun _ _ _ _ _ b => b⟩
theorem KpO.trans {M : Nat} {A B C : World} (h : KpO M A B) (k : KpO M B C) : KpO M A C :=
 ⟨k.os.trans h.os, k.tape.trans h.tape, k.output.trans h.output, Nat.le_trans h.size k.size, fun i hi => (k.low i hi).trans (h.low i hi), fun i cs t h1 h2 b => k.cells i cs t h1 h2 (h.cells i cs t h1 h2 b)⟩
theorem KpO.of_below {M : Nat} {A B : World} (hb : Below A.heap.size A B) (hM : M ≤ A.heap.size) : KpO M A B :=
 ⟨hb.os, hb.tape, hb.output, hb.size, fun k hk => hb.block k (by omega), fun k cs t _ _ b => b.below hb b.lt⟩
theorem KpO.book {M : Nat} (W : World) (l : Nat) (o o' : Obj) (h1 : M ≤ l) (hl : W.heap[l]? = some o) (hc : o.isCells = false) : KpO M W (W.putObj l o') := by
 have hg := grownBy_putObj' W l o'
 have hk : ∀ k, k ≠ l → (W.putObj l o').heap[k]? = W.heap[k]? := fun k hk => by
  rcases Nat.lt_or_ge k W.heap.size with h | h
  ·exact hg.block k h (fun e => by first | exact hk (Option.some.inj e).symm | exact hk (Option.some.inj e))
  ·have e1 : (W.putObj l o').heap.size = W.heap.size := by simp [World.putObj]
   rw [Array.getElem?_eq_none (by omega), Array.getElem?_eq_none (by omega)]
 exact ⟨hg.os, hg.tape, hg.output, hg.size, fun k h => hk k (by omega), fun g cs t _ _ b => b.same (hk g (fun e => by
  subst e; have e2 := Option.some.inj (hl.symm.trans b); rw [e2] at hc; cases hc))⟩
theorem Row.keptO {M g c : Nat} {A B : World} {e : TypeId} {xs : List Value} (h : Row A g e c xs) (k : KpO M A B) (h1 : e ≠ 5) (h2 : e ≠ 22) : Row B g e c xs := by
 obtain ⟨cur, hb, r⟩ := h
 exact ⟨cur, k.cells g cur e h1 h2 hb, r⟩
theorem KpO.need {w : World} {h : HM} {n0 : Nat} (hs : Spares w) : NeedA (fun A B => KpO w.heap.size A B) n0 h :=
 ⟨fun k _ H => ⟨k.cells _ _ _ (by decide) (by decide) H.1, H.2.1.keptO k (by decide) (by decide), H.2.2.1.keptO k (by decide) (by decide), H.2.2.2.keptO k (by decide) (by decide)⟩,
   fun k hA i hi => (World.cell?_of_block (k.low _ (World.block_lt_of_cell? _ _ (hs i hi)))).trans (hA i hi)⟩
theorem KeepsFrom.belowI {w w' : World} {B : Nat} (hb : Below w.heap.size w w') : KeepsFrom B w w' := ⟨hb.size, fun k o _ ho _ => (hb.block k (lt_of_get ho)).trans ho⟩
structure OSt (w : World) (sg bS bB : Nat) (v : Value) (bs : List Nat) (W : World) : Prop where
 rb : RB w W w.heap.size v bs
 bb : Blk W bB 22 #[v]
 bx : Blk W bS 192 #[.pointer (some ⟨sg, 0, none⟩)]
section
variable {w W W' : World} {sg bS bB : Nat} {v v' : Value} {bs bs' : List Nat}
theorem OSt.below (S : OSt w sg bS bB v bs W) (hb : Below W.heap.size W W') : OSt w sg bS bB v bs W' := ⟨S.rb.below hb, S.bb.below hb S.bb.lt, S.bx.below hb S.bx.lt⟩
theorem own_typeI {w : World} {base : Nat} {e : TypeId} {v : Value} {n g : Nat} {xs : List Value} {o : Obj} (h : w.ownsRow base e 1 v n xs) (ho : w.heap[g]? = some o) (hne : ∀ cs, o ≠ .cells cs e (0, 0)) : v.ownBlock ≠ some g := by
 intro hk
 rcases h.2 with ⟨h1, _⟩ | ⟨g', cap, cur, h1, h2, h3, h4⟩
 ·rw [h1] at hk; cases hk
 ·rw [h1] at hk
  have e1 : g' = g := by injection hk
  rw [e1, ho] at h3
  injection h3 with h3
  exact hne _ h3
theorem own_blkI {w : World} {base : Nat} {e t : TypeId} {v : Value} {n g : Nat} {xs : List Value} {cs : Array Value} (h : w.ownsRow base e 1 v n xs) (b : Blk w g t cs) (hne : e ≠ t) : v.ownBlock ≠ some g :=
 own_typeI h b (fun cs' e => hne (by injection e with _ e; exact e.symm))
theorem OSt.own' {B : Nat} {row : Option Nat} (S : OSt w sg bS bB v bs W) (hB : w.heap.size ≤ B) (hg : W.grownBy W' row) (hr : ∀ r, row = some r → B ≤ r ∧ ∃ o : Obj, W.heap[r]? = some o ∧ o.isCells = false) : OSt w sg bS bB v bs W' := by
 have hc : ∀ g cs t, Blk W g t cs → W'.heap[g]? = W.heap[g]? := fun g cs t b => hg.block g b.lt (fun e => by
  obtain ⟨_, o, ho, hc⟩ := hr g e.symm
  unfold Blk at b; rw [b] at ho; injection ho with ho; subst ho; cases hc)
 refine ⟨⟨own_sameI S.rb.own (fun k hk => ?_), S.rb.base.grown hg S.rb.base.size (fun k e => by have := (hr k e).1; omega), S.rb.hB, Nat.le_trans S.rb.top hg.size⟩, S.bb.same (hc _ _ _ S.bb), S.bx.same (hc _ _ _ S.bx)⟩
 rcases S.rb.own.2 with ⟨h1, _⟩ | ⟨g', cap, cur, h1, h2, h3, h4⟩
 ·rw [h1] at hk; cases hk
 ·rw [h1] at hk
  have e1 : g' = k := by injection hk
  rw [e1] at h3
  exact hc _ _ _ h3
theorem OSt.app {B : Nat} (S : OSt w sg bS bB v bs W) (hB : w.heap.size ≤ bB) (C : RB w W' w.heap.size v' bs') (hg : W.grownBy W' v.ownBlock) :
 OSt w sg bS bB v' bs' (W'.setCell ⟨bB, 0, none⟩ v') ∧ KpO w.heap.size W (W'.setCell ⟨bB, 0, none⟩ v') ∧ KeepsFrom B W (W'.setCell ⟨bB, 0, none⟩ v') ∧ W'.frozen? ⟨bB, 0, none⟩ = false ∧ (∃ u, W'.cell? ⟨bB, 0, none⟩ = some u) := by
 have hk : ∀ g t cs, Blk W g t cs → t ≠ 5 → W'.heap[g]? = W.heap[g]? := fun g t cs b hne => hg.block g b.lt (fun e => own_blkI S.rb.own b (Ne.symm hne) (by first | exact e | exact e.symm))
 have bb1 := S.bb.same (hk _ _ _ S.bb (by decide))
 have hfar : ∀ g, g ≠ bB → (W'.setCell ⟨bB, 0, none⟩ v').heap[g]? = W'.heap[g]? := fun g hne => Below.heap_setCell W' ⟨bB, 0, none⟩ v' g hne
 have hbase : Below w.heap.size w (W'.setCell ⟨bB, 0, none⟩ v') := C.base.setCell (p := ⟨bB, 0, none⟩) hB _
 have hsz : (W'.setCell ⟨bB, 0, none⟩ v').heap.size = W'.heap.size := by simp [World.setCell]
 have hne : ∀ g t cs, Blk W g t cs → t ≠ 22 → g ≠ bB := fun g t cs b h e => by
  subst e
  have h1 := S.bb
  unfold Blk at b h1
  rw [b] at h1
  injection h1 with h1
  injection h1 with _ h1
  exact h h1
 refine ⟨⟨⟨own_sameI C.own (fun k hk' => hfar k (fun e => ?_)), hbase, C.hB, by rw [hsz]; exact C.top⟩, bb1.set_ 0 v', ?_⟩, ⟨hg.os, hg.tape, hg.output, by rw [hsz]; exact hg.size, fun k hk' => (hbase.block k hk').trans (S.rb.base.block k hk').symm, fun k cs t h1 h2 b => b.same ((hfar k (hne _ _ _ b h2)).trans (hk _ _ _ b h1))⟩, ⟨by rw [hsz]; exact hg.size, fun k o hk' ho hc => ?_⟩, bb1.frozen 0, ⟨_, bb1.cell 0⟩⟩
 ·subst e
  exact own_blkI C.own bb1 (by decide) hk'
 ·exact S.bx.same ((hfar _ (hne _ _ _ S.bx (by decide))).trans (hk _ _ _ S.bx (by decide)))
 ·have h1 : k ≠ bB := fun e => by
   subst e
   have h1 := S.bb
   unfold Blk at h1
   rw [ho] at h1
   injection h1 with h1
   subst h1
   cases hc
  refine (hfar k h1).trans ((hg.block k (lt_of_get ho) (fun e => own_typeI S.rb.own ho (fun cs e2 => by subst e2; cases hc) (by first | exact e | exact e.symm))).trans ho)
structure OB (w : World) (sg bS bB B0 : Nat) (Ws : World) (b5 : Nat) (X : Hd) (v : Value) (bs : List Nat) (W : World) : Prop where
 st : OSt w sg bS bB v bs W
 kp : KpO w.heap.size Ws W
 kf : KeepsFrom B0 Ws W
 hd : Blk W b5 75 X.cells
variable {B0 b5 : Nat} {Ws : World} {X : Hd}
theorem OB.below (S : OB w sg bS bB B0 Ws b5 X v bs W) (hb : Below W.heap.size W W') : OB w sg bS bB B0 Ws b5 X v bs W' :=
 ⟨S.st.below hb, S.kp.trans (.of_below hb (Nat.le_trans S.st.rb.hB S.st.rb.top)), S.kf.trans (KeepsFrom.belowI hb), S.hd.below hb S.hd.lt⟩
theorem OB.app (S : OB w sg bS bB B0 Ws b5 X v bs W) (hB : w.heap.size ≤ bB) (C : RB w W' w.heap.size v' bs') (hg : W.grownBy W' v.ownBlock) : OB w sg bS bB B0 Ws b5 X v' bs' (W'.setCell ⟨bB, 0, none⟩ v') := by
 obtain ⟨h1, h2, h3, _⟩ := S.st.app (B := B0) hB C hg
 exact ⟨h1, S.kp.trans h2, S.kf.trans h3, h2.cells _ _ _ (by decide) (by decide) S.hd⟩
theorem OB.cells (S : OB w sg bS bB B0 Ws b5 X v bs W) : W.cell? ⟨bB, 0, none⟩ = some v ∧ W.cell? ⟨bS, 0, none⟩ = some (.pointer (some ⟨sg, 0, none⟩)) ∧ W.cell? ⟨b5, 0, none⟩ = some (.int .i64 X.size) ∧ W.cell? ⟨b5, 1, none⟩ = some (.int .i64 X.fmt) ∧ W.cell? ⟨b5, 2, none⟩ = some (.int .i64 X.spare) ∧ W.cell? ⟨b5, 3, none⟩ = some (.int .u32 X.cls) ∧ W.cell? ⟨b5, 4, none⟩ = some (.int .u32 X.ser) :=
 ⟨S.st.bb.cell 0, S.st.bx.cell 0, S.hd.cell 0, S.hd.cell 1, S.hd.cell 2, S.hd.cell 3, S.hd.cell 4⟩
end
structure OCells (sg mb pg bS bB b5 : Nat) (L : List Nat) (X : Hd) (v : Value) (W : World) : Prop where
 cB : W.cell? ⟨bB, 0, none⟩ = some v
 cS : W.cell? ⟨bS, 0, none⟩ = some (.pointer (some ⟨sg, 0, none⟩))
 g0 : W.cell? ⟨sg, 0, none⟩ = some (.pointer (some ⟨pg, 0, none⟩))
 g1 : W.cell? ⟨sg, 1, none⟩ = some (.map (some mb))
 x0 : W.cell? ⟨b5, 0, none⟩ = some (.int .i64 X.size)
 x1 : W.cell? ⟨b5, 1, none⟩ = some (.int .i64 X.fmt)
 x2 : W.cell? ⟨b5, 2, none⟩ = some (.int .i64 X.spare)
 x3 : W.cell? ⟨b5, 3, none⟩ = some (.int .u32 X.cls)
 x4 : W.cell? ⟨b5, 4, none⟩ = some (.int .u32 X.ser)
 lk : (Instr.lookup 143 (.map (some mb)) (.int .u32 (X.cls : Int)) false).run Tryz.prog W = .ok (.int .u32 (numL L X.cls : Nat)) W
section
variable {w W W' : World} {sg mb pg bS bB B0 b5 : Nat} {Ws : World} {v v' : Value} {bs bs' : List Nat} {X : Hd} {L : List Nat}
theorem OB.oc (O : OB w sg bS bB B0 Ws b5 X v bs W) (S : SvAt w sg mb pg L) (hnd : L.Nodup) (hc : X.cls < 4294967296) : OCells sg mb pg bS bB b5 L X v W := by
 obtain ⟨h0, h1, h2, h3, h4, h5, h6⟩ := O.cells
 have S' := S.below O.st.rb.base
 exact ⟨h0, h1, S'.box.cell 0, S'.box.cell 1, h2, h3, h4, h5, h6, S'.map.look hnd oopTyU hc⟩
theorem OB.ocm (O : OB w sg bS bB B0 Ws b5 X v bs W) (S : SvAt w sg mb pg L) (hnd : L.Nodup) (hc : X.cls < 4294967296) (C : RB w W' w.heap.size v' bs') (hg : W.grownBy W' v.ownBlock) : OCells sg mb pg bS bB b5 L X v W' := by
 have hk : ∀ g t cs, Blk W g t cs → t ≠ 5 → Blk W' g t cs := fun g t cs b hne => b.same (hg.block g b.lt (fun e => own_blkI O.st.rb.own b (Ne.symm hne) (by first | exact e | exact e.symm)))
 have S' := S.below C.base
 have hd := hk _ _ _ O.hd (by decide)
 exact ⟨(hk _ _ _ O.st.bb (by decide)).cell 0, (hk _ _ _ O.st.bx (by decide)).cell 0, S'.box.cell 0, S'.box.cell 1, hd.cell 0, hd.cell 1, hd.cell 2, hd.cell 3, hd.cell 4, S'.map.look hnd oopTyU hc⟩
theorem OB.room (O : OB w sg bS bB B0 Ws b5 X v bs W) (C : RB w W' w.heap.size v' bs') (hg : W.grownBy W' v.ownBlock) : W'.frozen? ⟨bB, 0, none⟩ = false ∧ W'.cell? ⟨bB, 0, none⟩ = some v := by
 have hk : ∀ g t cs, Blk W g t cs → t ≠ 5 → Blk W' g t cs := fun g t cs b hne => b.same (hg.block g b.lt (fun e => own_blkI O.st.rb.own b (Ne.symm hne) (by first | exact e | exact e.symm)))
 have h := hk _ _ _ O.st.bb (by decide)
 exact ⟨h.frozen 0, h.cell 0⟩
end
end
section
open Go.RowKit
attribute [local go_sem] Oper.semAt_some
def WrB (w : World) (B g : Nat) (us : List Wr) : Prop := ∀ u ∈ us, Reads w B 1 u.A u.fs.length (u32s u.fs) ∧ (0 < u.fs.length → ∀ a, u.A = some a → a.block ≠ g)
theorem WrB.keep {w w' : World} {B g : Nat} {us : List Wr} (h : WrB w B g us) (hk : ∀ k, k < B → k ≠ g → w'.heap[k]? = w.heap[k]?) : WrB w' B g us := fun u hu => by
 obtain ⟨h1, h2⟩ := h u hu
 refine ⟨⟨h1.1, fun hn => ?_⟩, h2⟩
 obtain ⟨a, ha, hb, hc⟩ := h1.2 hn
 exact ⟨a, ha, hb, fun j v hv => (World.cell?_of_block (a := a.add j) (by rw [block_of_add]; exact hk a.block hb (h2 hn a ha))).trans (hc j v hv)⟩
def usK (us : List Wr) (k : Nat) : List Wr := (List.range us.length).map fun j => if j < k then { (us.getD j default) with pl := placeT ((us.map Wr.th).take j) } else us.getD j default
theorem usK_len (us : List Wr) (k : Nat) : (usK us k).length = us.length := by simp [usK]
theorem usK_get (us : List Wr) (k j : Nat) (hj : j < us.length) : (usK us k).getD j default = if j < k then { (us.getD j default) with pl := placeT ((us.map Wr.th).take j) } else us.getD j default := by
 unfold usK
 rw [List.getD_eq_getElem?_getD, List.getElem?_map, List.getElem?_range hj]
 rfl
theorem usK_zero (us : List Wr) : usK us 0 = us := by
 apply List.ext_getElem
 ·simp [usK]
 ·intro i h1 h2
  simp [usK, List.getD_eq_getElem?_getD, List.getElem?_eq_getElem h2]
theorem usK_set (us : List Wr) (k : Nat) (hk : k < us.length) : (usK us k).set k { ((usK us k).getD k default) with pl := placeT ((us.map Wr.th).take k) } = usK us (k + 1) := by
 rw [usK_get us k k hk, if_neg (by omega)]
 apply List.ext_getElem
 ·simp [usK]
 ·intro i h1 h2
  rw [usK_len] at h2
  rw [List.getElem_set]
  have e1 : (usK us (k + 1))[i]'(by rw [usK_len]; exact h2) = (usK us (k + 1)).getD i default := by rw [List.getD_eq_getElem?_getD, List.getElem?_eq_getElem (by rw [usK_len]; exact h2)]; rfl
  have e2 : (usK us k)[i]'(by rw [usK_len]; exact h2) = (usK us k).getD i default := by rw [List.getD_eq_getElem?_getD, List.getElem?_eq_getElem (by rw [usK_len]; exact h2)]; rfl
  rw [e1, e2, usK_get us (k + 1) i h2, usK_get us k i h2]
  by_cases hik : k = i
  ·subst hik
   rw [if_pos rfl, if_pos (by omega)]
  ·rw [if_neg hik]
   by_cases hlt : i < k
   ·rw [if_pos hlt, if_pos (by omega)]
   ·rw [if_neg hlt, if_neg (by omega)]
theorem usK_th (us : List Wr) (k : Nat) : (usK us k).map Wr.th = us.map Wr.th := by
 apply List.ext_getElem
 ·simp [usK]
 ·intro i h1 h2
  have hi : i < us.length := by simpa using h2
  rw [List.getElem_map, List.getElem_map]
  have e1 : (usK us k)[i]'(by rw [usK_len]; exact hi) = (usK us k).getD i default := by rw [List.getD_eq_getElem?_getD, List.getElem?_eq_getElem (by rw [usK_len]; exact hi)]; rfl
  rw [e1, usK_get us k i hi, List.getD_eq_getElem?_getD, List.getElem?_eq_getElem hi]
  split <;> rfl
theorem usK_mem {us : List Wr} {k : Nat} {u : Wr} (h : u ∈ usK us k) : ∃ u', u' ∈ us ∧ u.x = u'.x ∧ u.A = u'.A ∧ u.c = u'.c ∧ u.fs = u'.fs := by
 unfold usK at h
 obtain ⟨j, hj, rfl⟩ := List.mem_map.1 h
 have hj' := List.mem_range.1 hj
 refine ⟨us.getD j default, by rw [List.getD_eq_getElem?_getD, List.getElem?_eq_getElem hj']; exact List.getElem_mem hj', ?_⟩
 split <;> exact ⟨rfl, rfl, rfl, rfl⟩
theorem WrB.usK {w : World} {B g : Nat} {us : List Wr} (h : WrB w B g us) (k : Nat) : WrB w B g (usK us k) := fun u hu => by
 obtain ⟨u', h1, h2, h3, h4, h5⟩ := usK_mem hu
 rw [h3, h5]
 exact h u' h1
structure LaySt (Bg : Nat) (w0 wr : World) (b4 b5 bf b13 b8 g : Nat) (A : Option Addr) (c : Nat) (us : List Wr) (last : Nat) (fine : Bool) (Bw : Nat) (vw : Value) (ws : List Nat) (vr : Value) (rs : List Nat) : Prop where
 v : LayV wr b5 bf b13 A c us fine
 box : Blk wr b4 130 #[.int .i64 2, .int .i64 0, .int .u32 last, vw, vr]
 res : Blk wr b8 130 #[.int .i64 0, .int .i64 0, .int .u32 0, .slice none 0 0, .slice none 0 0]
 wo : wr.ownsRow Bw 32 1 vw ws.length (u32s ws)
 ro : wr.ownsRow Bw 54 1 vr rs.length (u32s rs)
 fr : Below Bg w0 wr
 flds : WrB wr w0.heap.size g us
 l4 : w0.heap.size ≤ b4 ∧ b4 < Bw
 l5 : w0.heap.size ≤ b5 ∧ b5 < Bw
 lf : w0.heap.size ≤ bf ∧ bf < Bw
 l13 : w0.heap.size ≤ b13 ∧ b13 < Bw
 l8 : w0.heap.size ≤ b8 ∧ b8 < Bw
 lg : g < w0.heap.size
 lB : Bg ≤ g
 eg : 0 < us.length → A = some ⟨g, 0, none⟩
 n48 : b4 ≠ b8
 top : Bw ≤ wr.heap.size
 kept : ∀ k, k < w0.heap.size → k ≠ g → wr.heap[k]? = w0.heap[k]?
section
variable {Bg b4 b5 bf b13 b8 g c last Bw : Nat} {w0 wr w' : World} {A : Option Addr} {us : List Wr} {fine fine' : Bool} {vw vr v' : Value} {ws rs : List Nat}
theorem LaySt.re (S : LaySt Bg w0 wr b4 b5 bf b13 b8 g A c us last fine Bw vw ws vr rs) {vw' vr' : Value} {ws' rs' : List Nat} (hos : w'.os = wr.os) (ht : w'.tape = wr.tape) (ho : w'.output = wr.output) (hsz : wr.heap.size ≤ w'.heap.size)
 (hk : ∀ k, k < Bw → k ≠ bf → k ≠ b4 → w'.heap[k]? = wr.heap[k]?) (hf : Blk w' bf 4 #[.bool fine']) (hb : Blk w' b4 130 #[.int .i64 2, .int .i64 0, .int .u32 last, vw', vr'])
 (hw : w'.ownsRow Bw 32 1 vw' ws'.length (u32s ws')) (hr : w'.ownsRow Bw 54 1 vr' rs'.length (u32s rs')) : LaySt Bg w0 w' b4 b5 bf b13 b8 g A c us last fine' Bw vw' ws' vr' rs' := by
 have n5f : b5 ≠ bf := fun e => by have h1 := S.v.b.objs; have h2 := S.v.b.fn; unfold Blk at h1 h2; rw [e, h2] at h1; injection h1 with h1; injection h1 with _ h1; exact absurd h1 (by decide)
 have n54 : b5 ≠ b4 := fun e => by have h1 := S.v.b.objs; have h2 := S.box; unfold Blk at h1 h2; rw [e, h2] at h1; injection h1 with h1; injection h1 with _ h1; exact absurd h1 (by decide)
 have n13f : b13 ≠ bf := fun e => by have h1 := S.v.cl; have h2 := S.v.b.fn; unfold Blk at h1 h2; rw [e, h2] at h1; injection h1 with h1; injection h1 with _ h1; exact absurd h1 (by decide)
 have n134 : b13 ≠ b4 := fun e => by have h1 := S.v.cl; have h2 := S.box; unfold Blk at h1 h2; rw [e, h2] at h1; injection h1 with h1; injection h1 with _ h1; exact absurd h1 (by decide)
 have n8f : b8 ≠ bf := fun e => by have h1 := S.res; have h2 := S.v.b.fn; unfold Blk at h1 h2; rw [e, h2] at h1; injection h1 with h1; injection h1 with _ h1; exact absurd h1 (by decide)
 have l4 := S.l4
 have lf := S.lf
 have lg := S.lg
 refine ⟨⟨⟨S.v.b.objs.same (hk _ S.l5.2 n5f n54), hf, fun h0 => ?_, S.v.b.pl, S.v.b.top, S.v.b.len⟩, S.v.cl.same (hk _ S.l13.2 n13f n134)⟩, hb, S.res.same (hk _ S.l8.2 n8f (Ne.symm S.n48)), hw, hr, ⟨hos.trans S.fr.os, ht.trans S.fr.tape, ho.trans S.fr.output, Nat.le_trans S.fr.size hsz, fun k hkB => (hk k (by have := S.lB; omega) (by have := S.lB; omega) (by have := S.lB; omega)).trans (S.fr.block k hkB)⟩,
  S.flds.keep (fun k h1 h2 => hk k (by omega) (by omega) (by omega)), S.l4, S.l5, S.lf, S.l13, S.l8, S.lg, S.lB, S.eg, S.n48, Nat.le_trans S.top hsz, fun k h1 h2 => (hk k (by omega) (by omega) (by omega)).trans (S.kept k h1 h2)⟩
 obtain ⟨g', h1, h2⟩ := S.v.b.row h0
 have e := S.eg h0
 rw [h1] at e
 injection e with e
 injection e with e
 subst e
 exact ⟨g', h1, h2.same (hk g' (by omega) (by omega) (by omega))⟩
theorem LaySt.below (S : LaySt Bg w0 wr b4 b5 bf b13 b8 g A c us last fine Bw vw ws vr rs) (h : Below wr.heap.size wr w') : LaySt Bg w0 w' b4 b5 bf b13 b8 g A c us last fine Bw vw ws vr rs :=
 S.re h.os h.tape h.output h.size (fun k hk _ _ => h.block k (Nat.lt_of_lt_of_le hk S.top)) (S.v.b.fn.below h S.v.b.fn.lt) (S.box.below h S.box.lt) (own_sameI S.wo (fun k hk => h.block k (S.wo.lt k hk).2)) (own_sameI S.ro (fun k hk => h.block k (S.ro.lt k hk).2))
theorem LaySt.fineS (S : LaySt Bg w0 wr b4 b5 bf b13 b8 g A c us last fine Bw vw ws vr rs) (hf : Blk w' bf 4 #[.bool fine']) (F : Fr1 bf wr w') : LaySt Bg w0 w' b4 b5 bf b13 b8 g A c us last fine' Bw vw ws vr rs := by
 have nf4 : b4 ≠ bf := fun e => by have h1 := S.box; have h2 := S.v.b.fn; unfold Blk at h1 h2; rw [e, h2] at h1; injection h1 with h1; injection h1 with _ h1; exact absurd h1 (by decide)
 exact S.re F.os F.tape F.output F.size (fun k hk h1 _ => F.same k (Nat.lt_of_lt_of_le hk S.top) h1) hf (S.box.fr1 F nf4) (own_sameI S.wo (fun k hk => F.same k (S.wo.lt k hk).2 (by have := (S.wo.lt k hk).1; have := S.lf; omega))) (own_sameI S.ro (fun k hk => F.same k (S.ro.lt k hk).2 (by have := (S.ro.lt k hk).1; have := S.lf; omega)))
theorem own_typ2 {w : World} {base : Nat} {e e' : TypeId} {v v2 : Value} {n n2 k : Nat} {xs ys : List Value} (h : w.ownsRow base e 1 v n xs) (h2 : w.ownsRow base e' 1 v2 n2 ys) (hne : e ≠ e') (hk : v.ownBlock = some k) : v2.ownBlock ≠ some k := by
 intro hk2
 rcases h.2 with ⟨h1, _⟩ | ⟨g1, cap, cur, rfl, _, h3, _⟩
 ·rw [h1] at hk; cases hk
 ·rcases h2.2 with ⟨h1, _⟩ | ⟨g2, cap2, cur2, rfl, _, h4, _⟩
  ·rw [h1] at hk2; cases hk2
  ·injection hk with hk
   injection hk2 with hk2
   simp only at hk hk2
   rw [hk] at h3
   rw [hk2, h3] at h4
   injection h4 with h4
   injection h4 with _ h4
   exact hne h4
theorem LaySt.appW {ys : List Nat} {m : Nat} (S : LaySt Bg w0 wr b4 b5 bf b13 b8 g A c us last fine Bw vw ws vr rs) (hm : ys.length = m) (ho : w'.ownsRow Bw 32 1 v' (ws.length + m) (u32s ws ++ u32s ys)) (hg : wr.grownBy w' vw.ownBlock) :
 LaySt Bg w0 (w'.setCell ⟨b4, 3, none⟩ v') b4 b5 bf b13 b8 g A c us last fine Bw v' (ws ++ ys) vr rs := by
 have hs : ∀ k, k < wr.heap.size → vw.ownBlock ≠ some k → w'.heap[k]? = wr.heap[k]? := fun k h1 h2 => hg.block k h1 (fun e => h2 (by first | exact e | exact e.symm))
 have hB : ∀ k, k < Bw → w'.heap[k]? = wr.heap[k]? := fun k h1 => hs k (Nat.lt_of_lt_of_le h1 S.top) (fun e => by have := (S.wo.lt k e).1; omega)
 have hfar : ∀ k, k ≠ b4 → (w'.setCell ⟨b4, 3, none⟩ v').heap[k]? = w'.heap[k]? := fun k h => Below.heap_setCell w' ⟨b4, 3, none⟩ v' k h
 have hsz : (w'.setCell ⟨b4, 3, none⟩ v').heap.size = w'.heap.size := by simp [World.setCell]
 have nf4 : bf ≠ b4 := fun e => by have h1 := S.box; have h2 := S.v.b.fn; unfold Blk at h1 h2; rw [e, h1] at h2; injection h2 with h2; injection h2 with _ h2; exact absurd h2 (by decide)
 have l4 := S.l4
 refine S.re hg.os hg.tape hg.output (by rw [hsz]; exact hg.size) (fun k h1 _ h3 => (hfar k h3).trans (hB k h1)) ((S.v.b.fn.same (hB _ S.lf.2)).same (hfar _ nf4)) ?_ ?_ ?_
 ·exact (S.box.same (hB _ l4.2)).set_ 3 v'
 ·have h1 := own_sameI (w' := w'.setCell ⟨b4, 3, none⟩ v') ho (fun k e => hfar k (by have := (ho.lt k e).1; omega))
  rw [List.length_append, hm, show u32s (ws ++ ys) = u32s ws ++ u32s ys by simp [u32s]]
  exact h1
 ·exact own_sameI S.ro (fun k e => (hfar k (by have := (S.ro.lt k e).1; omega)).trans (hs k (S.ro.lt k e).2 (own_typ2 S.ro S.wo (by decide) e)))
theorem LaySt.appR {ys : List Nat} {m : Nat} (S : LaySt Bg w0 wr b4 b5 bf b13 b8 g A c us last fine Bw vw ws vr rs) (hm : ys.length = m) (ho : w'.ownsRow Bw 54 1 v' (rs.length + m) (u32s rs ++ u32s ys)) (hg : wr.grownBy w' vr.ownBlock) :
 LaySt Bg w0 (w'.setCell ⟨b4, 4, none⟩ v') b4 b5 bf b13 b8 g A c us last fine Bw vw ws v' (rs ++ ys) := by
 have hs : ∀ k, k < wr.heap.size → vr.ownBlock ≠ some k → w'.heap[k]? = wr.heap[k]? := fun k h1 h2 => hg.block k h1 (fun e => h2 (by first | exact e | exact e.symm))
 have hB : ∀ k, k < Bw → w'.heap[k]? = wr.heap[k]? := fun k h1 => hs k (Nat.lt_of_lt_of_le h1 S.top) (fun e => by have := (S.ro.lt k e).1; omega)
 have hfar : ∀ k, k ≠ b4 → (w'.setCell ⟨b4, 4, none⟩ v').heap[k]? = w'.heap[k]? := fun k h => Below.heap_setCell w' ⟨b4, 4, none⟩ v' k h
 have hsz : (w'.setCell ⟨b4, 4, none⟩ v').heap.size = w'.heap.size := by simp [World.setCell]
 have nf4 : bf ≠ b4 := fun e => by have h1 := S.box; have h2 := S.v.b.fn; unfold Blk at h1 h2; rw [e, h1] at h2; injection h2 with h2; injection h2 with _ h2; exact absurd h2 (by decide)
 have l4 := S.l4
 refine S.re hg.os hg.tape hg.output (by rw [hsz]; exact hg.size) (fun k h1 _ h3 => (hfar k h3).trans (hB k h1)) ((S.v.b.fn.same (hB _ S.lf.2)).same (hfar _ nf4)) ?_ ?_ ?_
 ·exact (S.box.same (hB _ l4.2)).set_ 4 v'
 ·exact own_sameI S.wo (fun k e => (hfar k (by have := (S.wo.lt k e).1; omega)).trans (hs k (S.wo.lt k e).2 (own_typ2 S.wo S.ro (by decide) e)))
 ·have h1 := own_sameI (w' := w'.setCell ⟨b4, 4, none⟩ v') ho (fun k e => hfar k (by have := (ho.lt k e).1; omega))
  rw [List.length_append, hm, show u32s (rs ++ ys) = u32s rs ++ u32s ys by simp [u32s]]
  exact h1
variable {b16 : Nat} {cs : Array Value}
theorem LaySt.oFine (S : LaySt Bg w0 wr b4 b5 bf b13 b8 g A c us last fine Bw vw ws vr rs) (b : Blk wr b16 303 cs) (F : Fr1 bf wr w') : Blk w' b16 303 cs :=
 b.fr1 F (fun e => by have h2 := S.v.b.fn; unfold Blk at b h2; rw [e, h2] at b; injection b with b; injection b with _ b; exact absurd b (by decide))
theorem LaySt.oAppW (S : LaySt Bg w0 wr b4 b5 bf b13 b8 g A c us last fine Bw vw ws vr rs) (b : Blk wr b16 303 cs) (hg : wr.grownBy w' vw.ownBlock) : Blk (w'.setCell ⟨b4, 3, none⟩ v') b16 303 cs := by
 have h1 : b16 ≠ b4 := fun e => by have h2 := S.box; unfold Blk at b h2; rw [e, h2] at b; injection b with b; injection b with _ b; exact absurd b (by decide)
 have h2 : Blk w' b16 303 cs := b.same (hg.block b16 b.lt (fun e => own_blkI S.wo b (by decide) (by first | exact e | exact e.symm)))
 exact h2.same (Below.heap_setCell w' ⟨b4, 3, none⟩ v' b16 h1)
theorem LaySt.room (S : LaySt Bg w0 wr b4 b5 bf b13 b8 g A c us last fine Bw vw ws vr rs) (hg : wr.grownBy w' vw.ownBlock) : Blk w' b4 130 #[.int .i64 2, .int .i64 0, .int .u32 last, vw, vr] :=
 S.box.same (hg.block b4 S.box.lt (fun e => own_blkI S.wo S.box (by decide) (by first | exact e | exact e.symm)))
theorem LaySt.roomR (S : LaySt Bg w0 wr b4 b5 bf b13 b8 g A c us last fine Bw vw ws vr rs) (hg : wr.grownBy w' vr.ownBlock) : Blk w' b4 130 #[.int .i64 2, .int .i64 0, .int .u32 last, vw, vr] :=
 S.box.same (hg.block b4 S.box.lt (fun e => own_blkI S.ro S.box (by decide) (by first | exact e | exact e.symm)))
theorem LaySt.oSet (S : LaySt Bg w0 wr b4 b5 bf b13 b8 g A c us last fine Bw vw ws vr rs) (b : Blk wr b16 303 cs) (hB : Bw ≤ b16) (i : Nat) (u : Value) : LaySt Bg w0 (wr.setCell ⟨b16, i, none⟩ u) b4 b5 bf b13 b8 g A c us last fine Bw vw ws vr rs := by
 have hfar : ∀ k, k ≠ b16 → (wr.setCell ⟨b16, i, none⟩ u).heap[k]? = wr.heap[k]? := fun k h => Below.heap_setCell wr ⟨b16, i, none⟩ u k h
 have hsz : (wr.setCell ⟨b16, i, none⟩ u).heap.size = wr.heap.size := by simp [World.setCell]
 have lf := S.lf
 have l4 := S.l4
 exact S.re rfl rfl rfl (by rw [hsz]; exact Nat.le_refl _) (fun k hk _ _ => hfar k (by omega)) (S.v.b.fn.same (hfar _ (by omega))) (S.box.same (hfar _ (by omega)))
  (own_sameI S.wo (fun k hk => hfar k (fun e => own_blkI S.wo b (by decide) (e ▸ hk)))) (own_sameI S.ro (fun k hk => hfar k (fun e => own_blkI S.ro b (by decide) (e ▸ hk))))
theorem reads5 {w : World} {g n : Nat} {A : Option Addr} {xs : List Value} (h : Reads w w.heap.size 1 A n xs) (hne : 0 < n → ∀ a, A = some a → a.block ≠ g) (x0 x1 x2 x3 x4 : Value) :
 Reads (((((w.setCell ⟨g, 0, none⟩ x0).setCell ⟨g, 1, none⟩ x1).setCell ⟨g, 2, none⟩ x2).setCell ⟨g, 3, none⟩ x3).setCell ⟨g, 4, none⟩ x4) (((((w.setCell ⟨g, 0, none⟩ x0).setCell ⟨g, 1, none⟩ x1).setCell ⟨g, 2, none⟩ x2).setCell ⟨g, 3, none⟩ x3).setCell ⟨g, 4, none⟩ x4).heap.size 1 A n xs :=
 reads1 (reads1 (reads1 (reads1 (reads1 h hne) hne) hne) hne) hne
end
end
section
open Go.RowKit
attribute [local go_sem] Oper.semAt_some
structure BkSt (w0 w : World) (B bR bb mb : Nat) (v : Value) (K L : List Nat) : Prop where
 own : w.ownsRow B 54 1 v K.length (u32s K)
 box : Blk w bb 145 #[.map (some mb), v]
 res : Blk w bR 145 #[.map none, .slice none 0 0]
 map : MapU 54 w mb L
 base : Below w0.heap.size w0 w
 hB : w0.heap.size ≤ B
 top : B ≤ w.heap.size
 hR : w0.heap.size ≤ bR
 hb : w0.heap.size ≤ bb
 hm : w0.heap.size ≤ mb
 ne : bR ≠ bb
 nb : bb < B
 nR : bR < B
section
variable {w0 w w' : World} {B bR bb mb : Nat} {v v' : Value} {K L : List Nat}
theorem BkSt.below (S : BkSt w0 w B bR bb mb v K L) (hb : Below w.heap.size w w') : BkSt w0 w' B bR bb mb v K L :=
 ⟨own_sameI S.own (fun k hk => hb.block k (S.own.lt k hk).2), S.box.below hb S.box.lt, S.res.below hb S.res.lt, S.map.below hb, below_top S.base hb, S.hB, Nat.le_trans S.top hb.size, S.hR, S.hb, S.hm, S.ne, S.nb, S.nR⟩
theorem BkSt.app {x : Nat} (S : BkSt w0 w B bR bb mb v K L) (ho : w'.ownsRow B 54 1 v' (K.length + 1) (u32s K ++ u32s [x])) (hg : w.grownBy w' v.ownBlock) : BkSt w0 (w'.setCell ⟨bb, 1, none⟩ v') B bR bb mb v' (K ++ [x]) L := by
 have hk : ∀ g, g < B → w'.heap[g]? = w.heap[g]? := fun g hgB => hg.block g (by have := S.top; omega) (fun e => by have := (S.own.lt g (by first | exact e | exact e.symm)).1; omega)
 have hfar : ∀ g, g ≠ bb → (w'.setCell ⟨bb, 1, none⟩ v').heap[g]? = w'.heap[g]? := fun g hne => Below.heap_setCell w' ⟨bb, 1, none⟩ v' g hne
 have hsz : (w'.setCell ⟨bb, 1, none⟩ v').heap.size = w'.heap.size := by simp [World.setCell]
 refine ⟨?_, (S.box.same (hk _ S.nb)).set_ 1 v', S.res.same ((hfar _ S.ne).trans (hk _ S.nR)), S.map.same ?_, (S.base.grown hg S.base.size (fun k e => by have := (S.own.lt k e).1; have := S.hB; omega)).setCell (p := ⟨bb, 1, none⟩) S.hb v', S.hB, by rw [hsz]; exact Nat.le_trans S.top hg.size, S.hR, S.hb, S.hm, S.ne, S.nb, S.nR⟩
 ·have h1 := own_sameI (w' := w'.setCell ⟨bb, 1, none⟩ v') ho (fun k e => hfar k (fun e2 => by have := (ho.lt k e).1; have := S.nb; omega))
  simpa [u32s] using h1
 ·obtain ⟨es, c, hm⟩ := S.map.obj
  have h1 : w'.heap[mb]? = w.heap[mb]? := hg.block mb S.map.lt (fun e => own_typeI S.own hm (fun cs e2 => by cases e2) (by first | exact e | exact e.symm))
  refine (hfar _ (fun e => ?_)).trans h1
  subst e
  have h2 := S.box
  unfold Blk at h2
  rw [hm] at h2
  injection h2 with h2
  cases h2
theorem BkSt.room (S : BkSt w0 w B bR bb mb v K L) (hg : w.grownBy w' v.ownBlock) : w'.frozen? ⟨bb, 1, none⟩ = false ∧ w'.cell? ⟨bb, 1, none⟩ = some v := by
 have hk : w'.heap[bb]? = w.heap[bb]? := hg.block bb S.box.lt (fun e => by have := (S.own.lt bb (by first | exact e | exact e.symm)).1; have := S.nb; omega)
 have h := S.box.same hk
 exact ⟨h.frozen 1, h.cell 1⟩
theorem BkSt.put {x : Nat} (S : BkSt w0 w B bR bb mb v K L) (hM : MapU 54 w' mb (L ++ [x])) (hg : w.grownBy w' (some mb)) : BkSt w0 w' B bR bb mb v K (L ++ [x]) := by
 obtain ⟨es, c, hm⟩ := S.map.obj
 have hk : ∀ g, g < w.heap.size → g ≠ mb → w'.heap[g]? = w.heap[g]? := fun g h1 h2 => hg.block g h1 (fun e => h2 (by injection e))
 have hb : ∀ g t cs, Blk w g t cs → g ≠ mb := fun g t cs b e => by
  subst e
  unfold Blk at b
  rw [hm] at b
  injection b with b
  cases b
 refine ⟨own_sameI S.own (fun k e => hk k (S.own.lt k e).2 (fun e2 => own_typeI S.own hm (fun cs e3 => by cases e3) (e2 ▸ e))), S.box.same (hk _ S.box.lt (hb _ _ _ S.box)), S.res.same (hk _ S.res.lt (hb _ _ _ S.res)), hM, S.base.grown hg S.base.size (fun k e => by injection e with e; have := S.hm; omega), S.hB, Nat.le_trans S.top hg.size, S.hR, S.hb, S.hm, S.ne, S.nb, S.nR⟩
end
def RBookP (L : List Nat) (w : World) (e : Ending) (w' : World) : Prop :=
 ∃ mb v, e = .returned (bookV mb v) ∧ MapU 54 w' mb L ∧ w'.ownsRow w.heap.size 54 1 v L.length (u32s L) ∧ w.heap.size ≤ mb ∧ Below w.heap.size w w'
set_option maxRecDepth 100000 in
set_option maxHeartbeats 4000000 in
theorem rbook_any {w : World} {p : HP} {h : HM} {l : List Ob} (R : RAt w p h) (G : h.Good l) : Calls Tryz.prog 68 #[ptr p.g] w (RBookP (oopsL l) w) := by
 have hroom := G.fit.room
 have hhi := G.fit.hi
 have hlen := oopsL_le G
 have HH := Lib.hid (fun (w' : World) (hb : Below w.heap.size w w') => R.below hb)
 have HF := Lib.hid (fun (w' : World) (hb : Below w.heap.size w w') => rfirst_any (R.below hb) G.fit)
 have HN := Lib.hid (fun (w' : World) (hb : Below w.heap.size w w') (k : Nat) (hk : k < l.length) => rnext_any (R.below hb) G.fit G.laid.heads (2 * posOf (l.take k)) (by have := posOf_take_lt G k hk; omega) (isB_at G k hk))
 unfold ptr at HF HN ⊢
 have hmm := @run_makeMap Tryz.prog
 clear R
 go_enter Tryz.func68, Tryz.ntmps68
 obtain ⟨i0, hi0, hz0, hz1, hz2⟩ := info_parts info_oop
 go_wp2_with fail
 have hB0 : Below w.heap.size w (((w.alloc (.cells #[.map none, .slice none 0 0] 145)).alloc (.map #[] 0)).alloc (.cells #[.map (some (w.heap.size + 1)), .slice none 0 0] 145)) :=
  (((Below.refl _ w).alloc (Nat.le_refl _) _).alloc (by simp) _).alloc (by simp; omega) _
 have hS0 : BkSt w (((w.alloc (.cells #[.map none, .slice none 0 0] 145)).alloc (.map #[] 0)).alloc (.cells #[.map (some (w.heap.size + 1)), .slice none 0 0] 145)) (w.heap.size + 3) w.heap.size (w.heap.size + 1 + 1) (w.heap.size + 1) (.slice none 0 0) [] [] := by
  have b2 := Blk.new ((w.alloc (.cells #[.map none, .slice none 0 0] 145)).alloc (.map #[] 0)) 145 #[.map (some (w.heap.size + 1)), .slice none 0 0]
  have m1 := MapU.made (w.alloc (.cells #[.map none, .slice none 0 0] 145)) 54
  rw [World.size_alloc, World.size_alloc] at b2
  rw [World.size_alloc] at m1
  exact ⟨⟨rfl, .inl ⟨rfl, rfl⟩⟩, b2, ((Blk.new w _ _).alloc _).alloc _, m1.below ((Below.refl _ _).alloc (Nat.le_refl _) _), hB0, by omega, by simp, Nat.le_refl _, by omega, by omega, by omega, by omega, by omega⟩
 have HS0 := Lib.hid hS0
 have hf := HF.out _ hB0
 rw [first_oopI G] at hf
 clear hS0 HF
 generalize ((w.alloc (.cells #[.map none, .slice none 0 0] 145)).alloc (.map #[] 0)).alloc (.cells #[.map (some (w.heap.size + 1)), .slice none 0 0] 145) = W0 at *
 refine hf.mono ?_
 rintro e W1 ⟨rfl, rfl⟩
 clear hf hB0
 go_wp2_with fail
 go_loopw [4] (fun o wr => ∃ (k : Nat) (v : Value), k ≤ l.length ∧ o = .int .u32 ((oopI l k : Nat) : Int) ∧ BkSt w wr (w.heap.size + 3) w.heap.size (w.heap.size + 1 + 1) (w.heap.size + 1) v ((oopsL l).take k) ((oopsL l).take k)) (fun o _ => mesO o)
 case atStart => exact ⟨0, _, by omega, rfl, HS0.out⟩
 case round =>
  clear HS0
  obtain ⟨k, v, hk, rfl, S⟩ := hrel
  by_cases hlt : k < l.length
  ·have hO := Lib.hid (show oopI l k = 2 * posOf (l.take k) by unfold oopI; rw [if_pos hlt])
   have hpl := posOf_take_lt G k hlt
   have hpp := posOf_pos (l.take k)
   have HME := Lib.hid (show oopI l (k + 1) = 0 ∨ 2 * posOf (l.take k) < oopI l (k + 1) by
    unfold oopI
    split
    ·have := posOf_take_succ k hlt; right; omega
    ·exact .inl rfl)
   have HMX := Lib.hid (show oopI l (k + 1) < 4294967296 by
    unfold oopI
    split
    ·rename_i h1; have := posOf_take_lt G (k + 1) h1; omega
    ·omega)
   have HTK := Lib.hid (oopsL_take1 hlt)
   have HNW := Lib.hid (oopsL_new hlt)
   have HKL := Lib.hid (show ((oopsL l).take k).length = k by rw [List.length_take, oopsL_len]; omega)
   have HST := Lib.hid (show (stL ((oopsL l).take k)).2.1 = k by rw [(stL_nodup _ ((List.take_sublist k _).nodup (oopsL_nodup l))).1]; exact HKL.out)
   have HNX := Lib.hid (fun (w' : World) (hb : Below w.heap.size w w') => HN.out w' hb k hlt)
   rw [next_oopI G k hlt] at HNX
   rw [hO.out]
   have HOB := Lib.hid (show 2 * posOf (l.take k) < 4294967296 ∧ 0 < 2 * posOf (l.take k) by omega)
   have ho : (((2 * posOf (l.take k) : Nat) : Int) != 0) = true := by simp; omega
   have hkk : k ≤ 1048576 := by rw [oopsL_len] at hlen; omega
   clear hpl hpp hO HN
   generalize hq : 2 * posOf (l.take k) = o at *
   clear hq
   generalize hK : (oopsL l).take k = K at *
   clear hK
   have hown := S.own
   rw [HKL.out] at hown
   obtain ⟨A, c, rfl, -⟩ := own_sliceI hown
   have HO := Lib.hid hown
   have HS := Lib.hid S
   have c0 := S.box.cell 0
   have c1 := S.box.cell 1
   have z1 := S.box.frozen 1
   have hbt := S.box.lt
   clear hown S
   go_upto_region 6 with (at_builtin; refine wpList_append_any _ rfl (.tmp 15) (.tmp 17) _ rfl (w.heap.size + 3) 54 i0 _ 1 4 Tryz.underlying101 hi0 hz0 hz1 hz2 rfl (by omega) (.slice A k c) k _ rfl (HO.out.alloc _) (wr.heap.size + 1) (some ⟨wr.heap.size, 0, none⟩) 1 1 (u32s [o]) rfl ⟨rfl, fun _ => ⟨_, rfl, by simp, cell_one_new _ _ _⟩⟩ (one_u32s _) (by simp only [maxLen]; omega) (by omega) (by have := HS.out.top; simp; omega) ?_; intro v1 w5 hown5 hgrow hat5; obtain ⟨g5, c5, rfl, -, -, hge5⟩ := Row.of_any hown5 (by omega); have hS4 := HS.out.below ((Below.refl _ _).alloc (Nat.le_refl _) (.cells #[.int .u32 (o : Int)] 54)); obtain ⟨hfz, hcu⟩ := hS4.room hgrow; have HS5 := Lib.hid (hS4.app (x := o) (by rw [HKL.out]; exact hown5) hgrow); clear hS4 hown5 hgrow hat5 hge5 c0 c1 z1)
   clear hfz hcu
   generalize w5.setCell ⟨w.heap.size + 1 + 1, 1, none⟩ (.slice (some ⟨g5, 0, none⟩) (k + 1) c5) = W6 at *
   have c0 := HS5.out.box.cell 0
   have c1 := HS5.out.box.cell 1
   have hwk : IntKind.u32.wrap ((k : Int) + 1) = (k : Int) + 1 := by show ((k : Int) + 1) % 4294967296 = _; omega
   obtain ⟨W7, hpt, HM7, hg7⟩ := HS5.out.map.put oopTyU HOB.out.1 (by rw [HKL.out]; omega)
   rw [HST.out] at hpt
   have HS7 := Lib.hid (HS5.out.put HM7 hg7)
   clear HM7 hg7 HS5
   go_wp2_with fail
   refine (HNX.out _ HS7.out.base).mono ?_
   rintro e W8 ⟨rfl, hb8⟩
   have HS8 := Lib.hid (HS7.out.below hb8)
   clear HS7 hb8 c0 c1 hpt
   generalize hno : oopI l (k + 1) = no at *
   have HNO := Lib.hid hno
   clear hno
   go_wp2_with fail
   go_roundw
   case rel => exact ⟨k + 1, _, by omega, by rw [HNO.out], by rw [HTK.out]; exact HS8.out⟩
   case measure => exact mesO_lt HME.out HOB.out.2 HOB.out.1 HMX.out
  ·obtain rfl : k = l.length := by omega
   have hO := Lib.hid (show oopI l l.length = 0 by unfold oopI; rw [if_neg hlt])
   rw [hO.out]
   have hS := S
   rw [List.take_of_length_le (by rw [oopsL_len]; omega)] at hS
   obtain ⟨A, c, rfl, -⟩ := own_sliceI hS.own
   have HS := Lib.hid hS
   have c0 := hS.box.cell 0
   have c1 := hS.box.cell 1
   have d0 := hS.res.cell 0
   have d1 := hS.res.cell 1
   have z0 := hS.res.frozen 0
   have z1 := hS.res.frozen 1
   have BF := Lib.hid ((hS.res.set_ 0 (.map (some (w.heap.size + 1)))).set_ 1 (.slice A (oopsL l).length c))
   clear S hS hlt hk
   go_wp2_with fail
   have f0 := BF.out.cell 0
   have f1 := BF.out.cell 1
   refine bodyPost_ret (v := .agg #[.map (some (w.heap.size + 1)), .slice A (oopsL l).length c]) (by simp [results, Tryz.results68, go_sem, f0, f1]) rfl ?_
   have hfar : ∀ g, g ≠ w.heap.size → ((wr.setCell ⟨w.heap.size, 0, none⟩ (.map (some (w.heap.size + 1)))).setCell ⟨w.heap.size, 1, none⟩ (.slice A (oopsL l).length c)).heap[g]? = wr.heap[g]? := fun g hne =>
    (Below.heap_setCell _ ⟨w.heap.size, 1, none⟩ _ g hne).trans (Below.heap_setCell _ ⟨w.heap.size, 0, none⟩ _ g hne)
   exact ⟨w.heap.size + 1, _, rfl, HS.out.map.same (hfar _ (by omega)), own_lessI (own_sameI HS.out.own (fun k e => hfar k (by have := (HS.out.own.lt k e).1; omega))) (by omega), by omega, (HS.out.base.setCell (p := ⟨w.heap.size, 0, none⟩) (Nat.le_refl _) _).setCell (p := ⟨w.heap.size, 1, none⟩) (Nat.le_refl _) _⟩
end
section
open Go.RowKit
attribute [local go_sem] Oper.semAt_some
theorem ibM_at (ys : List Nat) : ∀ i, i < 4 * ys.length → (bytesM ys)[i]? = some (byteOf (ys.getD (i / 4) 0) (i % 4)) := by
 intro i hi
 have h := bytesM_getD4 ys (i / 4) (by omega) (i % 4) (by omega)
 have hl : i < (bytesM ys).length := by rw [bytesM_len]; exact hi
 rw [show 4 * (i / 4) + i % 4 = i by omega, List.getD_eq_getElem?_getD, List.getElem?_eq_getElem hl] at h
 rw [List.getElem?_eq_getElem hl]
 simp only [Option.getD_some] at h
 rw [h]
 unfold byteOf bytes4
 have hr : i % 4 = 0 ∨ i % 4 = 1 ∨ i % 4 = 2 ∨ i % 4 = 3 := by omega
 rcases hr with e | e | e | e <;> rw [e] <;> simp
section
variable {w : World} {p : HP} {h : HM} {l : List Ob}
theorem hdAt_at (G : h.Good l) (k : Nat) (hk : k < l.length) : h.hdAt (2 * posOf (l.take k) / 2) := by
 have hb := isB_at G k hk
 unfold HM.isB at hb
 simp only [Bool.and_eq_true] at hb
 exact G.laid.heads _ hb.2
theorem roget_any (R : RAt w p h) (G : h.Good l) (k : Nat) (hk : k < l.length) (i : Nat) (hi : i < (l[k]).fs.length) (hf : (l[k]).x.fmt = 1 ∨ (l[k]).x.fmt = 4) (ho : 2 * posOf (l.take k) < 4294967296) :
 Calls Tryz.prog 156 #[ptr p.g, .int .u32 (2 * posOf (l.take k) : Nat), .int .i64 i] w (Told (.tuple #[.int .u32 ((l[k]).fs.getD i 0 : Nat), .int .i64 0]) w) := by
 obtain ⟨h1, K, h3, h4, h5⟩ := ob_at G k hk
 have hz := ok_size K
 have hG := rget_any R G.fit G.laid.heads _ ho (i : Int) (by omega)
 have hln : (l[k]).x.len = (l[k]).fs.length := by unfold Hd.len; rw [if_neg (by omega), K.size]
 have he : h.lookE (2 * posOf (l.take k)) (i : Int) [1, 4] = 0 := by
  unfold HM.lookE
  rw [h4, h5, if_neg (by decide), if_neg (by rcases hf with e | e <;> rw [e] <;> decide), if_neg (by omega)]
 unfold HM.readN at hG
 rw [he, if_pos rfl, Int.toNat_natCast, h3 i hi] at hG
 exact hG
theorem roword_any (R : RAt w p h) (G : h.Good l) (k : Nat) (hk : k < l.length) (i : Nat) (hi : i < (l[k]).fs.length) (hf : (l[k]).x.fmt = 3) (ho : 2 * posOf (l.take k) < 4294967296) :
 Calls Tryz.prog 155 #[ptr p.g, .int .u32 (2 * posOf (l.take k) : Nat), .int .i64 i] w (Told (.tuple #[.int .u32 ((l[k]).fs.getD i 0 : Nat), .int .i64 0]) w) := by
 obtain ⟨h1, K, h3, h4, h5⟩ := ob_at G k hk
 have hz := ok_size K
 have hG := rword_any R G.fit G.laid.heads _ ho (i : Int) (by omega)
 have hln : (l[k]).x.len = (l[k]).fs.length := by unfold Hd.len; rw [if_neg (by omega), K.size]
 have he : h.lookE (2 * posOf (l.take k)) (i : Int) [3] = 0 := by
  unfold HM.lookE
  rw [h4, h5, if_neg (by decide), if_neg (by rw [hf]; decide), if_neg (by omega)]
 unfold HM.readN at hG
 rw [he, if_pos rfl, Int.toNat_natCast, h3 i hi] at hG
 exact hG
theorem robyte_any (R : RAt w p h) (G : h.Good l) (k : Nat) (hk : k < l.length) (i : Nat) (hi : i < (l[k]).x.len) (hf : (l[k]).x.fmt = 2) (ho : 2 * posOf (l.take k) < 4294967296) :
 Calls Tryz.prog 154 #[ptr p.g, .int .u32 (2 * posOf (l.take k) : Nat), .int .i64 i] w (Told (.tuple #[.int .u8 ((bytesM (l[k]).fs).getD i 0 : Nat), .int .i64 0]) w) := by
 obtain ⟨h1, K, h3, h4, h5⟩ := ob_at G k hk
 have hz := ok_size K
 have hln : (l[k]).x.len = 4 * (l[k]).fs.length - (l[k]).x.spare := by unfold Hd.len; rw [if_pos hf, K.size]
 have hG := rbyte_any R G.fit G.laid.heads _ ho (i : Int) (by omega)
 have he : h.lookE (2 * posOf (l.take k)) (i : Int) [2] = 0 := by
  unfold HM.lookE
  rw [h4, h5, if_neg (by decide), if_neg (by rw [hf]; decide), if_neg (by omega)]
 have hb : (bytesM (l[k]).fs).getD i 0 = fb h (2 * posOf (l.take k)) i := by
  rw [List.getD_eq_getElem?_getD, ibM_at _ i (by omega)]
  unfold fb
  rw [h3 (i / 4) (by omega)]
  rfl
 unfold HM.byteN at hG
 rw [he, if_pos rfl, Int.toNat_natCast, ← hb] at hG
 exact hG
end
structure ROb (w2 W : World) (B bk mb : Nat) (va : Value) (b9 : Nat) (X : Hd) (v : Value) (bs : List Nat) : Prop where
 rb : RB w2 W B v bs
 bk : Blk W bk 145 #[.map (some mb), va]
 hd : Blk W b9 75 X.cells
section
variable {w2 W W' : World} {B bk mb b9 : Nat} {va v v' : Value} {X : Hd} {bs cs : List Nat} {e : Ending}
theorem ROb.below (S : ROb w2 W B bk mb va b9 X v bs) (hb : Below W.heap.size W W') : ROb w2 W' B bk mb va b9 X v bs := ⟨S.rb.below hb, S.bk.below hb S.bk.lt, S.hd.below hb S.hd.lt⟩
theorem ROb.bytes (S : ROb w2 W B bk mb va b9 X v bs) (h : BytesB B v bs cs W e W') : ∃ v', e = .returned v' ∧ ROb w2 W' B bk mb va b9 X v' (bs ++ cs) := by
 obtain ⟨v', rfl, C⟩ := S.rb.bytes h
 exact ⟨v', rfl, C, h.blk S.bk (own_blkI S.rb.own S.bk (by decide)), h.blk S.hd (own_blkI S.rb.own S.hd (by decide))⟩
theorem ROb.grown (S : ROb w2 W B bk mb va b9 X v bs) (C : RB w2 W' B v' cs) (hg : W.grownBy W' v.ownBlock) : ROb w2 W' B bk mb va b9 X v' cs :=
 ⟨C, S.bk.same (hg.block bk S.bk.lt (fun e => own_blkI S.rb.own S.bk (by decide) (by first | exact e | exact e.symm))), S.hd.same (hg.block b9 S.hd.lt (fun e => own_blkI S.rb.own S.hd (by decide) (by first | exact e | exact e.symm)))⟩
end
set_option maxRecDepth 100000 in
set_option maxHeartbeats 8000000 in
theorem robject_any {w2 w : World} {p : HP} {h : HM} {l : List Ob} {mb B : Nat} {va v : Value} {bs : List Nat} (R : RAt w2 p h) (G : h.Good l) (M : MapU 54 w2 mb (oopsL l)) (C : RB w2 w B v bs) (hn : bs.length ≤ 500000000000) (kk : Nat) (hkk : kk < l.length) :
 Calls Tryz.prog 71 #[bookV mb va, v, ptr p.g, .int .u32 (2 * posOf (l.take kk) : Nat)] w (fun e w' => ∃ v', e = .returned v' ∧ RB w2 w' B v' (bs ++ objB' (oopsL l) l[kk])) := by
 obtain ⟨hfl, hok, hfw, hib, hhd⟩ := ob_at G kk hkk
 have hpl := posOf_take_lt G kk hkk
 have hroom := G.fit.room
 have hhi := G.fit.hi
 have ho : 2 * posOf (l.take kk) < 4294967296 := by omega
 have hL := oopsL_le G
 have hnd := oopsL_nodup l
 have h00 := oopsL_zero l
 have hd := hdAt_at G kk hkk
 have HHD := Lib.hid (fun W' (hb : Below w2.heap.size w2 W') => rheader_any (R.below hb) G.fit _ ho hd)
 have HLN := Lib.hid (fun W' (hb : Below w2.heap.size w2 W') => rlen_any (R.below hb) G.fit _ ho hd)
 rw [hhd] at HHD HLN
 have HGT := Lib.hid (fun W' (hb : Below w2.heap.size w2 W') i hi hf => roget_any (R.below hb) G kk hkk i hi hf ho)
 have HWD := Lib.hid (fun W' (hb : Below w2.heap.size w2 W') i hi hf => roword_any (R.below hb) G kk hkk i hi hf ho)
 have HBY := Lib.hid (fun W' (hb : Below w2.heap.size w2 W') i hi hf => robyte_any (R.below hb) G kk hkk i hi hf ho)
 have HMP := Lib.hid (fun W' (hb : Below w2.heap.size w2 W') => M.below hb)
 have HVL := Lib.hid (fun W' (hb : Below w2.heap.size w2 W') o (ho : o < 4294967296) => rbvalue_any (va := va) (M.below hb) hL hnd h00 o ho)
 have HNB := Lib.hid (fun (w' : World) (v' : Value) (bs' : List Nat) (C : RB w2 w' B v' bs') (hn' : bs'.length ≤ 10000000000000) (x : Nat) (hx : x < 4294967296) => rnumber_any C.own C.top hn' x hx)
 have HLK := Lib.hid (fun W' (hb : Below w2.heap.size w2 W') o (ho : o < 4294967296) => (M.below hb).look hnd oopTyU (x := o) ho)
 unfold ptr at HHD HLN HGT HWD HBY ⊢
 unfold bookV at HVL ⊢
 clear R G M hfl hfw hib hhd hpl hd
 generalize (l[kk]) = b at *
 generalize 2 * posOf (l.take kk) = o at *
 generalize oopsL l = L at *
 have hcl := hok.fit.cls
 have hnl : numL L b.x.cls < 4294967296 := by have := numL_le L b.x.cls; omega
 have hsz2 := ok_size hok
 have HSZQ := Lib.hid hok.size
 have hsz3 : b.x.size ≤ 65535 := by rw [hok.size]; exact hsz2
 have hser := hok.fit.ser
 have hxl : b.x.len ≤ 300000 := by unfold Hd.len; split <;> omega
 have hfm := hok.fit.fmt
 have hfp := hok.fit.spare
 have HBN := Lib.hid (show (cnt7 (numL L b.x.cls)).length ≤ 5 ∧ (cnt7 b.x.size).length ≤ 5 ∧ (cnt7 b.x.ser).length ≤ 5 from ⟨cnt7I_len5 hnl, cnt7I_len5 (by omega), cnt7I_len5 hser⟩)
 have HEQ := Lib.hid (show objB' L b = cnt7 (numL L b.x.cls) ++ ([b.x.fmt + 16 * b.x.spare] ++ (cnt7 b.x.size ++ (cnt7 b.x.ser ++ payB L b))) from rfl)
 have HC0 := Lib.hid (C.alloc (.cells #[.map (some mb), va] 145))
 have HV := Lib.hid (show b.x.val = .agg #[.int .i64 b.x.size, .int .i64 b.x.fmt, .int .i64 b.x.spare, .int .u32 b.x.cls, .int .u32 b.x.ser] from rfl)
 have BK0 := Blk.new w 145 #[.map (some mb), va]
 have hBw : B ≤ w.heap.size := C.top
 have hwsz : IntKind.u32.wrap (b.x.size : Int) = (b.x.size : Int) := by show (b.x.size : Int) % 4294967296 = _; omega
 clear C
 go_enter Tryz.func71, Tryz.ntmps71
 go_wp2_with fail
 have HBK := Lib.hid BK0
 clear BK0
 have hbk : w.heap.size < (w.alloc (.cells #[.map (some mb), va] 145)).heap.size := by simp
 generalize w.alloc (.cells #[.map (some mb), va] 145) = W0 at *
 refine (HHD.out _ HC0.out.base).mono ?_
 rintro e W1 ⟨rfl, hb1⟩
 rw [HV.out]
 have HS := Lib.hid (show ROb w2 (W1.alloc (.cells b.x.cells 75)) B w.heap.size mb va W1.heap.size b.x v bs from ⟨(HC0.out.below hb1).alloc _, (HBK.out.below hb1 HBK.out.lt).alloc _, Blk.new W1 _ _⟩)
 unfold Hd.cells at HS
 clear HC0 HBK hb1 hbk
 go_upto_region 2 with fail
 generalize W1.alloc (.cells #[.int .i64 b.x.size, .int .i64 b.x.fmt, .int .i64 b.x.spare, .int .u32 b.x.cls, .int .u32 b.x.ser] 75) = W2 at *
 have q0 := HS.out.bk.cell 0
 have q1 := HS.out.bk.cell 1
 have x0 := HS.out.hd.cell 0
 have x1 := HS.out.hd.cell 1
 have x2 := HS.out.hd.cell 2
 have x3 := HS.out.hd.cell 3
 have x4 := HS.out.hd.cell 4
 unfold Hd.cells at x0 x1 x2 x3 x4
 have hlk := HLK.out _ HS.out.rb.base _ hcl
 go_wp2_with fail
 refine (HNB.out _ _ _ HS.out.rb (by omega) _ hnl).mono ?_
 rintro e w3 hB3
 obtain ⟨v3, rfl, S3⟩ := HS.out.bytes hB3
 clear HS q0 q1 x0 x1 x2 x3 x4 hlk hB3
 have HS := Lib.hid S3
 clear S3
 have q0 := HS.out.bk.cell 0
 have q1 := HS.out.bk.cell 1
 have x0 := HS.out.hd.cell 0
 have x1 := HS.out.hd.cell 1
 have x2 := HS.out.hd.cell 2
 have x3 := HS.out.hd.cell 3
 have x4 := HS.out.hd.cell 4
 unfold Hd.cells at x0 x1 x2 x3 x4
 go_wp2_with (at_builtin; refine wpList_app_RB (.tmp 27) (.tmp 35) (HS.out.rb.alloc _) (reads_one w3 (b.x.fmt + 16 * b.x.spare)) rfl rfl (by have := HBN.out; simp only [List.length_append]; omega) rfl rfl ?_; intro v7 w7 C7 hg7; have HS7 := Lib.hid ((HS.out.below ((Below.refl _ _).alloc (Nat.le_refl _) (.cells #[.int .u8 ((b.x.fmt + 16 * b.x.spare : Nat) : Int)] 5))).grown C7 hg7); clear C7 hg7 HS q0 q1 x0 x1 x2 x3 x4; have HS := Lib.hid HS7.out; clear HS7; have x0 := HS.out.hd.cell 0; unfold Hd.cells at x0)
 refine (HNB.out _ _ _ HS.out.rb (by have := HBN.out; simp only [List.length_append, List.length_cons, List.length_nil]; omega) b.x.size (by omega)).mono ?_
 rintro e w4 hB4
 obtain ⟨v4, rfl, S4⟩ := HS.out.bytes hB4
 clear HS x0 hB4
 have HS := Lib.hid S4
 clear S4
 have q0 := HS.out.bk.cell 0
 have q1 := HS.out.bk.cell 1
 have x0 := HS.out.hd.cell 0
 have x1 := HS.out.hd.cell 1
 have x2 := HS.out.hd.cell 2
 have x3 := HS.out.hd.cell 3
 have x4 := HS.out.hd.cell 4
 unfold Hd.cells at x0 x1 x2 x3 x4
 go_wp2_with fail
 refine (HNB.out _ _ _ HS.out.rb (by have := HBN.out; simp only [List.length_append, List.length_cons, List.length_nil]; omega) b.x.ser hser).mono ?_
 rintro e w5 hB5
 obtain ⟨v5, rfl, S5⟩ := HS.out.bytes hB5
 clear HS q0 q1 x0 x1 x2 x3 x4 hB5
 have HS := Lib.hid S5
 clear S5
 generalize hbs4 : bs ++ cnt7 (numL L b.x.cls) ++ [b.x.fmt + 16 * b.x.spare] ++ cnt7 b.x.size ++ cnt7 b.x.ser = bs4 at *
 have HBS := Lib.hid hbs4
 have HB4L := Lib.hid (show bs4.length ≤ 500000000100 by rw [← hbs4]; obtain ⟨a1, a2, a3⟩ := HBN.out; simp only [List.length_append, List.length_cons, List.length_nil]; omega)
 clear hbs4
 have q0 := HS.out.bk.cell 0
 have q1 := HS.out.bk.cell 1
 have x0 := HS.out.hd.cell 0
 have x1 := HS.out.hd.cell 1
 have x2 := HS.out.hd.cell 2
 have x3 := HS.out.hd.cell 3
 have x4 := HS.out.hd.cell 4
 unfold Hd.cells at x0 x1 x2 x3 x4
 by_cases h2 : b.x.fmt = 2
 ·have hd2 : ((b.x.fmt : Int) == 2) = true := by simp; omega
  have HPE := Lib.hid (show payB L b = (bytesM b.fs).take b.x.len by unfold payB; rw [if_pos h2])
  have HF := Lib.hid h2
  clear h2
  go_wp2_with fail
  go_loopw [1, 10] (fun b' i wr => ∃ k : Nat, i = .int .i64 k ∧ k ≤ b.x.len ∧ ROb w2 wr B w.heap.size mb va W1.heap.size b.x b' (bs4 ++ (bytesM b.fs).take k)) (fun _ i _ => b.x.len - (intOf i).toNat)
  case atStart => exact ⟨0, rfl, Nat.zero_le _, by simpa using HS.out⟩
  case round =>
   clear HS q0 q1 x0 x1 x2 x3 x4
   obtain ⟨k, rfl, hk, hS⟩ := hrel
   have HS := Lib.hid hS
   clear hS
   by_cases hkn : k < b.x.len
   ·have hd : decide ((k : Int) < (b.x.len : Int)) = true := by simp; omega
    have hbl : (bytesM b.fs).length = 4 * b.fs.length := bytesM_len _
    have hln : b.x.len = 4 * b.fs.length - b.x.spare := by unfold Hd.len; rw [if_pos HF.out, HSZQ.out]
    have hy : (bytesM b.fs).getD k 0 < 256 := by
     rw [List.getD_eq_getElem?_getD, List.getElem?_eq_getElem (by omega)]
     obtain ⟨x, _, h1⟩ := List.mem_flatMap.1 (show (bytesM b.fs)[k] ∈ bytesM b.fs from List.getElem_mem (by omega))
     simp [bytes4] at h1
     simp
     omega
    have HTK := Lib.hid (show (bytesM b.fs).take (k + 1) = (bytesM b.fs).take k ++ [(bytesM b.fs).getD k 0] by rw [List.take_add_one, List.getD_eq_getElem?_getD, List.getElem?_eq_getElem (by omega)]; simp)
    have HPL := Lib.hid (show ((bytesM b.fs).take k).length ≤ 4 * 65535 by rw [List.length_take]; omega)
    have HG := Lib.hid (fun W' hb => HBY.out W' hb k hkn HF.out)
    clear hbl hln
    generalize (bytesM b.fs).getD k 0 = y at *
    generalize (bytesM b.fs).take k = pk at *
    clear hk
    go_wp2_with fail
    refine (HLN.out _ HS.out.rb.base).mono ?_
    rintro e w5 ⟨rfl, hb5⟩
    have HS5 := Lib.hid (HS.out.below hb5)
    have x1 := HS5.out.hd.cell 1
    unfold Hd.cells at x1
    clear hb5 HS
    go_wp2_with fail
    refine (HG.out _ HS5.out.rb.base).mono ?_
    rintro e w6 ⟨rfl, hb6⟩
    have HS6 := Lib.hid (HS5.out.below hb6)
    clear hb6 HS5 x1
    go_wp2_with (at_builtin; refine wpList_app_RB (.tmp 76) (.tmp 78) (HS6.out.rb.alloc _) (reads_one w6 y) rfl rfl (by have := HB4L.out; have := HPL.out; simp only [List.length_append]; omega) rfl rfl ?_; intro v7 w7 C7 hg7; have HS7 := Lib.hid ((HS6.out.below ((Below.refl _ _).alloc (Nat.le_refl _) (.cells #[.int .u8 (y : Int)] 5))).grown C7 hg7); clear C7 hg7)
    go_roundw
    case rel => exact ⟨k + 1, by go_num, by omega, by rw [HTK.out, ← List.append_assoc]; exact HS7.out⟩
    case measure => simp [intOf]; omega
   ·obtain rfl : k = b.x.len := by omega
    have hd : decide ((b.x.len : Int) < (b.x.len : Int)) = false := by simp
    have HS9 := Lib.hid HS.out
    clear hk hkn
    go_wp2_with fail
    refine (HLN.out _ HS.out.rb.base).mono ?_
    rintro e w5 ⟨rfl, hb5⟩
    have HS5 := Lib.hid (HS9.out.rb.below hb5)
    clear hb5 HS HS9
    go_wp2_with fail
    go_ret
    have hfin := HS5.out
    refine ⟨_, rfl, ?_⟩
    rw [HEQ.out, HPE.out]
    rw [← HBS.out] at hfin
    simp only [List.append_assoc] at hfin ⊢
    exact hfin
 ·have hd2 : ((b.x.fmt : Int) == 2) = false := by simp; omega
  have HF2 := Lib.hid h2
  by_cases h3 : b.x.fmt = 3
  ·have hd3 : ((b.x.fmt : Int) == 3) = true := by simp; omega
   have HPE := Lib.hid (show payB L b = b.fs.flatMap cnt7 by unfold payB; rw [if_neg h2, if_pos h3])
   have HF := Lib.hid h3
   clear h2 h3
   go_wp2_with fail
   go_loopw [1, 10] (fun b' i wr => ∃ k : Nat, i = .int .i64 k ∧ k ≤ b.x.len ∧ ROb w2 wr B w.heap.size mb va W1.heap.size b.x b' (bs4 ++ (b.fs.take k).flatMap cnt7)) (fun _ i _ => b.x.len - (intOf i).toNat)
   case atStart => exact ⟨0, rfl, Nat.zero_le _, by simpa using HS.out⟩
   case round =>
    clear HS q0 q1 x0 x1 x2 x3 x4
    obtain ⟨k, rfl, hk, hS⟩ := hrel
    have HS := Lib.hid hS
    clear hS
    by_cases hkn : k < b.x.len
    ·have hd : decide ((k : Int) < (b.x.len : Int)) = true := by simp; omega
     have hln : b.x.len = b.fs.length := by unfold Hd.len; rw [if_neg HF2.out, HSZQ.out]
     have hkf : k < b.fs.length := by omega
     have hy : b.fs.getD k 0 < 4294967296 := by rw [List.getD_eq_getElem?_getD, List.getElem?_eq_getElem hkf]; exact hok.f32 _ (List.getElem_mem hkf)
     have HTK := Lib.hid (show (b.fs.take (k + 1)).flatMap cnt7 = (b.fs.take k).flatMap cnt7 ++ cnt7 (b.fs.getD k 0) by rw [List.take_add_one, List.getElem?_eq_getElem hkf, List.flatMap_append, List.getD_eq_getElem?_getD, List.getElem?_eq_getElem hkf]; simp)
     have HPL := Lib.hid (show ((b.fs.take k).flatMap cnt7).length ≤ 5 * 65535 from Nat.le_trans (words_len (fun x hx => hok.f32 x (List.mem_of_mem_take hx))) (by rw [List.length_take]; omega))
     have HG := Lib.hid (fun W' hb => HWD.out W' hb k hkf HF.out)
     clear hln hkf
     generalize b.fs.getD k 0 = y at *
     generalize (b.fs.take k).flatMap cnt7 = pk at *
     clear hk
     go_wp2_with fail
     refine (HLN.out _ HS.out.rb.base).mono ?_
     rintro e w5 ⟨rfl, hb5⟩
     have HS5 := Lib.hid (HS.out.below hb5)
     have x1 := HS5.out.hd.cell 1
     unfold Hd.cells at x1
     clear hb5 HS
     go_wp2_with fail
     refine (HG.out _ HS5.out.rb.base).mono ?_
     rintro e w6 ⟨rfl, hb6⟩
     have HS6 := Lib.hid (HS5.out.below hb6)
     clear hb6 HS5 x1
     go_wp2_with fail
     refine (HNB.out _ _ _ HS6.out.rb (by have := HB4L.out; have := HPL.out; simp only [List.length_append]; omega) y hy).mono ?_
     rintro e w7 hB7
     obtain ⟨v7, rfl, S7⟩ := HS6.out.bytes hB7
     have HS7 := Lib.hid S7
     clear hB7 S7 HS6
     go_wp2_with fail
     go_roundw
     case rel => exact ⟨k + 1, by go_num, by omega, by rw [HTK.out, ← List.append_assoc]; exact HS7.out⟩
     case measure => simp [intOf]; omega
    ·obtain rfl : k = b.x.len := by omega
     have hd : decide ((b.x.len : Int) < (b.x.len : Int)) = false := by simp
     have hln : b.x.len = b.fs.length := by unfold Hd.len; rw [if_neg HF2.out, HSZQ.out]
     have hS := HS.out
     rw [show b.fs.take b.x.len = b.fs by rw [hln]; exact List.take_length] at hS
     have HS9 := Lib.hid hS
     clear hS hln
     clear hk hkn
     go_wp2_with fail
     refine (HLN.out _ HS.out.rb.base).mono ?_
     rintro e w5 ⟨rfl, hb5⟩
     have HS5 := Lib.hid (HS9.out.rb.below hb5)
     clear hb5 HS HS9
     go_wp2_with fail
     go_ret
     have hfin := HS5.out
     refine ⟨_, rfl, ?_⟩
     rw [HEQ.out, HPE.out]
     rw [← HBS.out] at hfin
     simp only [List.append_assoc] at hfin ⊢
     exact hfin
  ·have hd3 : ((b.x.fmt : Int) == 3) = false := by simp; omega
   have HPE := Lib.hid (show payB L b = valsB L b.fs by unfold payB; rw [if_neg h2, if_neg h3])
   have HF := Lib.hid (show b.x.fmt = 1 ∨ b.x.fmt = 4 by have hm := hok.may; unfold Hd.may at hm; simp at hm; omega)
   clear h2 h3
   go_wp2_with fail
   go_loopw [1, 10] (fun b' i wr => ∃ k : Nat, i = .int .i64 k ∧ k ≤ b.x.len ∧ ROb w2 wr B w.heap.size mb va W1.heap.size b.x b' (bs4 ++ valsB L (b.fs.take k))) (fun _ i _ => b.x.len - (intOf i).toNat)
   case atStart => exact ⟨0, rfl, Nat.zero_le _, by simpa [valsB] using HS.out⟩
   case round =>
    clear HS q0 q1 x0 x1 x2 x3 x4
    obtain ⟨k, rfl, hk, hS⟩ := hrel
    have HS := Lib.hid hS
    clear hS
    by_cases hkn : k < b.x.len
    ·have hd : decide ((k : Int) < (b.x.len : Int)) = true := by simp; omega
     have hln : b.x.len = b.fs.length := by unfold Hd.len; rw [if_neg HF2.out, HSZQ.out]
     have hkf : k < b.fs.length := by omega
     have hy : b.fs.getD k 0 < 4294967296 := by rw [List.getD_eq_getElem?_getD, List.getElem?_eq_getElem hkf]; exact hok.f32 _ (List.getElem_mem hkf)
     have HTK := Lib.hid (valsB_take1 (L := L) hkf)
     have HPL := Lib.hid (show (valsB L (b.fs.take k)).length ≤ 5 * 65535 from Nat.le_trans (valsB_len hL _ (fun x hx => hok.f32 x (List.mem_of_mem_take hx))) (by rw [List.length_take]; omega))
     have HG := Lib.hid (fun W' hb => HGT.out W' hb k hkf HF.out)
     clear hln hkf
     generalize b.fs.getD k 0 = y at *
     generalize valsB L (b.fs.take k) = pk at *
     clear hk
     go_wp2_with fail
     refine (HLN.out _ HS.out.rb.base).mono ?_
     rintro e w5 ⟨rfl, hb5⟩
     have HS5 := Lib.hid (HS.out.below hb5)
     have x1 := HS5.out.hd.cell 1
     unfold Hd.cells at x1
     clear hb5 HS
     go_wp2_with fail
     refine (HG.out _ HS5.out.rb.base).mono ?_
     rintro e w6 ⟨rfl, hb6⟩
     have HS6 := Lib.hid (HS5.out.below hb6)
     clear hb6 HS5 x1
     have q0 := HS6.out.bk.cell 0
     have q1 := HS6.out.bk.cell 1
     go_wp2_with fail
     refine (HVL.out _ HS6.out.rb.base y hy).mono ?_
     rintro e w8 ⟨rfl, hb8⟩
     have HS8 := Lib.hid (HS6.out.below hb8)
     clear hb8 HS6 q0 q1
     go_wp2_with fail
     refine (HNB.out _ _ _ HS8.out.rb (by have := HB4L.out; have := HPL.out; simp only [List.length_append]; omega) (vnum L y) (vnum_lt hL hy)).mono ?_
     rintro e w7 hB7
     obtain ⟨v7, rfl, S7⟩ := HS8.out.bytes hB7
     have HS7 := Lib.hid S7
     clear hB7 S7 HS8
     go_wp2_with fail
     go_roundw
     case rel => exact ⟨k + 1, by go_num, by omega, by rw [HTK.out, ← List.append_assoc]; exact HS7.out⟩
     case measure => simp [intOf]; omega
    ·obtain rfl : k = b.x.len := by omega
     have hd : decide ((b.x.len : Int) < (b.x.len : Int)) = false := by simp
     have hln : b.x.len = b.fs.length := by unfold Hd.len; rw [if_neg HF2.out, HSZQ.out]
     have hS := HS.out
     rw [show b.fs.take b.x.len = b.fs by rw [hln]; exact List.take_length] at hS
     have HS9 := Lib.hid hS
     clear hS hln
     clear hk hkn
     go_wp2_with fail
     refine (HLN.out _ HS.out.rb.base).mono ?_
     rintro e w5 ⟨rfl, hb5⟩
     have HS5 := Lib.hid (HS9.out.rb.below hb5)
     clear hb5 HS HS9
     go_wp2_with fail
     go_ret
     have hfin := HS5.out
     refine ⟨_, rfl, ?_⟩
     rw [HEQ.out, HPE.out]
     rw [← HBS.out] at hfin
     simp only [List.append_assoc] at hfin ⊢
     exact hfin
end
end Go.Proofs.YtlkahgagmfhdaaaGreatDoor
