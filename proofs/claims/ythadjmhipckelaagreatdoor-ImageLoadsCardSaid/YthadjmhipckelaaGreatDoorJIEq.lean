import Derived.Test.YthadjmhipckelaaGreatDoorJMem
import Derived.Test.YthadjmhipckelaaGreatDoorJIAppIn
import Derived.Test.YthadjmhipckelaaGreatDoorJIHead
import Derived.Test.YthadjmhipckelaaGreatDoorJRefQ
import Derived.Test.YthadjmhipckelaaGreatDoorJIObjR
import Derived.Test.YthadjmhipckelaaGreatDoorJLook
import Derived.Lib.SlBytesConst
set_option linter.unusedVariables false
set_option linter.unusedSimpArgs false
set_option linter.unusedSectionVars false
namespace Go.Proofs.YthadjmhipckelaaGreatDoor
section
open Go.RowKit
theorem u8c_getI {l : List Nat} {k : Nat} (h : k < l.length) : (u8c l)[k]? = some (.int .u8 (l.getD k 0 : Nat)) := by
 unfold u8c
 rw [List.getElem?_map, List.getElem?_eq_getElem h, List.getD_eq_getElem?_getD, List.getElem?_eq_getElem h]
 rfl
set_option maxHeartbeats 1000000 in
theorem equal_u8 (A A' : Option Addr) (n n' c c' : Nat) (xs ys : List Nat) (w : World) (hn : n ≤ 9223372036854775807) (hn' : n' ≤ 9223372036854775807) (hr : Reads w w.heap.size 1 A n (u8c xs)) (hr' : Reads w w.heap.size 1 A' n' (u8c ys)) :
 Calls Tryz.prog 92 #[.slice A n c, .slice A' n' c'] w fun e w' => e = .returned (.bool (sameL xs ys)) ∧ ∃ m, w' = w.drewN m := by
 have hl : xs.length = n := by have := hr.1; rw [u8c_len] at this; omega
 have hl' : ys.length = n' := by have := hr'.1; rw [u8c_len] at this; omega
 have HL := Lib.hid hl; have HL' := Lib.hid hl'
 clear hl hl'
 have HR := Lib.hid hr; have HR' := Lib.hid hr'
 clear hr hr'
 by_cases hnn : n = n'
 ·subst hnn
  go_enter Tryz.func92, Tryz.ntmps92
  go_wp2_with fail
  go_loopw [13] (fun i wr => ∃ k : Nat, k ≤ n ∧ i = .int .i64 k ∧ xs.take k = ys.take k ∧ ∃ m, wr = w.drewN m) (fun i _ => n - (intOf i).toNat)
  case atStart => exact ⟨0, by omega, rfl, rfl, 0, rfl⟩
  case round =>
   obtain ⟨k, hk, rfl, ht, m, rfl⟩ := hrel
   have HT := Lib.hid ht; clear ht
   by_cases hlt : k < n
   ·have hx : k < xs.length := by rw [HL.out]; exact hlt
    have hy : k < ys.length := by rw [HL'.out]; exact hlt
    obtain ⟨ad, u, rfl, hbl, hu, hc⟩ := HR.out.at_ hlt
    obtain ⟨ad', u', rfl, hbl', hu', hc'⟩ := HR'.out.at_ hlt
    rw [u8c_getI hx] at hu
    rw [u8c_getI hy] at hu'
    injection hu with hu
    injection hu' with hu'
    subst hu hu'
    have HX := Lib.hid hx; have HY := Lib.hid hy
    clear hx hy
    by_cases he : xs.getD k 0 = ys.getD k 0
    ·have HE := Lib.hid (take_eq_succ HX.out HY.out he HT.out)
     have hv : ((xs.getD k 0 : Int) != (ys.getD k 0 : Int)) = false := by rw [he]; simp
     clear he
     generalize xs.getD k 0 = x at *
     generalize ys.getD k 0 = y at *
     go_wp2_with fail
     go_region
     all_goals go_wp2_with fail
     all_goals go_roundw
     case rel => exact ⟨k + 1, by omega, by go_num, HE.out, m + 1, rfl⟩
     case measure => simp [intOf]; omega
    ·have HE := Lib.hid (sameL_at HX.out HY.out he)
     have hv : ((xs.getD k 0 : Int) != (ys.getD k 0 : Int)) = true := by rw [bne_iff_ne]; omega
     clear he
     generalize xs.getD k 0 = x at *
     generalize ys.getD k 0 = y at *
     go_wp2_with fail
     go_region
     all_goals go_wp2_with fail
     all_goals go_ret
     all_goals exact ⟨by rw [HE.out]; rfl, m + 1, rfl⟩
   ·obtain rfl : k = n := by omega
    have HA := Lib.hid (sameL_all HL.out HL'.out HT.out)
    go_wp2_with fail
    go_ret
    exact ⟨by rw [HA.out]; rfl, m, rfl⟩
 ·have HF := Lib.hid (sameL_len (xs := xs) (ys := ys) (by rw [HL.out, HL'.out]; exact hnn))
  have hv : ((n : Int) != (n' : Int)) = true := by simp; omega
  clear hnn
  go_enter Tryz.func92, Tryz.ntmps92
  go_wp2_with fail
  go_ret
  exact ⟨by rw [HF.out]; rfl, 0, rfl⟩
end
section
open Go.RowKit
attribute [local go_sem] Oper.semAt_some
section
variable {w wi w' : World} {B : Nat} {v vi : Value} {bs cs ds : List Nat} {e : Ending}
theorem BytesB.refl (ho : w.ownsRow B 5 1 v bs.length (u8c bs)) : BytesB B v bs [] w (.returned v) w :=
 ⟨v, rfl, by simpa using ho, Nat.le_refl _, rfl, rfl, rfl, fun _ _ _ => rfl, fun k hk => .inl hk⟩
theorem BytesB.own (h : BytesB B v bs cs w (.returned vi) wi) : wi.ownsRow B 5 1 vi (bs ++ cs).length (u8c (bs ++ cs)) := by
 obtain ⟨b', hb', h0, _⟩ := h
 injection hb' with hb'
 subst hb'
 exact h0
theorem BytesB.size (h : BytesB B v bs cs w (.returned vi) wi) : w.heap.size ≤ wi.heap.size := by
 obtain ⟨b', hb', h0, h1, _⟩ := h
 exact h1
theorem BytesB.below (h : BytesB B v bs cs w (.returned vi) wi) (hb : Below wi.heap.size wi w') : BytesB B v bs cs w (.returned vi) w' := by
 obtain ⟨b', hb', h0, h1, h2, h3, h4, h5, h6⟩ := h
 injection hb' with hb'
 subst hb'
 refine ⟨vi, rfl, own_sameI h0 (fun k hk => hb.block k (h0.lt k hk).2), Nat.le_trans h1 hb.size, hb.os.trans h2, hb.tape.trans h3, hb.output.trans h4, fun k hk hne => (hb.block k (by omega)).trans (h5 k hk hne), fun k hk => h6 k hk⟩
theorem BytesB.trans (h : BytesB B v bs cs w (.returned vi) wi) (k : BytesB B vi (bs ++ cs) ds wi e w') : BytesB B v bs (cs ++ ds) w e w' := by
 obtain ⟨b', hb', h0, h1, h2, h3, h4, h5, h6⟩ := h
 injection hb' with hb'
 subst hb'
 obtain ⟨v2, rfl, k0, k1, k2, k3, k4, k5, k6⟩ := k
 refine ⟨v2, rfl, by rw [← List.append_assoc]; exact k0, Nat.le_trans h1 k1, k2.trans h2, k3.trans h3, k4.trans h4, fun i hi hne => ?_, fun i hi => ?_⟩
 ·refine (k5 i (by omega) (fun e => ?_)).trans (h5 i hi hne)
  rcases h6 i e with g | g
  ·exact hne g
  ·omega
 ·rcases k6 i hi with g | g
  ·exact h6 i g
  ·exact .inr (by omega)
theorem BytesB.reads {A : Option Addr} {n : Nat} {xs : List Value} (h : BytesB B v bs cs w (.returned vi) wi) (hr : Reads w w.heap.size 1 A n xs) (hne : 0 < n → ∀ a, A = some a → v.ownBlock ≠ some a.block) : Reads wi wi.heap.size 1 A n xs := by
 obtain ⟨b', hb', h0, h1, h2, h3, h4, h5, h6⟩ := h
 refine ⟨hr.1, fun hn => ?_⟩
 obtain ⟨a, ha, hlt, hc⟩ := hr.2 hn
 refine ⟨a, ha, Nat.lt_of_lt_of_le hlt h1, fun j u hu => ?_⟩
 have hb := h5 a.block hlt (hne hn a ha)
 exact (World.cell?_of_block (a := a.add j) (by rw [block_of_add]; exact hb)).trans (hc j u hu)
theorem BytesB.blk {g : Nat} {t : TypeId} {c : Array Value} (h : BytesB B v bs cs w (.returned vi) wi) (b : Blk w g t c) (hne : v.ownBlock ≠ some g) : Blk wi g t c := by
 obtain ⟨b', hb', h0, h1, h2, h3, h4, h5, h6⟩ := h
 exact b.same (h5 g b.lt hne)
theorem wpList_app_BB {ops : Array Oper} {rest : List Oper} {o : Oper} {a : Act} {Q : Exit → Act → World → Prop} {w0 : World} {m c : Nat} {A : Option Addr} (s x : Operand)
 (S : BytesB B v bs cs w (.returned vi) wi) (hb : Below wi.heap.size wi w0) (hB : B ≤ w.heap.size) (hr : Reads w0 w0.heap.size 1 A m (u8c ds)) (hs : a.eval s = vi) (hx : a.eval x = .slice A m c) (hn : (bs ++ cs).length + m ≤ 100000000000000)
 (ho : o.op = .call { callee := .builtin .append, args := #[s, x], argTypes := #[22, 22] }) (hgd : o.guard = none)
 (h : ∀ v' w', BytesB B v bs (cs ++ ds) w (.returned v') w' → wpList Tryz.prog ops Q rest (a.put o.dst v') w') : wpList Tryz.prog ops Q (o :: rest) a w0 := by
 obtain ⟨i0, hi0, hz0, hz1, hz2⟩ := info_parts info_u8
 have hm : ds.length = m := by have := hr.1; rw [u8c_len, Nat.mul_one] at this; exact this
 have hown := S.own
 have hsz := S.size
 refine wpList_append_any _ hgd s x _ ho B 5 i0 _ 1 1 Tryz.underlying22 hi0 hz0 hz1 hz2 rfl (by omega) vi (bs ++ cs).length (u8c (bs ++ cs)) hs (own_sameI hown (fun k hk => hb.block k (hown.lt k hk).2)) w0.heap.size A m c (u8c ds) hx hr (one_u8c _) (by simp only [maxLen]; omega) (by omega) (by have := hb.size; omega) ?_
 intro v4 w4 hown4 hgrow4 hat4
 exact h _ _ (S.app hb (by rw [hm]; exact hown4) hgrow4 hat4)
end
theorem RB.one (w : World) (x : Nat) : RB w (w.alloc (.cells #[.int .u8 (x : Int)] 5)) w.heap.size (.slice (some ⟨w.heap.size, 0, none⟩) 1 1) [x] :=
 RB.new (own_new8 w [x] 1 rfl (by decide)) ((Below.refl _ _).alloc (Nat.le_refl _) _) (Below.refl _ _)
theorem four4_len (x : Nat) : (four4 x).length = 4 := rfl
set_option maxRecDepth 100000 in
set_option maxHeartbeats 4000000 in
theorem rsection_any {w : World} {B : Nat} {v : Value} {bs : List Nat} (hown : w.ownsRow B 5 1 v bs.length (u8c bs)) (hB : B ≤ w.heap.size) (hn : bs.length ≤ 1000000000000) (tag : Nat) (ht : tag < 256)
 {A : Option Addr} {n c : Nat} {p : List Nat} (hr : Reads w w.heap.size 1 A n (u8c p)) (hp : n < 4294967296) (hb8 : ∀ x ∈ p, x < 256) (hne : 0 < n → ∀ a, A = some a → v.ownBlock ≠ some a.block) :
 Calls Tryz.prog 28 #[v, .int .u8 tag, .slice A n c] w (BytesB B v bs (secI tag p) w) := by
 have hpl : p.length = n := by have := hr.1; rw [u8c_len, Nat.mul_one] at this; exact this
 have hc5 := cnt7I_len5 hp
 have HE := Lib.hid (show secI tag p = ([] ++ [tag] ++ cnt7 n ++ p) ++ four4 (sumN (tag :: p)) by unfold secI; rw [hpl]; simp only [List.nil_append, List.append_assoc])
 have HS0 := Lib.hid (BytesB.refl hown)
 have HR := Lib.hid hr
 have HNE := Lib.hid hne
 have h8 : ∀ x ∈ tag :: p, x < 256 := fun x hx => by rcases List.mem_cons.1 hx with rfl | hx; exact ht; exact hb8 x hx
 obtain ⟨hs1, hs2⟩ := sumN_eq h8
 have HSM := Lib.hid (fun (A' : Option Addr) (c' : Nat) (w' : World) (hr' : Reads w' w'.heap.size 1 A' (n + 1) (u8c (tag :: p))) => refSum_any A' (n + 1) c' w'.heap.size (tag :: p) w' (by omega) hr' h8)
 rw [hs1] at HSM
 have hwn : IntKind.u32.wrap (n : Int) = (n : Int) := by show (n : Int) % 4294967296 = _; omega
 have HPL := Lib.hid hpl
 have HC5 := Lib.hid hc5
 clear hr hown hne h8 hs1 hpl hc5 hb8
 go_enter Tryz.func28, Tryz.ntmps28
 go_wp2_with (at_builtin; refine wpList_app_BB (.tmp 7) (.tmp 9) HS0.out ((Below.refl _ _).alloc (Nat.le_refl _) _) hB (reads_one w tag) rfl rfl (by simp only [List.append_nil]; omega) rfl rfl ?_; intro v1 w1 S1; have HS1 := Lib.hid S1; clear S1 HS0)
 have hsz1 := HS1.out.size
 refine (rnumber_any HS1.out.own (by omega) (by simp; omega) n hp).mono ?_
 rintro e w2 hB2
 obtain ⟨v2, rfl, _⟩ := id hB2
 have HS2 := Lib.hid (HS1.out.trans hB2)
 have HR2 := Lib.hid (HS2.out.reads HR.out HNE.out)
 clear hB2 HS1 hsz1
 go_wp2_with (first | (at_builtin; refine wpList_app_BB (.tmp 16) (.tmp 17) HS2.out (Below.refl _ _) hB HR2.out rfl rfl (by have := HC5.out; simp; omega) rfl rfl ?_; intro v3 w3 S3; have HS3 := Lib.hid S3; have HR3 := Lib.hid (S3.reads HR.out HNE.out); clear S3 HR2 HS2) | (at_builtin; refine wpList_app_RB (.tmp 21) (.tmp 22) (RB.one w3 tag) ((HR3.out.below ((Below.refl _ _).alloc (Nat.le_refl _) (.cells #[.int .u8 (tag : Int)] 5))).more (by simp)) rfl rfl (by simp; omega) rfl rfl ?_; intro v4 w4 C4 hg4; clear hg4; have HC4 := Lib.hid C4; clear C4))
 obtain ⟨A4, c4, rfl, hr4⟩ := HC4.out.reads
 have hr4' : Reads w4 w4.heap.size 1 A4 (n + 1) (u8c (tag :: p)) := by
  have e := HPL.out
  simp only [List.length_append, List.length_cons, List.length_nil, e] at hr4
  rw [Nat.add_comm] at hr4
  exact hr4
 have HM := Lib.hid (HSM.out A4 c4 w4 hr4')
 have HBW := Lib.hid HC4.out.base
 have e4 : ([tag] ++ p).length = n + 1 := by rw [List.length_append, HPL.out]; simp; omega
 rw [e4]
 clear hr4 hr4' HC4 HSM e4
 refine HM.out.mono ?_
 rintro e w5 ⟨rfl, rfl⟩
 have HS5 := Lib.hid (HS3.out.below HBW.out)
 have hsz5 := HS5.out.size
 go_wp2_with fail
 refine (rfour_any HS5.out.own (by omega) (by have := HC5.out; have := HPL.out; simp; omega) (sumN (tag :: p)) hs2).mono ?_
 rintro e w6 hB6
 have HS6 := Lib.hid (HS5.out.trans hB6)
 obtain ⟨v6, rfl, _⟩ := hB6
 have hfin := HS6.out
 rw [← HE.out] at hfin
 clear HS5 HS6
 go_wp2_with fail
 go_ret
 exact hfin
end
section
open Go.RowKit
attribute [local go_sem] Oper.semAt_some
theorem info_sl8 : (Tryz.prog.info? 22).map (fun i => (i.zero, i.size, i.bytes)) = some (some (Value.slice none 0 0), 1, 24) := by kernel_rfl
def PayV (w : World) (L : Nat) (vs : List Value) (ps : List (List Nat)) : Prop :=
 vs.length = ps.length ∧ ∀ (i : Nat) (p : List Nat), ps[i]? = some p → ∃ (A : Option Addr) (c : Nat), vs[i]? = some (Value.slice A p.length c) ∧ p.length ≤ c ∧ Reads w L 1 A p.length (u8c p) ∧ ∀ x ∈ p, x < 256
theorem PayV.nil (w : World) (L : Nat) : PayV w L [] [] := ⟨rfl, fun i p h => by simp at h⟩
theorem PayV.below {w w' : World} {L : Nat} {vs : List Value} {ps : List (List Nat)} (P : PayV w L vs ps) (h : Below L w w') : PayV w' L vs ps :=
 ⟨P.1, fun i p hp => by obtain ⟨A, c, h1, h2, h3, h4⟩ := P.2 i p hp; exact ⟨A, c, h1, h2, h3.below h, h4⟩⟩
theorem PayV.snoc {w : World} {L c : Nat} {A : Option Addr} {vs : List Value} {ps : List (List Nat)} {p : List Nat} (P : PayV w L vs ps) (hc : p.length ≤ c) (hr : Reads w L 1 A p.length (u8c p)) (h8 : ∀ x ∈ p, x < 256) : PayV w L (vs ++ [.slice A p.length c]) (ps ++ [p]) := by
 refine ⟨by simp [P.1], fun i q hq => ?_⟩
 rcases Nat.lt_or_ge i ps.length with h | h
 ·rw [List.getElem?_append_left h] at hq
  obtain ⟨A', c', h1, h2⟩ := P.2 i q hq
  exact ⟨A', c', by rw [List.getElem?_append_left (by rw [P.1]; exact h)]; exact h1, h2⟩
 ·rw [List.getElem?_append_right h] at hq
  have hi : i - ps.length = 0 := by
   rcases Nat.eq_zero_or_pos (i - ps.length) with h0 | h0
   ·exact h0
   ·rw [List.getElem?_eq_none (by simp; omega)] at hq; cases hq
  rw [hi] at hq
  simp at hq
  subst hq
  refine ⟨A, c, ?_, hc, hr, h8⟩
  rw [List.getElem?_append_right (by rw [P.1]; exact h), P.1, hi]
  rfl
def SecP (L : Nat) (bs : List Nat) (w : World) (e : Ending) (w' : World) : Prop :=
 Below w.heap.size w w' ∧ match rdSecs [72, 79, 82, 90] bs with
  | .error E => e = .returned (.tuple #[.slice none 0 0, .int .i64 (E : Nat)])
  | .ok (ps, r) => if r = [] then ∃ v vs, e = .returned (.tuple #[v, .int .i64 0]) ∧ w'.ownsRow w.heap.size 22 1 v 4 vs ∧ PayV w' L vs ps ∧ ps.length = 4 else e = .returned (.tuple #[.slice none 0 0, .int .i64 143])
def SecGo (bs : List Nat) (k : Nat) (ps : List (List Nat)) (r : List Nat) : Prop :=
 rdSecs [72, 79, 82, 90] bs = (match rdSecs ([72, 79, 82, 90].drop k) r with
  | .error e => .error e
  | .ok (ps2, r') => .ok (ps ++ ps2, r')) ∧ ps.length = k
theorem SecGo.start (bs : List Nat) : SecGo bs 0 [] bs := by
 refine ⟨?_, rfl⟩
 cases h : rdSecs [72, 79, 82, 90] bs with
 | error e => simp [h]
 | ok p => simp [h]
theorem SecGo.fail {bs r : List Nat} {k t E : Nat} {ps : List (List Nat)} (S : SecGo bs k ps r) (ht : [72, 79, 82, 90][k]? = some t) (h : rdSec t r = .error E) : rdSecs [72, 79, 82, 90] bs = .error E := by
 obtain ⟨h1, _⟩ := S
 have hk : k < 4 := by
  rcases Nat.lt_or_ge k 4 with h | h
  ·exact h
  ·rw [List.getElem?_eq_none (by simpa using h)] at ht; cases ht
 have e : [72, 79, 82, 90].drop k = t :: [72, 79, 82, 90].drop (k + 1) := by
  rw [List.getElem?_eq_getElem (by simpa using hk)] at ht
  injection ht with ht
  rw [← ht, List.getElem_cons_drop]
 rw [h1, e]
 unfold rdSecs
 rw [h]
theorem SecGo.next {bs r r' p : List Nat} {k t : Nat} {ps : List (List Nat)} (S : SecGo bs k ps r) (ht : [72, 79, 82, 90][k]? = some t) (h : rdSec t r = .ok (p, r')) : SecGo bs (k + 1) (ps ++ [p]) r' := by
 obtain ⟨h1, h2⟩ := S
 have hk : k < 4 := by
  rcases Nat.lt_or_ge k 4 with h | h
  ·exact h
  ·rw [List.getElem?_eq_none (by simpa using h)] at ht; cases ht
 have e : [72, 79, 82, 90].drop k = t :: [72, 79, 82, 90].drop (k + 1) := by
  rw [List.getElem?_eq_getElem (by simpa using hk)] at ht
  injection ht with ht
  rw [← ht, List.getElem_cons_drop]
 refine ⟨?_, by simp [h2]⟩
 rw [h1, e]
 conv => lhs; unfold rdSecs
 rw [h]
 simp only
 cases rdSecs ([72, 79, 82, 90].drop (k + 1)) r' with
 | error e => rfl
 | ok q => simp
structure SecSt (L : Nat) (W0 wr : World) (rg : Nat) (v : Value) (vs : List Value) (ps : List (List Nat)) (A : Option Addr) (c : Nat) (bs : List Nat) : Prop where
 rd : RdAt wr L rg A c bs false
 fr : Fr1 rg W0 wr
 own : wr.ownsRow W0.heap.size 22 1 v ps.length vs
 pay : PayV wr L vs ps
 lt : rg < W0.heap.size
section
variable {L rg c c' : Nat} {W0 wr w' : World} {v v' : Value} {vs : List Value} {ps : List (List Nat)} {A A' : Option Addr} {bs bs' : List Nat}
theorem SecSt.read (S : SecSt L W0 wr rg v vs ps A c bs) (R : RdAt w' L rg A' c' bs' false) (F : Fr1 rg wr w') : SecSt L W0 w' rg v vs ps A' c' bs' :=
 ⟨R, S.fr.trans F, own_sameI S.own (fun k hk => F.same k (S.own.lt k hk).2 (fun e => by have := (S.own.lt k hk).1; have := S.lt; omega)), S.pay.below (F.below S.rd.far (by have := S.lt; have := S.fr.size; have := S.rd.far; omega)), S.lt⟩
theorem SecSt.below (S : SecSt L W0 wr rg v vs ps A c bs) (h : Below wr.heap.size wr w') : SecSt L W0 w' rg v vs ps A c bs := S.read (S.rd.below h) (Fr1.of_below h)
theorem SecSt.app {p : List Nat} {Ap : Option Addr} {cp : Nat} (S : SecSt L W0 wr rg v vs ps A c bs) (hc : p.length ≤ cp) (hr : Reads wr L 1 Ap p.length (u8c p)) (h8 : ∀ x ∈ p, x < 256)
 (ho : w'.ownsRow W0.heap.size 22 1 v' (ps.length + 1) (vs ++ [.slice Ap p.length cp])) (hg : wr.grownBy w' v.ownBlock) : SecSt L W0 w' rg v' (vs ++ [.slice Ap p.length cp]) (ps ++ [p]) A c bs := by
 have hsame : ∀ k, k < W0.heap.size → w'.heap[k]? = wr.heap[k]? := fun k hk => hg.block k (Nat.lt_of_lt_of_le hk S.fr.size) (fun e => by have := (S.own.lt k (by first | exact e | exact e.symm)).1; omega)
 have hb : Below L wr w' := ⟨hg.os, hg.tape, hg.output, hg.size, fun k hk => hsame k (by have := S.rd.far; have := S.lt; omega)⟩
 refine ⟨⟨S.rd.box.same (hsame rg S.lt), S.rd.cap, S.rd.rd.below hb, S.rd.far, S.rd.b8⟩, ⟨hg.os.trans S.fr.os, hg.tape.trans S.fr.tape, hg.output.trans S.fr.output, Nat.le_trans S.fr.size hg.size, fun k hk hne => (hsame k hk).trans (S.fr.same k hk hne)⟩, by rw [List.length_append]; exact ho, (S.pay.snoc hc hr h8).below hb, S.lt⟩
end
set_option maxRecDepth 100000 in
set_option maxHeartbeats 8000000 in
theorem sections_any {w : World} {A : Option Addr} {n c : Nat} {bs : List Nat} (hr : Reads w w.heap.size 1 A n (u8c bs)) (hc : n ≤ c) (hn : n ≤ 9000000) (h8 : ∀ x ∈ bs, x < 256) :
 Calls Tryz.prog 67 #[.slice A n c] w (SecP w.heap.size bs w) := by
 have hbl : bs.length = n := by have := hr.1; rw [u8c_len] at this; omega
 have kc := fun (w : World) (C : Array Value) (n c : Nat) => Lib.run_convert_bytes_const (P := Tryz.prog) w 22 5 C n c Tryz.underlying22 Tryz.underlying5
 subst hbl
 have HR := Lib.hid hr
 clear hr
 go_enter Tryz.func67, Tryz.ntmps67
 have kc1 := kc (w.alloc (.cells #[.slice A bs.length c, .bool false] 129)) #[.int .u8 72, .int .u8 79, .int .u8 82, .int .u8 90] 4 4
 rw [World.size_alloc] at kc1
 clear kc
 have hB0 : Below w.heap.size w ((w.alloc (.cells #[.slice A bs.length c, .bool false] 129)).alloc (.cells #[.int .u8 72, .int .u8 79, .int .u8 82, .int .u8 90] 5 (4, 5))) := ((Below.refl _ w).alloc (Nat.le_refl _) _).alloc (by simp) _
 have hS0 : SecSt w.heap.size ((w.alloc (.cells #[.slice A bs.length c, .bool false] 129)).alloc (.cells #[.int .u8 72, .int .u8 79, .int .u8 82, .int .u8 90] 5 (4, 5))) ((w.alloc (.cells #[.slice A bs.length c, .bool false] 129)).alloc (.cells #[.int .u8 72, .int .u8 79, .int .u8 82, .int .u8 90] 5 (4, 5))) w.heap.size (.slice none 0 0) [] [] A c bs :=
  ⟨⟨(Blk.new w _ _).alloc _, hc, HR.out.below hB0, Nat.le_refl _, h8⟩, Fr1.refl _ _, ⟨rfl, .inl ⟨rfl, rfl⟩⟩, PayV.nil _ _, by simp; omega⟩
 have hT : ∀ k t, [72, 79, 82, 90][k]? = some t → ((w.alloc (.cells #[.slice A bs.length c, .bool false] 129)).alloc (.cells #[.int .u8 72, .int .u8 79, .int .u8 82, .int .u8 90] 5 (4, 5))).cell? ⟨w.heap.size + 1, k, none⟩ = some (.int .u8 (t : Nat)) := fun k t ht => by
  have h1 := heap_alloc_new (w.alloc (.cells #[.slice A bs.length c, .bool false] 129)) (.cells #[.int .u8 72, .int .u8 79, .int .u8 82, .int .u8 90] 5 (4, 5))
  rw [World.size_alloc] at h1
  refine (cell_of_row _ (w.heap.size + 1) k _ 5 (4, 5) h1).trans ?_
  match k, ht with
  | 0, ht => injection ht with ht; subst ht; rfl
  | 1, ht => injection ht with ht; subst ht; rfl
  | 2, ht => injection ht with ht; subst ht; rfl
  | 3, ht => injection ht with ht; subst ht; rfl
 have hsz : ((w.alloc (.cells #[.slice A bs.length c, .bool false] 129)).alloc (.cells #[.int .u8 72, .int .u8 79, .int .u8 82, .int .u8 90] 5 (4, 5))).heap.size = w.heap.size + 2 := by simp
 go_wp2_with fail
 generalize ((w.alloc (.cells #[.slice A bs.length c, .bool false] 129)).alloc (.cells #[.int .u8 72, .int .u8 79, .int .u8 82, .int .u8 90] 5 (4, 5))) = W0 at *
 have HT := Lib.hid (fun (wr : World) (h : Fr1 w.heap.size W0 wr) (k t : Nat) (ht : [72, 79, 82, 90][k]? = some t) => (World.cell?_of_block (h.same (w.heap.size + 1) (by omega) (by omega))).trans (hT k t ht))
 have HS0 := Lib.hid hS0
 have HB0 := Lib.hid hB0
 clear hT kc1 hS0 hB0 HR
 go_loopw [5, 17] (fun v i wr => ∃ (k : Nat) (vs : List Value) (ps : List (List Nat)) (A' : Option Addr) (c' : Nat) (bs' : List Nat), i = .int .i64 k ∧ k ≤ 4 ∧ SecSt w.heap.size W0 wr w.heap.size v vs ps A' c' bs' ∧ SecGo bs k ps bs' ∧ bs'.length ≤ bs.length) (fun _ i _ => 4 - (intOf i).toNat)
 case atStart => exact ⟨0, [], [], A, c, bs, rfl, by omega, HS0.out, SecGo.start bs, Nat.le_refl _⟩
 case round =>
  clear HS0
  obtain ⟨k, vs, ps, A', c', bs', rfl, hk, S, G, hlen⟩ := hrel
  have HS := Lib.hid S
  have HG := Lib.hid G
  have HFN := Lib.hid (fun (w' : World) (h : Fr1 w.heap.size W0 w') => show Below w.heap.size w w' from ⟨h.os.trans HB0.out.os, h.tape.trans HB0.out.tape, h.output.trans HB0.out.output, Nat.le_trans HB0.out.size h.size, fun k hk => (h.same k (by omega) (by omega)).trans (HB0.out.block k hk)⟩)
  by_cases hk4 : k < 4
  ·obtain ⟨t, ht⟩ : ∃ t, [72, 79, 82, 90][k]? = some t := ⟨_, List.getElem?_eq_getElem (by simpa using hk4)⟩
   have hd : decide ((k : Int) < 4) = true := by simp; omega
   have htc := HT.out _ S.fr k t ht
   have htb : t < 256 := by
    have := List.mem_of_getElem? ht
    simp at this
    omega
   have c0 := S.rd.box.cell 0
   have HTT := Lib.hid ht
   have HE := Lib.hid (fun (w' : World) (h : Fr1 w.heap.size W0 w') (E : Nat) (he : rdSec t bs' = .error E) => show SecP w.heap.size bs w (.returned (.tuple #[.slice none 0 0, .int .i64 (E : Nat)])) w' from ⟨HFN.out _ h, by rw [G.fail ht he]⟩)
   clear ht S G
   match hbs : bs' with
   | [] =>
     have hF := HE.out _ HS.out.fr 143 rfl
     have HF := Lib.hid hF
     clear hF HE HS HG HTT
     go_wp2_with fail
     go_ret2
     exact HF.out
   | x :: b1 =>
     have HBY := Lib.hid (rbyteI_any HS.out.rd (by omega))
     have hlb : b1.length + 1 ≤ bs.length := by simpa using hlen
     go_wp2_with fail
     refine HBY.out.mono ?_
     rintro e w5 ⟨x5, A5, c5, bs5, bad5, rfl, hx5, R5, F5, D5, -⟩
     obtain rfl : bad5 = false := D5.2 rfl ⟨_, rfl⟩
     obtain ⟨_, hq⟩ := D5.1 rfl
     injection hq with hq
     injection hq with hq1 hq2
     subst hq1 hq2
     have HS5 := Lib.hid (HS.out.read R5 F5)
     clear HBY D5 HS htc c0 R5 F5
     by_cases hxt : x = t
     ·subst hxt
      have hne : ((x : Int) != (x : Int)) = false := by simp
      have HNU := Lib.hid (rnumberI_any HS5.out.rd (by omega))
      go_wp2_with fail
      refine HNU.out.mono ?_
      rintro e w6 ⟨n6, A6, c6, bs6, bad6, rfl, hn6, R6, F6, D6, d6, hd6⟩
      have k1 := R6.box.cell 1
      have hlb6 : bs6.length ≤ b1.length := by rw [hd6, List.length_append]; omega
      clear HNU hd6
      cases bad6 with
      | true =>
        have hno : rdNum b1 = none := by
         cases hh : rdNum b1 with
         | none => rfl
         | some q => have := D6.2 rfl ⟨q, hh⟩; cases this
        have HF := Lib.hid (HE.out _ (HS5.out.fr.trans F6) 143 (by unfold rdSec; simp [hno]))
        clear HE HS5 HG HTT R6 F6 D6 hno
        go_wp2_with fail
        go_ret2
        exact HF.out
      | false =>
        obtain ⟨_, hnum⟩ := D6.1 rfl
        have HS6 := Lib.hid (HS5.out.read R6 F6)
        have HNM := Lib.hid hnum
        have k0 := R6.box.cell 0
        clear HS5 R6 F6 D6 hnum
        have hw1 : IntKind.u64.wrap (bs6.length : Int) = (bs6.length : Int) := by show (bs6.length : Int) % 18446744073709551616 = _; omega
        by_cases hshort : bs6.length < n6 + 4
        ·have hds : decide ((bs6.length : Int) < (n6 : Int) + 4) = true := by simp; omega
         have HF := Lib.hid (HE.out _ HS6.out.fr 143 (by unfold rdSec; simp only [ne_eq, not_true_eq_false, if_false, HNM.out]; rw [if_pos hshort]))
         clear HE HS6 HG HTT HNM
         go_wp2_with fail
         go_ret2
         exact HF.out
        ·have hds : decide ((bs6.length : Int) < (n6 : Int) + 4) = false := by simp; omega
         have HB1 := Lib.hid (rbytesI_any HS6.out.rd (by omega) n6 (by omega))
         go_wp2_with fail
         refine HB1.out.mono ?_
         rintro e w7 ⟨F7, (⟨_, rfl, R7⟩ | ⟨hlt, _⟩)⟩
         rotate_left
         ·omega
         have HS7 := Lib.hid (HS6.out.read R7 F7)
         have hcap6 := HS6.out.rd.cap
         have HP7 := Lib.hid ((reads_head (k := n6) (c := c6) HS6.out.rd.rd (by omega)).below (F7.below HS6.out.rd.far (by have := HS6.out.rd.box.lt; have := HS6.out.rd.far; omega)))
         have HP8 := Lib.hid (fun x (hx : x ∈ bs6.take n6) => HS6.out.rd.b8 x (List.mem_of_mem_take hx))
         clear HB1 R7 F7 HS6 k0 k1
         have hl7 : (bs6.drop n6).length = bs6.length - n6 := by simp
         have hlp : (bs6.take n6).length = n6 := by simp; omega
         have HB2 := Lib.hid (rbytesI_any HS7.out.rd (by omega) 4 (by omega))
         go_wp2_with fail
         refine HB2.out.mono ?_
         rintro e w8 ⟨F8, (⟨_, rfl, R8⟩ | ⟨hlt, _⟩)⟩
         rotate_left
         ·omega
         have HS8 := Lib.hid (HS7.out.read R8 F8)
         have hrg := HS7.out.rd.box.lt
         have hb78 := F8.below HS7.out.rd.far (Nat.le_of_lt hrg)
         have HP := Lib.hid (HP7.out.below hb78)
         have HQ := Lib.hid ((reads_head (k := 4) (c := c6 - n6) HS7.out.rd.rd (by omega)).below hb78)
         have HQ8 := Lib.hid (fun x (hx : x ∈ (bs6.drop n6).take 4) => HS7.out.rd.b8 x (List.mem_of_mem_take hx))
         have h48 : w.heap.size ≤ w8.heap.size := by have := hb78.size; omega
         clear HB2 R8 F8 HS7 HP7 hb78 hrg
         have hQl : ((bs6.drop n6).take 4).length = 4 := by simp; omega
         have h8p : ∀ y ∈ x :: bs6.take n6, y < 256 := fun y hy => by rcases List.mem_cons.1 hy with rfl | hy; exact hx5; exact HP8.out y hy
         obtain ⟨hs1, hs2⟩ := sumN_eq h8p
         have HPL := Lib.hid hlp
         have HSM := Lib.hid (fun (A' : Option Addr) (c' : Nat) (w' : World) (hr' : Reads w' w'.heap.size 1 A' (n6 + 1) (u8c (x :: bs6.take n6))) => sum_any A' (n6 + 1) c' w'.heap.size (x :: bs6.take n6) w' (by omega) hr' h8p)
         rw [hs1] at HSM
         have HDR := Lib.hid (show rdSec x (x :: b1) = if (bs6.drop n6).take 4 = four4 (sumN (x :: bs6.take n6)) then .ok (bs6.take n6, bs6.drop (n6 + 4)) else .error 144 by
          unfold rdSec; simp only [ne_eq, not_true_eq_false, if_false, HNM.out]; rw [if_neg hshort])
         have HDD := Lib.hid (show (bs6.drop n6).drop 4 = bs6.drop (n6 + 4) by rw [List.drop_drop])
         clear h8p hs1 hlp HNM
         generalize hpg : bs6.take n6 = pp at *
         generalize hqg : (bs6.drop n6).take 4 = qq at *
         clear hpg hqg
         go_wp2_with (at_builtin; refine wpList_app_RB (.tmp 57) (.tmp 58) (RB.one w8 x) (((HP.out.below ((Below.refl _ _).alloc (Nat.le_refl _) (.cells #[.int .u8 (x : Int)] 5) |>.mono h48)).more (by simp; omega))) rfl rfl (by simp; omega) rfl rfl ?_; intro v9 w9 C9 hg9; clear hg9; have HC9 := Lib.hid C9; clear C9)
         obtain ⟨A9, c9, rfl, hr9⟩ := HC9.out.reads
         have hr10 : Reads w9 w9.heap.size 1 A9 (n6 + 1) (u8c (x :: pp)) := by
          have e := HPL.out
          simp only [List.length_append, List.length_cons, List.length_nil, e] at hr9
          rw [Nat.add_comm] at hr9
          exact hr9
         have HM := Lib.hid (HSM.out A9 c9 w9 hr10)
         have HB9 := Lib.hid HC9.out.base
         have e4 : ([x] ++ pp).length = n6 + 1 := by rw [List.length_append, HPL.out]; simp; omega
         rw [e4]
         clear hr9 hr10 HC9 HSM e4
         refine HM.out.mono ?_
         rintro e w10 ⟨rfl, rfl⟩
         have HS10 := Lib.hid (HS8.out.below HB9.out)
         have HP10 := Lib.hid (HP.out.below (HB9.out.mono h48))
         have HQ10 := Lib.hid ((HQ.out.below (HB9.out.mono h48)).more (B' := w9.heap.size) (by have := HB9.out.size; omega))
         have h4a : w.heap.size ≤ w9.heap.size := by have := HB9.out.size; omega
         clear HS8 HP HQ HB9 HM
         go_wp2_with fail
         refine (ifour_any (sumN (x :: pp)) hs2 _).mono ?_
         rintro e w11 ⟨v11, rfl, hown11, hb11⟩
         obtain ⟨A11, c11, rfl, hr11⟩ := own_sliceI hown11
         have HS11 := Lib.hid (HS10.out.below hb11)
         have HP11 := Lib.hid (HP10.out.below (hb11.mono h4a))
         have HEQ := Lib.hid (equal_u8 (tailA (tailA A6 c6 n6) (c6 - n6) 0) A11 4 4 (c6 - n6) c11 qq (four4 (sumN (x :: pp))) w11 (by omega) (by omega) ((HQ10.out.below hb11).more hb11.size) hr11)
         have h4b : w.heap.size ≤ w11.heap.size := by have := hb11.size; omega
         clear HS10 HP10 HQ10 hb11 hr11 hown11
         go_wp2_with fail
         refine HEQ.out.mono ?_
         rintro e w12 ⟨rfl, m12, rfl⟩
         have hb12 : Below w11.heap.size w11 (w11.drewN m12) := ⟨rfl, rfl, rfl, Nat.le_refl _, fun _ _ => rfl⟩
         have HS12 := Lib.hid (HS11.out.below hb12)
         have HP12 := Lib.hid (HP11.out.below (hb12.mono h4b))
         clear HS11 HP11 HEQ hb12
         generalize w11.drewN m12 = w12 at *
         by_cases heq : qq = four4 (sumN (x :: pp))
         ·have hsb : sameL qq (four4 (sumN (x :: pp))) = true := by rw [heq]; exact sameL_self _
          have hdr := HDR.out
          rw [if_pos heq, ← HDD.out] at hdr
          have HNX := Lib.hid (HG.out.next HTT.out hdr)
          clear heq hdr HDR HE HG HTT HDD
          have hpl := HPL.out
          have HOW := Lib.hid HS12.out.own
          obtain ⟨i0, hi0, hz0, hz1, hz2⟩ := info_parts info_sl8
          have hgk : ps.length = k := by have := HNX.out.2; simp at this; omega
          have h4c : w.heap.size ≤ w12.heap.size := by have := HS12.out.rd.box.lt; omega
          have HPA := Lib.hid (HP12.out.below ((Below.refl w12.heap.size w12).alloc (Nat.le_refl _) (.cells #[.slice (tailA A6 c6 0) n6 c6] 22) |>.mono h4c))
          have HSA := Lib.hid (HS12.out.below ((Below.refl _ _).alloc (Nat.le_refl _) (.cells #[.slice (tailA A6 c6 0) n6 c6] 22)))
          go_wp2_with (at_builtin; refine wpList_append_any _ rfl (.tmp 64) (.tmp 66) _ rfl W0.heap.size 22 i0 _ 1 24 Tryz.underlying97 hi0 hz0 hz1 hz2 rfl (by omega) u5 ps.length vs rfl HSA.out.own (w12.heap.size + 1) (some ⟨w12.heap.size, 0, none⟩) 1 1 [.slice (tailA A6 c6 0) n6 c6] rfl ⟨rfl, fun _ => ⟨_, rfl, by simp, cell_one_new _ _ _⟩⟩ (fun u hu => by rcases List.mem_singleton.1 hu with rfl; rfl) (by simp only [maxLen]; omega) (by omega) (by have := HS12.out.fr.size; simp; omega) ?_; intro v13 w13 hown13 hgrow13 hat13; have HS13 := Lib.hid (HSA.out.app (p := pp) (Ap := tailA A6 c6 0) (cp := c6) (by omega) (by rw [hpl]; exact HPA.out) HP8.out (by rw [hpl]; exact hown13) hgrow13); clear hown13 hgrow13 hat13)
          have hlen' : (bs6.drop n6).drop 4 = (bs6.drop n6).drop 4 := rfl
          go_roundw
          case rel =>
           have hll : ((bs6.drop n6).drop 4).length ≤ bs.length := by simp; omega
           exact ⟨k + 1, _, ps ++ [pp], _, _, (bs6.drop n6).drop 4, by go_num, by omega, HS13.out, HNX.out, hll⟩
          case measure => simp [intOf]; omega
         ·have hsb : sameL qq (four4 (sumN (x :: pp))) = false := by unfold sameL; rw [beq_eq_false_iff_ne]; exact heq
          have HF := Lib.hid (HE.out _ HS12.out.fr 144 (by rw [HDR.out, if_neg heq]))
          clear HE HS12 HG HTT HDR HDD heq
          go_wp2_with fail
          go_ret2
          exact HF.out
     ·have hne : ((x : Int) != (t : Int)) = true := by simp; omega
      have HF := Lib.hid (HE.out _ HS5.out.fr 142 (by unfold rdSec; simp [hxt]))
      clear HE HS5 HG HTT
      go_wp2_with fail
      go_ret2
      exact HF.out
  ·obtain rfl : k = 4 := by omega
   have hd : decide ((4 : Int) < 4) = false := by decide
   have c0 := S.rd.box.cell 0
   have hps := G.2
   have hg := G.1
   have hdn : rdSecs ([72, 79, 82, 90].drop 4) bs' = .ok ([], bs') := rfl
   rw [hdn] at hg
   simp only [List.append_nil] at hg
   have HGG := Lib.hid hg
   clear hg G HG HS hdn hk hk4
   by_cases h0 : bs'.length = 0
   ·have hd0 : decide (0 < (bs'.length : Int)) = false := decide_eq_false (by omega)
    have hbn : bs' = [] := List.eq_nil_of_length_eq_zero h0
    have HF := Lib.hid (show SecP w.heap.size bs w (.returned (.tuple #[u5, .int .i64 0])) wr from ⟨HFN.out _ S.fr, by
     rw [HGG.out]
     simp only
     rw [if_pos hbn]
     exact ⟨u5, vs, rfl, by
      have ho := S.own
      rw [hps] at ho
      refine ⟨ho.1, ?_⟩
      rcases ho.2 with h1 | ⟨g, cap, cur, h1, h2, h3⟩
      ·exact .inl h1
      ·exact .inr ⟨g, cap, cur, h1, Nat.le_trans HB0.out.size h2, h3⟩, S.pay, hps⟩⟩)
    clear HGG S hbn
    go_wp2_with fail
    go_ret2
    exact HF.out
   ·have hd0 : decide (0 < (bs'.length : Int)) = true := decide_eq_true (by omega)
    have hbn : bs' ≠ [] := fun e => h0 (by rw [e]; rfl)
    have HF := Lib.hid (show SecP w.heap.size bs w (.returned (.tuple #[.slice none 0 0, .int .i64 143])) wr from ⟨HFN.out _ S.fr, by
     rw [HGG.out]
     simp only
     rw [if_neg hbn]
     trivial⟩)
    clear HGG S hbn
    go_wp2_with fail
    go_ret2
    exact HF.out
end
section
open Go.RowKit
attribute [local go_sem] Oper.semAt_some
theorem info_wr : (Tryz.prog.info? 132).map (fun i => (i.zero, i.size, i.bytes)) = some (some (Value.agg #[.int .i64 0, .int .i64 0, .int .i64 0, .int .u32 0, .int .u32 0, .int .u32 0, .slice none 0 0, .int .i64 0]), 8, 72) := by kernel_rfl
structure Wr where
 x : Hd
 A : Option Addr
 c : Nat
 fs : List Nat
 pl : Nat
instance : Inhabited Wr := ⟨⟨⟨0, 0, 0, 0, 0⟩, none, 0, [], 0⟩⟩
def Wr.th (u : Wr) : Th := ⟨u.x, u.fs⟩
def Wr.cells (u : Wr) : List Value := [.int .i64 u.x.size, .int .i64 u.x.fmt, .int .i64 u.x.spare, .int .u32 0, .int .u32 u.x.ser, .int .u32 u.x.cls, .slice u.A u.fs.length u.c, .int .i64 u.pl]
def wrL (us : List Wr) : List Value := us.flatMap Wr.cells
theorem wrL_snoc (l : List Wr) (u : Wr) : wrL (l ++ [u]) = wrL l ++ u.cells := by simp [wrL]
theorem wr_one (n : Wr) : ∀ u ∈ n.cells, u.oneCell' = true := by
 intro u hu
 simp [Wr.cells] at hu
 rcases hu with rfl | rfl | rfl | rfl | rfl | rfl | rfl | rfl <;> rfl
theorem wrL_get : ∀ (l : List Wr) (i j : Nat), i < l.length → j < 8 → (wrL l)[i * 8 + j]? = ((l.getD i default).cells)[j]?
 | [], i, j, hi, hj => by simp at hi
 | a :: l, 0, j, hi, hj => by
   unfold wrL
   rw [List.flatMap_cons, List.getElem?_append_left (by simp [Wr.cells]; omega)]
   simp
 | a :: l, i + 1, j, hi, hj => by
   have ih := wrL_get l i j (by simpa using hi) hj
   unfold wrL at *
   rw [List.flatMap_cons, List.getElem?_append_right (by simp [Wr.cells]; omega)]
   rw [show (i + 1) * 8 + j - a.cells.length = i * 8 + j by simp [Wr.cells]; omega, ih]
   simp
theorem wrL_set (l : List Wr) (i : Nat) (hi : i < l.length) (at_ : Nat) : wrL (l.set i { (l.getD i default) with pl := at_ }) = (wrL l).set (i * 8 + 7) (.int .i64 at_) := by
 induction l generalizing i with
 | nil => simp at hi
 | cons a l ih =>
   cases i with
   | zero =>
     unfold wrL
     rw [List.set_cons_zero, List.flatMap_cons, List.flatMap_cons, List.set_append_left _ _ (by simp [Wr.cells])]
     rfl
   | succ i =>
     have := ih i (by simpa using hi)
     unfold wrL at *
     rw [List.set_cons_succ, List.flatMap_cons, List.flatMap_cons, List.set_append_right _ _ (by simp [Wr.cells]; omega)]
     rw [show (i + 1) * 8 + 7 - a.cells.length = i * 8 + 7 by simp [Wr.cells]; omega, ← this]
     simp
def Wrs (w : World) (g : Nat) (us : List Wr) : Prop := ∃ cur, Blk w g 132 cur ∧ cur.toList.take (us.length * 8) = wrL us
section
variable {w w' : World} {g : Nat} {us : List Wr}
theorem Wrs.lt (h : Wrs w g us) : g < w.heap.size := by obtain ⟨_, h, _⟩ := h; exact h.lt
theorem Wrs.same (h : Wrs w g us) (hs : w'.heap[g]? = w.heap[g]?) : Wrs w' g us := by obtain ⟨cur, hb, r⟩ := h; exact ⟨cur, hb.same hs, r⟩
theorem Wrs.below (h : Wrs w g us) (hb : Below w.heap.size w w') : Wrs w' g us := h.same (hb.block g h.lt)
theorem Wrs.frozen (h : Wrs w g us) (i : Nat) : w.frozen? ⟨g, i, none⟩ = false := by obtain ⟨cur, hb, _⟩ := h; exact hb.frozen i
theorem Wrs.cell (h : Wrs w g us) {i j : Nat} {u : Value} (hi : i < us.length) (hj : j < 8) (hu : ((us.getD i default).cells)[j]? = some u) : w.cell? ⟨g, i * 8 + j, none⟩ = some u := by
 obtain ⟨cur, hb, r⟩ := h
 rw [hb.cell (i * 8 + j)]
 have h1 : (wrL us)[i * 8 + j]? = some u := by rw [wrL_get us i j hi hj]; exact hu
 rw [← r, List.getElem?_take] at h1
 split at h1
 ·rw [← h1]; simp
 ·cases h1
theorem Wrs.place (h : Wrs w g us) (i : Nat) (hi : i < us.length) (at_ : Nat) : Wrs (w.setCell ⟨g, i * 8 + 7, none⟩ (.int .i64 at_)) g (us.set i { (us.getD i default) with pl := at_ }) := by
 obtain ⟨cur, hb, r⟩ := h
 refine ⟨_, hb.set_ (i * 8 + 7) (.int .i64 at_), ?_⟩
 rw [wrL_set us i hi, List.length_set, ← r]
 simp [List.take_set]
end
theorem own_wrs {w : World} {base n : Nat} {v : Value} {us : List Wr} (h : w.ownsRow base 132 8 v n (wrL us)) (hn : us.length = n) (h0 : 0 < n) : ∃ g c, v = .slice (some ⟨g, 0, none⟩) n c ∧ Wrs w g us ∧ base ≤ g := by
 rcases h.2 with ⟨rfl, h1⟩ | ⟨g, cap, cur, rfl, hb, hg, hh, hc, hs, ht⟩
 ·omega
 ·refine ⟨g, cap, rfl, ⟨cur, hg, ?_⟩, hb⟩
  rw [hn]
  exact ht
end
section
open Go.RowKit
attribute [local go_sem] Oper.semAt_some
theorem u32_or1 (x : Nat) (hx : 2 * x < 4294967296) : bits .or .u32 ((2 * x : Nat) : Int) 1 = ((2 * x + 1 : Nat) : Int) := by
 have h := u32_or_nat (2 * x) 1 hx (by omega)
 rw [show 2 * x ||| 1 = 2 * x + 1 from by
  have h2 := Nat.shiftLeft_add_eq_or_of_lt (i := 1) (b := 1) (by omega) x
  rw [Nat.shiftLeft_eq] at h2
  rw [show 2 * x = x * 2 ^ 1 by omega]
  exact h2.symm] at h
 exact h
theorem ofits_any (v : Int) (h1 : -1073741824 ≤ v) (h2 : v ≤ 1073741823) (w : World) : Calls Tryz.prog 118 #[.int .i64 v] w fun e w' => e = .returned (.bool true) ∧ w = w' := by
 go_enter Tryz.func118, Tryz.ntmps118
 go_wp2_with fail
 go_ret
 exact ⟨by simp, rfl⟩
theorem osmall_any (v : Int) (h1 : -1073741824 ≤ v) (h2 : v ≤ 1073741823) (w : World) : Calls Tryz.prog 98 #[.int .i64 v] w fun e w' => e = .returned (.tuple #[.int .u32 (smallO v : Nat), .int .i64 0]) ∧ w = w' := by
 have HF := Lib.hid (ofits_any v h1 h2 w)
 obtain ⟨x, hx⟩ : ∃ x : Nat, ((2 * x : Nat) : Int) = v % 4294967296 * 2 % 4294967296 := ⟨(v % 2147483648).toNat, by omega⟩
 have hxl : 2 * x < 4294967296 := by omega
 have hor : bits .or .u32 (v % 4294967296 * 2 % 4294967296) 1 = ((2 * x + 1 : Nat) : Int) := by rw [← hx]; exact u32_or1 x hxl
 have HV := Lib.hid (show smallO v = 2 * x + 1 by unfold smallO; omega)
 clear hx hxl
 go_enter Tryz.func98, Tryz.ntmps98
 go_wp2_with fail
 refine HF.out.mono ?_
 rintro e w1 ⟨rfl, rfl⟩
 go_wp2_with fail
 go_ret2
 exact ⟨by rw [HV.out]; rfl, rfl⟩
structure LayB (w : World) (b5 bf : Nat) (A : Option Addr) (c : Nat) (us : List Wr) (fine : Bool) : Prop where
 objs : Blk w b5 130 #[.slice A us.length c]
 fn : Blk w bf 4 #[.bool fine]
 row : 0 < us.length → ∃ g, A = some ⟨g, 0, none⟩ ∧ Wrs w g us
 pl : ∀ i, i < us.length → (us.getD i default).pl = placeT ((us.map Wr.th).take i)
 top : placeT (us.map Wr.th) ≤ 1048576
 len : us.length ≤ 9000000
def FineP (bf : Nat) (v : Nat) (fine : Bool) (w : World) (e : Ending) (w' : World) : Prop :=
 e = .returned (.int .u32 (v : Nat)) ∧ Blk w' bf 4 #[.bool fine] ∧ Fr1 bf w w'
set_option maxRecDepth 100000 in
set_option maxHeartbeats 2000000 in
theorem laynamed_any {w : World} {b5 bf c : Nat} {A : Option Addr} {us : List Wr} {fine : Bool} (S : LayB w b5 bf A c us fine) (n : Nat) (hn : n < 4294967296) :
 Calls Tryz.prog 95 #[.int .u32 n, .pointer (some ⟨b5, 0, none⟩), .pointer (some ⟨bf, 0, none⟩)] w (FineP bf (namedT (us.map Wr.th) n) (fine && !wrongN (us.map Wr.th) n) w) := by
 have c0 := S.objs.cell 0
 have c1 := S.fn.cell 0
 have z1 := S.fn.frozen 0
 have hlen := S.len
 have hul : (us.map Wr.th).length = us.length := List.length_map ..
 by_cases h0 : n = 0
 ·subst h0
  have HF := Lib.hid (show FineP bf (namedT (us.map Wr.th) 0) (fine && !wrongN (us.map Wr.th) 0) w (.returned (.int .u32 0)) w from
   ⟨rfl, by rw [show (fine && !wrongN (us.map Wr.th) 0) = fine by unfold wrongN; simp]; exact S.fn, Fr1.refl _ _⟩)
  clear S
  go_enter Tryz.func95, Tryz.ntmps95
  go_wp2_with fail
  go_ret
  exact HF.out
 have hz : ((n : Int) == 0) = false := by simp; omega
 have hw : IntKind.u32.wrap (us.length : Int) = (us.length : Int) := by show (us.length : Int) % 4294967296 = _; omega
 by_cases hbig : us.length < n
 ·have hd : decide ((us.length : Int) < (n : Int)) = true := by simp; omega
  have HF := Lib.hid (show FineP bf (namedT (us.map Wr.th) n) (fine && !wrongN (us.map Wr.th) n) w (.returned (.int .u32 0)) (w.setCell ⟨bf, 0, none⟩ (.bool false)) from by
   refine ⟨by unfold namedT; rw [if_neg h0, if_pos (by rw [hul]; exact hbig)]; rfl, ?_, Fr1.set _ _ _ _⟩
   rw [show (fine && !wrongN (us.map Wr.th) n) = false by unfold wrongN; rw [hul]; simp [hbig]]
   exact S.fn.set_ 0 _)
  clear S h0
  go_enter Tryz.func95, Tryz.ntmps95
  go_wp2_with fail
  go_ret
  exact HF.out
 ·have hd : decide ((us.length : Int) < (n : Int)) = false := by simp; omega
  obtain ⟨g, hA, hrow⟩ := S.row (by omega)
  subst hA
  have hpl := S.pl (n - 1) (by omega)
  have hcl := hrow.cell (i := n - 1) (j := 7) (u := .int .i64 (us.getD (n - 1) default).pl) (by omega) (by omega) rfl
  have hp1 : 1 ≤ (us.getD (n - 1) default).pl := by rw [hpl]; unfold placeT; omega
  have hp2 : (us.getD (n - 1) default).pl ≤ 1048576 := by rw [hpl]; exact Nat.le_trans (placeT_le _ _) S.top
  have HAT := Lib.hid (oat_any (us.getD (n - 1) default).pl hp1 (by omega) w)
  have HF := Lib.hid (show FineP bf (namedT (us.map Wr.th) n) (fine && !wrongN (us.map Wr.th) n) w (.returned (.int .u32 (2 * (us.getD (n - 1) default).pl : Nat))) w from by
   refine ⟨?_, ?_, Fr1.refl _ _⟩
   ·unfold namedT
    rw [if_neg h0, if_neg (by rw [hul]; omega), ← hpl, Nat.mod_eq_of_lt (by omega)]
   ·rw [show (fine && !wrongN (us.map Wr.th) n) = fine by unfold wrongN; rw [hul]; simp; omega]
    exact S.fn)
  clear S hrow hpl
  generalize (us.getD (n - 1) default).pl = pl at *
  obtain ⟨m, rfl⟩ : ∃ m, n = m + 1 := ⟨n - 1, by omega⟩
  have hm1 : ((m + 1 : Nat) : Int) - 1 = (m : Int) := by omega
  have hlt : (m : Int) < (us.length : Int) := by omega
  simp only [Nat.add_sub_cancel] at hcl
  clear h0
  go_enter Tryz.func95, Tryz.ntmps95
  go_wp2_with fail
  refine HAT.out.mono ?_
  rintro e w1 ⟨rfl, rfl⟩
  go_wp2_with fail
  go_ret
  exact HF.out
structure LayV (w : World) (b5 bf b13 : Nat) (A : Option Addr) (c : Nat) (us : List Wr) (fine : Bool) : Prop where
 b : LayB w b5 bf A c us fine
 cl : Blk w b13 161 #[.func (.func 95) #[] #[.pointer (some ⟨b5, 0, none⟩), .pointer (some ⟨bf, 0, none⟩)]]
set_option maxRecDepth 100000 in
set_option maxHeartbeats 2000000 in
theorem layvalue_any {w : World} {b5 bf b13 c : Nat} {A : Option Addr} {us : List Wr} {fine : Bool} (S : LayV w b5 bf b13 A c us fine) (n : Nat) (hn : n < 4294967296) :
 Calls Tryz.prog 97 #[.int .u32 n, .pointer (some ⟨b13, 0, none⟩)] w (FineP bf (valT (us.map Wr.th) n) (fine && !wrongV (us.map Wr.th) n) w) := by
 have c0 := S.cl.cell 0
 have hand := u32_and_one n hn
 by_cases h0 : n % 2 = 0
 ·have HN := Lib.hid (laynamed_any S.b (n / 2) (by omega))
  have HE := Lib.hid (show valT (us.map Wr.th) n = namedT (us.map Wr.th) (n / 2) ∧ wrongV (us.map Wr.th) n = wrongN (us.map Wr.th) (n / 2) from ⟨by unfold valT; rw [if_pos h0], by unfold wrongV; rw [decide_eq_true h0, Bool.true_and]⟩)
  rw [h0] at hand
  have hdv : ((n / 2 : Nat) : Int) = (n : Int) / 2 := by omega
  rw [hdv] at HN
  clear S h0 hdv
  go_enter Tryz.func97, Tryz.ntmps97
  go_wp2_with fail
  refine HN.out.mono ?_
  rintro e w1 ⟨rfl, h1, h2⟩
  have HR := Lib.hid (And.intro h1 h2)
  clear h1 h2
  go_wp2_with fail
  go_ret
  rw [HE.out.1, HE.out.2]
  exact ⟨rfl, HR.out.1, HR.out.2⟩
 ·have h1 : n % 2 = 1 := by omega
  have HE := Lib.hid (show valT (us.map Wr.th) n = smallO (zagI (n / 2)) ∧ (fine && !wrongV (us.map Wr.th) n) = fine from ⟨by unfold valT; rw [if_neg h0], by unfold wrongV; rw [decide_eq_false h0]; simp⟩)
  have HB := Lib.hid S.b.fn
  rw [h1] at hand
  clear S h0
  obtain ⟨z, hz⟩ : ∃ z, z = n / 2 := ⟨_, rfl⟩
  have hzl : z < 2147483648 := by omega
  have hzi : (n : Int) / 2 = (z : Int) := by omega
  by_cases hp : z % 2 = 0
  ·have HV := Lib.hid (show zagI (n / 2) = (z : Int) / 2 by rw [← hz]; unfold zagI; rw [if_pos hp]; omega)
   have hr : ((z : Int) % 2 == 1) = false := by simp; omega
   have HS := Lib.hid (osmall_any ((z : Int) / 2) (by omega) (by omega) w)
   rw [HV.out] at HE
   clear hp hz h1 HV
   go_enter Tryz.func97, Tryz.ntmps97
   go_wp2_with fail
   refine HS.out.mono ?_
   rintro e w1 ⟨rfl, rfl⟩
   go_wp2_with fail
   go_ret
   rw [HE.out.1, HE.out.2]
   exact ⟨rfl, HB.out, Fr1.refl _ _⟩
  ·obtain ⟨y, hy⟩ : ∃ y, y = (z + 1) / 2 := ⟨_, rfl⟩
   have hyb : y ≤ 1073741824 := by omega
   have HV := Lib.hid (show zagI (n / 2) = -(y : Int) by rw [← hz]; unfold zagI; rw [if_neg hp, hy])
   have hr : ((z : Int) % 2 == 1) = true := by simp; omega
   have HS := Lib.hid (osmall_any (-(y : Int)) (by omega) (by omega) w)
   have hq : ((z : Int) + 1).tdiv 2 = (y : Int) := by rw [Int.tdiv_eq_ediv_of_nonneg (by omega)]; omega
   rw [HV.out] at HE
   clear hp hz h1 HV hy
   go_enter Tryz.func97, Tryz.ntmps97
   go_wp2_with fail
   refine HS.out.mono ?_
   rintro e w1 ⟨rfl, rfl⟩
   go_wp2_with fail
   go_ret
   rw [HE.out.1, HE.out.2]
   exact ⟨rfl, HB.out, Fr1.refl _ _⟩
end
end Go.Proofs.YthadjmhipckelaaGreatDoor
