/- counts, reference; the document's Count of one number. -/
/- Follow: from an oop along fields. -/
import Derived.Test.YtpajpdjjpgbklaaDoorJCmpC
import Derived.Test.YtpajpdjjpgbklaaDoorJText
import Derived.Test.YtpajpdjjpgbklaaDoorJRefI
import Derived.Laws.Bits128
set_option linter.unusedVariables false
set_option linter.unusedSectionVars false
namespace Go.Proofs.YtpajpdjjpgbklaaDoor
open Go.RowKit Go.Maps
attribute [local go_sem] Oper.semAt_some

/-- A value's count. -/
def zig (n : Int) : Nat := (2 * (if 0 ≤ n then 2 * n else -2 * n - 1) + 1).toNat
def refM (l : List Nd) (o : Nat) : Nat := if kindM o = 0 then 0 else if kindM o = 2 then 2 * numF l o else zig (smallV o)
theorem zig_pos {n : Int} (h : 0 ≤ n) : (zig n : Int) = 2 * (2 * n) + 1 := by unfold zig; rw [if_pos h]; omega
theorem zig_neg {n : Int} (h : ¬ 0 ≤ n) : (zig n : Int) = 2 * (-2 * n - 1) + 1 := by unfold zig; rw [if_neg h]; omega
theorem refM_lt (l : List Nd) (o : Nat) (ho : o < 4294967296) (hl : l.length ≤ 4000000) : refM l o < 8589934592 := by
  unfold refM
  have h1 := smallV_lo o ho
  have h2 := smallV_hi o ho
  have h3 := numF_le l o
  split
  · omega
  · split
    · omega
    · by_cases h : 0 ≤ smallV o
      · have := zig_pos h; omega
      · have := zig_neg h; omega

set_option maxRecDepth 100000 in
set_option maxHeartbeats 2000000 in
theorem reference_any {w : World} {B gG mB : Nat} {hv vm vd : Value} {l : List Nd} (G : GAt w B gG mB hv vm vd l) (o : Nat) (ho : o < 4294967296) (hl : l.length ≤ 4000000) :
    Calls Tryd.prog 46 #[.pointer (some ⟨gG, 0, none⟩), .int .u32 o] w (Said (.int .u64 (refM l o : Nat)) w) := by
  have HK := Lib.hid (ckind_any o ho w)
  by_cases hk0 : kindM o = 0
  · have HF := Lib.hid (show refM l o = 0 by unfold refM; rw [if_pos hk0])
    rw [hk0] at HK
    clear hk0 G
    go_enter Tryd.func46, Tryd.ntmps46
    go_wp2_with fail
    refine HK.out.mono ?_
    rintro e w' ⟨rfl, rfl⟩
    go_wp2_with fail
    go_ret
    exact ⟨by rw [HF.out]; rfl, rfl⟩
  · by_cases hk2 : kindM o = 2
    · have HF := Lib.hid (show (refM l o : Int) = 2 * (numF l o : Int) by unfold refM; rw [if_neg hk0, if_pos hk2]; omega)
      rw [hk2] at HK
      have c2 := G.box.cell 2
      have hlk := G.num.is.look oopTy ho
      have hnl := numF_le l o
      clear hk0 hk2 G
      generalize numF l o = k at *
      go_enter Tryd.func46, Tryd.ntmps46
      go_wp2_with fail
      refine HK.out.mono ?_
      rintro e w' ⟨rfl, rfl⟩
      go_wp2_with fail
      go_ret
      exact ⟨by rw [HF.out]; rfl, rfl⟩
    · have hk1 : kindM o = 1 := by have := (show kindM o = 0 ∨ kindM o = 1 ∨ kindM o = 2 by unfold kindM; split <;> (try split) <;> simp); omega
      have HZ := Lib.hid (show (refM l o : Nat) = zig (smallV o) by unfold refM; rw [if_neg hk0, if_neg hk2])
      rw [hk1] at HK
      have HV := Lib.hid (Value_any o ho (by unfold kindM at hk1; split at hk1 <;> (try split at hk1) <;> simp_all) w)
      have h1 := smallV_lo o ho
      have h2 := smallV_hi o ho
      clear hk0 hk1 hk2 G
      generalize smallV o = n at *
      by_cases hn : 0 ≤ n
      · have hd : decide (0 ≤ n) = true := by simpa using hn
        have HF := Lib.hid (zig_pos hn)
        have HW := Lib.hid (show IntKind.u64.wrap (IntKind.u64.wrap (2 * IntKind.u64.wrap (2 * n)) + 1) = 2 * (2 * n) + 1 by simp only [wrap64_mod]; omega)
        clear hn
        go_enter Tryd.func46, Tryd.ntmps46
        go_wp2_with fail
        refine HK.out.mono ?_
        rintro e w' ⟨rfl, rfl⟩
        go_wp2_with fail
        refine HV.out.mono ?_
        rintro e w' ⟨rfl, rfl⟩
        go_wp2_with fail
        go_ret
        exact ⟨by rw [HZ.out, HF.out, ← HW.out]; rfl, rfl⟩
      · have hd : decide (0 ≤ n) = false := by simpa using hn
        have HF := Lib.hid (zig_neg hn)
        have HW := Lib.hid (show IntKind.u64.wrap (IntKind.u64.wrap (2 * IntKind.u64.wrap (-2 * n - 1)) + 1) = 2 * (-2 * n - 1) + 1 by simp only [wrap64_mod]; omega)
        clear hn
        go_enter Tryd.func46, Tryd.ntmps46
        go_wp2_with fail
        refine HK.out.mono ?_
        rintro e w' ⟨rfl, rfl⟩
        go_wp2_with fail
        refine HV.out.mono ?_
        rintro e w' ⟨rfl, rfl⟩
        go_wp2_with fail
        go_ret
        exact ⟨by rw [HZ.out, HF.out, ← HW.out]; rfl, rfl⟩

theorem cnt7_len : ∀ (k x : Nat), x < 128 ^ (k + 1) → (cnt7 x).length ≤ k + 1
  | 0, x, h => by rw [cnt7_small (by simpa using h)]; simp
  | k + 1, x, h => by
    by_cases hx : x < 128
    · rw [cnt7_small hx]; simp
    · rw [cnt7_big hx]
      have := cnt7_len k (x / 128) (by rw [Nat.div_lt_iff_lt_mul (by omega)]; rw [Nat.pow_succ] at h; exact h)
      simp; omega
theorem cnt7_len10 {x : Nat} (h : x < 18446744073709551616) : (cnt7 x).length ≤ 10 := by
  have e : (128 : Nat) ^ (9 + 1) = 1180591620717411303424 := by decide
  exact cnt7_len 9 x (by rw [e]; omega)
/-- A row that grew: another block is as it was. -/
structure Grows (w w' : World) (v v' : Value) : Prop where
  g : w.grownBy w' v.ownBlock
  at_ : ∀ k, v'.ownBlock = some k → v.ownBlock = some k ∨ w.heap.size ≤ k
theorem Grows.refl (w : World) (v : Value) : Grows w w v v := ⟨World.grownBy.refl w _, fun _ h => .inl h⟩
theorem Grows.size {w w' : World} {v v' : Value} (h : Grows w w' v v') : w.heap.size ≤ w'.heap.size := h.g.size
theorem Grows.trans {a b c : World} {u v x : Value} (h : Grows a b u v) (h' : Grows b c v x) : Grows a c u x := by
  refine ⟨⟨h'.g.os.trans h.g.os, h'.g.tape.trans h.g.tape, h'.g.output.trans h.g.output, Nat.le_trans h.g.size h'.g.size, fun k hk hn => ?_⟩, fun k hk => ?_⟩
  · refine (h'.g.block k (by have := h.g.size; omega) (fun e => ?_)).trans (h.g.block k hk hn)
    rcases h.at_ k e.symm with e' | e'
    · exact hn e'.symm
    · omega
  · rcases h'.at_ k hk with e | e
    · exact h.at_ k e
    · right; have := h.g.size; omega
theorem Grows.below {a b c : World} {u v : Value} (h : Grows a b u v) (hb : Below b.heap.size b c) : Grows a c u v :=
  h.trans ⟨⟨hb.os, hb.tape, hb.output, hb.size, fun k hk _ => hb.block k hk⟩, fun _ e => .inl e⟩
theorem Grows.of {a b : World} {u v : Value} (hg : a.grownBy b u.ownBlock) (ha : v.ownBlock = u.ownBlock ∨ v.ownBlock = some a.heap.size) : Grows a b u v :=
  ⟨hg, fun k hk => by rcases ha with e | e
                      · exact .inl (e ▸ hk)
                      · rw [e] at hk; injection hk with hk; exact .inr (by omega)⟩
/-- What counts leaves of one number. -/
def CountsP (B : Nat) (v : Value) (bs : List Nat) (x : Nat) (w : World) (e : Ending) (w' : World) : Prop :=
  ∃ v', e = .returned v' ∧ w'.ownsRow B 5 1 v' (bs ++ cnt7 x).length (u8c (bs ++ cnt7 x)) ∧ Grows w w' v v'
set_option maxRecDepth 100000 in
theorem or128_any (m : Nat) : bits .or .u8 ((m : Int) % 256) 128 = ((m % 128 + 128 : Nat) : Int) := by
  have h : ∀ a : Fin 256, (a.val ||| 128) = a.val % 128 + 128 := by decide
  have h1 := u8_or_nat (m % 256) 128 (by omega) (by omega)
  rw [h ⟨m % 256, by omega⟩] at h1
  simp only at h1
  rw [show ((m : Int) % 256) = ((m % 256 : Nat) : Int) by omega, show (128 : Int) = ((128 : Nat) : Int) from rfl, h1]
  congr 1
  omega

set_option maxRecDepth 100000 in
set_option maxHeartbeats 4000000 in
theorem counts_any {w : World} {B n : Nat} {v : Value} {bs : List Nat} (hown : w.ownsRow B 5 1 v n (u8c bs)) (A : Option Addr) (c x : Nat) (hn : n ≤ 100000000000000) (hr : Reads w w.heap.size 1 A 1 [.int .u64 x]) (hx : x < 18446744073709551616) (hB : B ≤ w.heap.size) :
    Calls Tryd.prog 45 #[v, .slice A 1 c] w (CountsP B v bs x w) := by
  have hl : bs.length = n := by have := hown.1; simpa [u8c] using this
  have HO := Lib.hid (show w.ownsRow B 5 1 v bs.length (u8c bs) from hl ▸ hown)
  have hc10 := cnt7_len10 hx
  obtain ⟨ad, u0, rfl, _, hgx, hcell⟩ := hr.at_ (k := 0) (by omega)
  have HR := Lib.hid hr
  replace hcell : w.cell? ad = some u0 := hcell
  have hu : u0 = .int .u64 (x : Int) := by simpa using hgx.symm
  subst hu
  obtain ⟨i0, hi0, hz0, hz1, hz2⟩ := info_parts info_u8
  clear hown hgx hr
  go_enter Tryd.func45, Tryd.ntmps45
  go_wp2_with fail
  go_loopw [0, 6, 9] (fun b y i wr => (i = .int .i64 0 ∧ v = b ∧ wr.ownsRow B 5 1 b bs.length (u8c bs) ∧ wr.cell? ad = some (.int .u64 x) ∧ Grows w wr v b) ∨ (i = .int .i64 1 ∧ wr.ownsRow B 5 1 b (bs ++ cnt7 x).length (u8c (bs ++ cnt7 x)) ∧ Grows w wr v b)) (fun _ _ i _ => 1 - (intOf i).toNat)
  case atStart => exact .inl ⟨rfl, rfl, HO.out, hcell, .refl _ _⟩
  case round =>
    clear hcell HO
    rcases hrel with ⟨rfl, rfl, hown, hcell, hgr⟩ | ⟨rfl, hown, hgr⟩
    · have HOW := Lib.hid hown
      have HGR := Lib.hid hgr
      clear hown hgr
      go_wp2_with fail
      clear hcell
      go_loopw [0, 6] (fun b y wr => ∃ m bs', y = .int .u64 (m : Nat) ∧ m < 18446744073709551616 ∧ bs' ++ cnt7 m = bs ++ cnt7 x ∧ wr.ownsRow B 5 1 b (bs' : List Nat).length (u8c bs') ∧ Grows w wr v b) (fun _ y _ => (intOf y).toNat)
      case atStart => exact ⟨x, bs, rfl, by omega, rfl, HOW.out, HGR.out⟩
      case round =>
        clear HOW HGR
        obtain ⟨m, bs', rfl, hm, hcat, hown, hgr⟩ := hrel
        have HOW := Lib.hid hown
        have HGR := Lib.hid hgr
        have HCAT := Lib.hid hcat
        clear hown hgr hcat
        have hBw : B ≤ wr.heap.size := Nat.le_trans hB HGR.out.size
        by_cases h128 : m < 128
        · have hbl : bs'.length ≤ bs.length + 10 := by have := congrArg List.length HCAT.out; simp at this; omega
          have hd : decide (128 ≤ (m : Int)) = false := by simp; omega
          have hm8 : ((m : Int) % 256) = (m : Int) := by omega
          have HC1 := Lib.hid (show bs ++ cnt7 x = bs' ++ [m] by rw [← HCAT.out, cnt7_small h128])
          clear h128 hm
          go_wp2_with (at_builtin; refine wpList_append_any _ rfl (.tmp 23) (.tmp 26) _ rfl B 5 i0 _ 1 1 Tryd.underlying46 hi0 hz0 hz1 hz2 rfl (by omega) u0 bs'.length _ rfl (HOW.out.alloc _) (wr.heap.size + 1) (some ⟨wr.heap.size, 0, none⟩) 1 1 (u8c [m]) rfl ⟨rfl, fun _ => ⟨_, rfl, by simp, cell_one_new _ _ _⟩⟩ (one_u8c _) (by simp only [maxLen]; omega) (by omega) (by simp; omega) ?_; intro v1 w5 hown5 hgrow hat5)
          go_roundw
          case rel =>
            refine .inr ⟨by go_num, ?_, ?_⟩
            · rw [HC1.out]
              unfold u8c at hown5 ⊢
              rw [List.map_append, List.length_append]
              exact hown5
            · exact (HGR.out.below ((Below.refl _ wr).alloc (Nat.le_refl _) _)).trans (.of hgrow hat5)
          case measure => simp [intOf]
        · have hbl : bs'.length + 1 ≤ bs.length + 10 := by have := congrArg List.length HCAT.out; rw [cnt7_big h128] at this; simp at this; omega
          have hd : decide (128 ≤ (m : Int)) = true := by simp; omega
          have hor := or128_any m
          have HC1 := Lib.hid (show (bs' ++ [m % 128 + 128]) ++ cnt7 (m / 128) = bs ++ cnt7 x by rw [← HCAT.out, cnt7_big h128]; simp)
          have HD := Lib.hid (show m / 128 < 18446744073709551616 ∧ m / 128 < m by omega)
          clear h128 hm
          go_wp2_with (at_builtin; refine wpList_append_any _ rfl (.tmp 15) (.tmp 19) _ rfl B 5 i0 _ 1 1 Tryd.underlying46 hi0 hz0 hz1 hz2 rfl (by omega) u0 bs'.length _ rfl (HOW.out.alloc _) (wr.heap.size + 1) (some ⟨wr.heap.size, 0, none⟩) 1 1 (u8c [m % 128 + 128]) rfl ⟨rfl, fun _ => ⟨_, rfl, by simp, cell_one_new _ _ _⟩⟩ (one_u8c _) (by simp only [maxLen]; omega) (by omega) (by simp; omega) ?_; intro v1 w5 hown5 hgrow hat5)
          go_roundw
          case rel =>
            refine ⟨m / 128, bs' ++ [m % 128 + 128], by go_num, HD.out.1, HC1.out, ?_, (HGR.out.below ((Below.refl _ wr).alloc (Nat.le_refl _) _)).trans (.of hgrow hat5)⟩
            unfold u8c at hown5 ⊢
            rw [List.map_append, List.length_append]
            exact hown5
          case measure => have := HD.out.2; simp [intOf]; omega
    · have HOW := Lib.hid hown
      have HGR := Lib.hid hgr
      clear hown hgr
      go_wp2_with fail
      go_ret
      exact ⟨_, rfl, HOW.out, HGR.out⟩

/-- The document's Count of one number. -/
def RCountP (x : Nat) (w : World) (e : Ending) (w' : World) : Prop :=
  ∃ v', e = .returned v' ∧ w'.ownsRow w.heap.size 5 1 v' (cnt7 x).length (u8c (cnt7 x)) ∧ Below w.heap.size w w'
set_option maxRecDepth 100000 in
set_option maxHeartbeats 4000000 in
theorem rcount_any (x : Nat) (hx : x < 18446744073709551616) (w : World) : Calls Tryd.prog 57 #[.int .u64 x] w (RCountP x w) := by
  have hc10 := cnt7_len10 hx
  obtain ⟨i0, hi0, hz0, hz1, hz2⟩ := info_parts info_u8
  have HO := Lib.hid (show w.ownsRow w.heap.size 5 1 (.slice none 0 0) ([] : List Nat).length (u8c []) from ⟨rfl, .inl ⟨rfl, rfl⟩⟩)
  go_enter Tryd.func57, Tryd.ntmps57
  go_wp2_with fail
  go_loopw [0, 3] (fun y b wr => ∃ m bs', y = .int .u64 (m : Nat) ∧ m < 18446744073709551616 ∧ bs' ++ cnt7 m = cnt7 x ∧ wr.ownsRow w.heap.size 5 1 b (bs' : List Nat).length (u8c bs') ∧ Below w.heap.size w wr) (fun y _ _ => (intOf y).toNat)
  case atStart => exact ⟨x, [], rfl, hx, rfl, HO.out, Below.refl _ _⟩
  case round =>
    clear HO
    obtain ⟨m, bs', rfl, hm, hcat, hown, hgr⟩ := hrel
    have HOW := Lib.hid hown
    have HGR := Lib.hid hgr
    have HCAT := Lib.hid hcat
    clear hown hgr hcat
    have hBw : w.heap.size ≤ wr.heap.size := HGR.out.size
    by_cases h128 : m < 128
    · have hbl : bs'.length ≤ 10 := by have := congrArg List.length HCAT.out; simp at this; omega
      have hd : decide (128 ≤ (m : Int)) = false := by simp; omega
      have hm8 : ((m : Int) % 256) = (m : Int) := by omega
      have HC1 := Lib.hid (show cnt7 x = bs' ++ [m] by rw [← HCAT.out, cnt7_small h128])
      clear h128 hm
      go_wp2_with (at_builtin; refine wpList_append_any _ rfl (.tmp 15) (.tmp 18) _ rfl w.heap.size 5 i0 _ 1 1 Tryd.underlying46 hi0 hz0 hz1 hz2 rfl (by omega) u3 bs'.length _ rfl (HOW.out.alloc _) (wr.heap.size + 1) (some ⟨wr.heap.size, 0, none⟩) 1 1 (u8c [m]) rfl ⟨rfl, fun _ => ⟨_, rfl, by simp, cell_one_new _ _ _⟩⟩ (one_u8c _) (by simp only [maxLen]; omega) (by omega) (by simp; omega) ?_; intro v1 w5 hown5 hgrow hat5)
      go_ret
      refine ⟨_, rfl, ?_, below_grown (Nat.le_refl _) (HGR.out.alloc HGR.out.size _) hgrow (fun q hq => (HOW.out.lt q hq).1)⟩
      rw [HC1.out]
      unfold u8c at hown5 ⊢
      rw [List.map_append, List.length_append]
      exact hown5
    · have hbl : bs'.length + 1 ≤ 10 := by have := congrArg List.length HCAT.out; rw [cnt7_big h128] at this; simp at this; omega
      have hd : decide (128 ≤ (m : Int)) = true := by simp; omega
      have HC1 := Lib.hid (show (bs' ++ [m % 128 + 128]) ++ cnt7 (m / 128) = cnt7 x by rw [← HCAT.out, cnt7_big h128]; simp)
      have HD := Lib.hid (show m / 128 < 18446744073709551616 ∧ m / 128 < m by omega)
      have ht : (m : Int).tmod 128 = (m : Int) % 128 := Int.tmod_eq_emod_of_nonneg (by omega)
      have hq : (m : Int).tdiv 128 = (m : Int) / 128 := Int.tdiv_eq_ediv_of_nonneg (by omega)
      have hwq : IntKind.u64.wrap ((m : Int) / 128) = (m : Int) / 128 := by rw [wrap64_mod]; omega
      clear h128 hm
      go_wp2_with (at_builtin; refine wpList_append_any _ rfl (.tmp 6) (.tmp 11) _ rfl w.heap.size 5 i0 _ 1 1 Tryd.underlying46 hi0 hz0 hz1 hz2 rfl (by omega) u3 bs'.length _ rfl (HOW.out.alloc _) (wr.heap.size + 1) (some ⟨wr.heap.size, 0, none⟩) 1 1 (u8c [m % 128 + 128]) rfl ⟨rfl, fun _ => ⟨_, rfl, by simp, cell_one_new _ _ _⟩⟩ (one_u8c _) (by simp only [maxLen]; omega) (by omega) (by simp; omega) ?_; intro v1 w5 hown5 hgrow hat5)
      go_roundw
      case rel =>
        refine ⟨m / 128, bs' ++ [m % 128 + 128], by go_num, HD.out.1, HC1.out, ?_, below_grown (Nat.le_refl _) (HGR.out.alloc HGR.out.size _) hgrow (fun q hq => (HOW.out.lt q hq).1)⟩
        unfold u8c at hown5 ⊢
        rw [List.map_append, List.length_append]
        exact hown5
      case measure => have := HD.out.2; simp [intOf]; omega
end Go.Proofs.YtpajpdjjpgbklaaDoor

namespace Go.Proofs.YtpajpdjjpgbklaaDoor
open Go.RowKit
attribute [local go_sem] Oper.semAt_some

def intZ (l : List Int) : List Value := l.map (.int .i64 ·)
theorem intZ_len (l : List Int) : (intZ l).length = l.length := by simp [intZ]
theorem intZ_get {l : List Int} {k : Nat} (h : k < l.length) : (intZ l)[k]? = some (.int .i64 (l.getD k 0)) := by
  unfold intZ; rw [List.getElem?_map, List.getElem?_eq_getElem h, List.getD_eq_getElem?_getD, List.getElem?_eq_getElem h]; rfl
/-- Where a way leads, the error's number. -/
def HM.followS (h : HM) : Nat → List Int → Nat × Nat
  | o, [] => (o, 0)
  | o, i :: is => if h.isB o = false then (0, 3) else if i = -1 then h.followS (h.hd (o / 2)).cls is else if h.lookE o i [1, 4] = 0 then h.followS (fw h o i.toNat) is else (0, h.lookE o i [1, 4])
def HM.followM (h : HM) (o : Nat) (path : List Int) : Nat × Nat := if h.fitsB [o] then h.followS o path else (0, 3)
theorem drop_at {l : List Int} {k : Nat} (h : k < l.length) : l.drop k = l.getD k 0 :: l.drop (k + 1) := by
  rw [List.drop_eq_getElem_cons h, List.getD_eq_getElem?_getD, List.getElem?_eq_getElem h]; rfl
theorem followS_no {h : HM} {o : Nat} (hi : h.isB o = false) (i : Int) (is : List Int) : h.followS o (i :: is) = (0, 3) := by unfold HM.followS; rw [if_pos hi]
theorem followS_cls {h : HM} {o : Nat} (hi : h.isB o = true) (is : List Int) : h.followS o (-1 :: is) = h.followS (h.hd (o / 2)).cls is := by
  conv => lhs; unfold HM.followS
  rw [if_neg (by simp [hi]), if_pos rfl]
theorem followS_get {h : HM} {o : Nat} (hi : h.isB o = true) {i : Int} (h1 : i ≠ -1) (he : h.lookE o i [1, 4] = 0) (is : List Int) : h.followS o (i :: is) = h.followS (fw h o i.toNat) is := by
  conv => lhs; unfold HM.followS
  rw [if_neg (by simp [hi]), if_neg h1, if_pos he]
theorem followS_err {h : HM} {o : Nat} (hi : h.isB o = true) {i : Int} (h1 : i ≠ -1) (he : h.lookE o i [1, 4] ≠ 0) (is : List Int) : h.followS o (i :: is) = (0, h.lookE o i [1, 4]) := by
  unfold HM.followS; rw [if_neg (by simp [hi]), if_neg h1, if_neg he]
set_option maxRecDepth 100000 in
set_option maxHeartbeats 4000000 in
theorem follow_any {w : World} {p : HP} {h : HM} (H : HAt w p h) (f : h.Fit) (hh : h.Heads) (hs : Spares w) (o : Nat) (ho : o < 4294967296) (A : Option Addr) (n c : Nat) (path : List Int) (hn : n ≤ 9223372036854775807) (hr : Reads w w.heap.size 1 A n (intZ path)) :
    Calls Tryd.prog 17 #[ptr p.g, .int .u32 o, .slice A n c] w (Told (.tuple #[.int .u32 ((h.followM o path).1 : Nat), .int .i64 ((h.followM o path).2 : Nat)]) w) := by
  have hl : path.length = n := by have := hr.1; rw [intZ_len] at this; omega
  have HL := Lib.hid hl; have HR := Lib.hid hr; have HH := Lib.hid H
  have hb0 : Below w.heap.size w (w.alloc (.cells #[.int .u32 o] 50)) := (Below.refl _ _).alloc (Nat.le_refl _) _
  have HFT := Lib.hid (cfits_any (HH.out.below hb0) f (some ⟨w.heap.size, 0, none⟩) 1 1 [o] (by omega) ⟨rfl, fun _ => ⟨_, rfl, by simp, cell_one_new _ _ _⟩⟩ (fun x hx => by simp at hx; omega))
  have HB0 := Lib.hid hb0
  clear hl hr H hb0
  unfold ptr at HFT
  unfold ptr
  cases hfit : h.fitsB [o]
  · have HF := Lib.hid (show h.followM o path = (0, 3) by unfold HM.followM; rw [hfit]; rfl)
    rw [hfit] at HFT
    clear hfit
    go_enter Tryd.func17, Tryd.ntmps17
    go_wp2_with fail
    refine HFT.out.mono ?_
    rintro e w1 ⟨rfl, hb1⟩
    have HB1 := Lib.hid (below_top HB0.out hb1)
    go_wp2_with fail
    go_ret2
    exact ⟨by rw [HF.out]; rfl, HB1.out⟩
  · have HF := Lib.hid (show h.followM o path = h.followS o path by unfold HM.followM; rw [hfit]; rfl)
    rw [hfit] at HFT
    clear hfit
    go_enter Tryd.func17, Tryd.ntmps17
    go_wp2_with fail
    refine HFT.out.mono ?_
    rintro e w1 ⟨rfl, hb1⟩
    have HB1 := Lib.hid (below_top HB0.out hb1)
    clear HFT HB0 hb1
    go_wp2_with fail
    go_loopw [1, 19] (fun v i wr => ∃ (k q : Nat), k ≤ n ∧ i = .int .i64 k ∧ v = .int .u32 (q : Nat) ∧ q < 4294967296 ∧ h.followS q (path.drop k) = h.followS o path ∧ Below w.heap.size w wr) (fun _ i _ => n - (intOf i).toNat)
    case atStart => exact ⟨0, o, by omega, rfl, rfl, ho, rfl, HB1.out⟩
    case round =>
      clear HB1
      obtain ⟨k, q, hk, rfl, rfl, hq, hfo, hb⟩ := hrel
      have HFO := Lib.hid hfo
      have HB := Lib.hid hb
      by_cases hlt : k < n
      · obtain ⟨ad, u0, rfl, _, hx, hcell⟩ := (HR.out.below hb).at_ hlt
        have hkl : k < path.length := by rw [HL.out]; exact hlt
        rw [intZ_get hkl] at hx
        injection hx with hx
        subst hx
        have HDR := Lib.hid (drop_at hkl)
        have HHD := Lib.hid (Header_any (HH.out.below hb) f hh (hs.below hb) q hq)
        have HGT := Lib.hid (fun w' (hb' : Below w.heap.size w w') => get_any (HH.out.below hb') f hh (hs.below hb') q hq (path.getD k 0))
        generalize path.getD k 0 = x at *
        unfold ptr at HHD HGT
        clear hfo hb hkl
        cases hi : h.isB q
        · rw [show h.headerV q = .tuple #[.agg #[.int .i64 0, .int .i64 0, .int .i64 0, .int .u32 0, .int .u32 0], .int .i64 3] by simp [HM.headerV, hi]] at HHD
          have HNO := Lib.hid (show h.followS o path = (0, 3) by rw [← HFO.out, HDR.out, followS_no hi])
          clear hi
          go_wp2_with fail
          refine HHD.out.mono ?_
          rintro e w2 ⟨rfl, hb2⟩
          have HB2 := Lib.hid ((below_top HB.out hb2).alloc (below_top HB.out hb2).size (.cells #[.int .i64 0, .int .i64 0, .int .i64 0, .int .u32 0, .int .u32 0] 55))
          go_wp2_with fail
          go_ret2
          exact ⟨by rw [HF.out, HNO.out]; rfl, HB2.out⟩
        · rw [show h.headerV q = .tuple #[.agg #[.int .i64 (h.hd (q / 2)).size, .int .i64 (h.hd (q / 2)).fmt, .int .i64 (h.hd (q / 2)).spare, .int .u32 (h.hd (q / 2)).cls, .int .u32 (h.hd (q / 2)).ser], .int .i64 0] by unfold HM.headerV; rw [hi]; rfl] at HHD
          have hcl := (HM.hd_fit f (q / 2)).cls
          by_cases h1 : x = -1
          · subst h1
            have HNX := Lib.hid (show h.followS (h.hd (q / 2)).cls (path.drop (k + 1)) = h.followS o path by rw [← HFO.out, HDR.out, followS_cls hi])
            clear hi
            generalize h.hd (q / 2) = X at *
            go_wp2_with fail
            refine HHD.out.mono ?_
            rintro e w2 ⟨rfl, hb2⟩
            have HB2 := Lib.hid ((below_top HB.out hb2).alloc (below_top HB.out hb2).size (.cells #[.int .i64 X.size, .int .i64 X.fmt, .int .i64 X.spare, .int .u32 X.cls, .int .u32 X.ser] 55))
            go_wp2_with fail
            go_roundw
            case rel => exact ⟨k + 1, X.cls, by omega, by go_num, rfl, hcl, HNX.out, HB2.out⟩
            case measure => simp [intOf]; omega
          · have e1 : (x == -1) = false := by simpa using h1
            by_cases he : h.lookE q x [1, 4] = 0
            · have HNX := Lib.hid (show h.followS (fw h q x.toNat) (path.drop (k + 1)) = h.followS o path by rw [← HFO.out, HDR.out, followS_get hi h1 he])
              have hfw := (show fw h q x.toNat < 4294967296 from f.w _)
              unfold HM.readV at HGT
              rw [he] at HGT
              clear hi h1 he
              generalize h.hd (q / 2) = X at *
              generalize fw h q x.toNat = y at *
              go_wp2_with fail
              refine HHD.out.mono ?_
              rintro e w2 ⟨rfl, hb2⟩
              have HB2 := Lib.hid ((below_top HB.out hb2).alloc (below_top HB.out hb2).size (.cells #[.int .i64 X.size, .int .i64 X.fmt, .int .i64 X.spare, .int .u32 X.cls, .int .u32 X.ser] 55))
              have HG := Lib.hid (HGT.out _ HB2.out)
              clear HGT
              go_wp2_with fail
              refine HG.out.mono ?_
              rintro e w3 ⟨rfl, hb3⟩
              have HB3 := Lib.hid (below_top HB2.out hb3)
              go_wp2_with fail
              go_roundw
              case rel => exact ⟨k + 1, y, by omega, by go_num, rfl, hfw, HNX.out, HB3.out⟩
              case measure => simp [intOf]; omega
            · have HNX := Lib.hid (show h.followS o path = (0, h.lookE q x [1, 4]) by rw [← HFO.out, HDR.out, followS_err hi h1 he])
              have hel := HM.lookE_lt h q x [1, 4]
              unfold HM.readV at HGT
              have e2 : ((h.lookE q x [1, 4] : Int) != 0) = true := by simp; omega
              rw [if_neg he] at HGT
              clear hi h1
              generalize h.hd (q / 2) = X at *
              generalize h.lookE q x [1, 4] = E at *
              go_wp2_with fail
              refine HHD.out.mono ?_
              rintro e w2 ⟨rfl, hb2⟩
              have HB2 := Lib.hid ((below_top HB.out hb2).alloc (below_top HB.out hb2).size (.cells #[.int .i64 X.size, .int .i64 X.fmt, .int .i64 X.spare, .int .u32 X.cls, .int .u32 X.ser] 55))
              have HG := Lib.hid (HGT.out _ HB2.out)
              clear HGT
              go_wp2_with fail
              refine HG.out.mono ?_
              rintro e w3 ⟨rfl, hb3⟩
              have HB3 := Lib.hid (below_top HB2.out hb3)
              go_wp2_with fail
              go_ret2
              exact ⟨by rw [HF.out, HNX.out]; rfl, HB3.out⟩
      · obtain rfl : k = n := by omega
        have HEN := Lib.hid (show h.followS o path = (q, 0) by
          rw [← hfo, List.drop_eq_nil_of_le (by rw [HL.out]; exact Nat.le_refl _)]; rfl)
        clear hfo hb
        go_wp2_with fail
        go_ret2
        exact ⟨by rw [HF.out, HEN.out]; rfl, HB.out⟩
end Go.Proofs.YtpajpdjjpgbklaaDoor
