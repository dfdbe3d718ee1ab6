/- Bytes of the program's heap. -/
/- Numbers and words as bytes: the program's and the document's. -/
/- append onto a row of bytes of the call's own, as one step. -/
import Derived.Test.YtfpleoblehfhbaaGreatDoorJAlloc
import Derived.Test.YtfpleoblehfhbaaGreatDoorJLook
import Derived.Test.YtfpleoblehfhbaaGreatDoorJOop
import Derived.Test.YtfpleoblehfhbaaGreatDoorJMem
import Derived.Test.YtfpleoblehfhbaaGreatDoorJClone
set_option linter.unusedVariables false
set_option linter.unusedSimpArgs false
set_option linter.unusedSectionVars false
namespace Go.Proofs.YtfpleoblehfhbaaGreatDoor
open Go.RowKit

def HM.fields (h : HM) (o : Nat) : List Nat := (h.words.drop (o / 2 + 3)).take (h.hd (o / 2)).size
def HM.bytesE (h : HM) (o : Nat) : Nat := if h.isB o = false then 3 else if (h.hd (o / 2)).fmt = 2 then spareE (h.fields o) (h.hd (o / 2)).spare else 21
/-- What Bytes answers. -/
def BytesP (h : HM) (o : Nat) (w : World) (d : Ending) (w' : World) : Prop :=
  Below w.heap.size w w' ∧ if h.bytesE o = 0 then ∃ g c, d = .returned (.tuple #[.slice (some ⟨g, 0, none⟩) (h.hd (o / 2)).len (h.hd (o / 2)).len, .int .i64 0]) ∧ Row w' g 5 c (u8c (bytesM (h.fields o))) ∧ w.heap.size ≤ g
    else d = .returned (.tuple #[.slice none 0 0, .int .i64 (h.bytesE o)])

theorem HM.fields_len {h : HM} {o : Nat} (hd : h.hdAt (o / 2)) : (h.fields o).length = (h.hd (o / 2)).size := by
  have := hd.1
  simp [HM.fields]; omega

theorem below_drew {w w' : World} {B : Nat} (hb : Below B w w') : Below B w w'.drew := ⟨hb.os, hb.tape, hb.output, hb.size, hb.block⟩

/-- The two ways out of UnpackBytes in one. -/
def UnpV (ys : List Nat) (s B : Nat) (v : Value) (E : Nat) (w' : World) : Prop :=
  (spareE ys s = 0 ∧ E = 0 ∧ ∃ g c, v = .slice (some ⟨g, 0, none⟩) (4 * ys.length - s) (4 * ys.length - s) ∧ Row w' g 5 c (u8c (bytesM ys)) ∧ B ≤ g) ∨ (spareE ys s = 10 ∧ E = 10 ∧ v = .slice none 0 0)
theorem UnpB.any {ys : List Nat} {s : Nat} {w w' : World} {d : Ending} (h : UnpB ys s w d w') :
    Below w.heap.size w w' ∧ ∃ v E, d = .returned (.tuple #[v, .int .i64 ((E : Nat) : Int)]) ∧ UnpV ys s w.heap.size v E w' := by
  obtain ⟨h1, h2⟩ := h
  refine ⟨h1, ?_⟩
  by_cases he : spareE ys s = 0
  · rw [if_pos he] at h2
    obtain ⟨g, c, rfl, hr, hg⟩ := h2
    exact ⟨_, 0, rfl, .inl ⟨he, rfl, g, c, rfl, hr, hg⟩⟩
  · rw [if_neg he] at h2
    have he2 : spareE ys s = 10 := by unfold spareE at *; split <;> simp_all
    exact ⟨_, 10, h2, .inr ⟨he2, rfl, rfl⟩⟩
theorem UnpV.mono {ys : List Nat} {s B B' E : Nat} {v : Value} {w' : World} (h : UnpV ys s B v E w') (hB : B' ≤ B) : UnpV ys s B' v E w' := by
  rcases h with ⟨h1, h2, g, c, h3, h4, h5⟩ | h
  · exact .inl ⟨h1, h2, g, c, h3, h4, Nat.le_trans hB h5⟩
  · exact .inr h

section
variable {w : World} {p : HP} {h : HM} (H : HAt w p h) (f : h.Fit) (hh : h.Heads) (hs : Spares w) (o : Nat) (ho : o < 4294967296)
include H f hh hs ho

set_option maxHeartbeats 4000000 in
theorem bytes_any : Calls Tryz.prog 87 #[ptr p.g, .int .u32 o] w (BytesP h o w) := by
  have HC := Lib.hid (Header_any H f hh hs o ho)
  cases hi : h.isB o
  · have HH := Lib.hid (show h.headerV o = .tuple #[.agg #[.int .i64 0, .int .i64 0, .int .i64 0, .int .u32 0, .int .u32 0], .int .i64 3] by simp [HM.headerV, hi])
    have HF := Lib.hid (show h.bytesE o = 3 by simp [HM.bytesE, hi])
    rw [HH.out] at HC
    clear HH hi
    unfold ptr at HC ⊢
    go_enter Tryz.func87, Tryz.ntmps87
    go_wp2_with fail
    refine HC.out.mono ?_
    rintro e w1 ⟨rfl, hb1⟩
    go_wp2_with fail
    go_ret2
    exact ⟨hb1.alloc hb1.size _, by rw [if_neg (by rw [HF.out]; decide), HF.out]; rfl⟩
  · have hd := HM.isB_hd hh hi
    have hk := HM.isB_obj hi
    have HH := Lib.hid (show h.headerV o = .tuple #[(h.hd (o / 2)).val, .int .i64 0] by simp [HM.headerV, hi])
    have HX := Lib.hid (show (h.hd (o / 2)).val = .agg #[.int .i64 (h.hd (o / 2)).size, .int .i64 (h.hd (o / 2)).fmt, .int .i64 (h.hd (o / 2)).spare, .int .u32 (h.hd (o / 2)).cls, .int .u32 (h.hd (o / 2)).ser] from rfl)
    have hfit := HM.hd_fit f (o / 2)
    rw [HH.out, HX.out] at HC
    clear HH HX
    by_cases h2 : (h.hd (o / 2)).fmt = 2
    · have hmay : (h.hd (o / 2)).may = true := by have := hd.2; unfold okhd at this; simp only [Bool.and_eq_true] at this; exact this.1
      have hle : (h.hd (o / 2)).size ≤ 65535 ∧ (h.hd (o / 2)).spare ≤ 3 ∧ (0 < (h.hd (o / 2)).spare → 0 < (h.hd (o / 2)).size) := by
        have := hfit
        unfold Hd.may at hmay
        simp only [Bool.and_eq_true, Bool.or_eq_true, decide_eq_true_eq] at hmay
        obtain ⟨_, _, h3, _, _⟩ := hfit
        omega
      have HE := Lib.hid (show h.bytesE o = spareE (h.fields o) (h.hd (o / 2)).spare by simp [HM.bytesE, hi, h2])
      have HLN := Lib.hid (show (h.hd (o / 2)).len = 4 * (h.hd (o / 2)).size - (h.hd (o / 2)).spare by unfold Hd.len; rw [if_pos h2])
      have HFL := Lib.hid (HM.fields_len hd)
      have hroom := hd.1
      have hmx := f.room
      have hmx2 := f.hi
      have HUB := Lib.hid (fun (w1 : World) (hb : Below w.heap.size w w1) (A : Option Addr) (c : Nat) (hA : 0 < (h.hd (o / 2)).size → A = some ⟨p.gw, o / 2 + 3, none⟩) => unpackBytes_any (w := w1) A (h.hd (o / 2)).size c w1.heap.size (h.hd (o / 2)).spare (h.fields o) hle.1
        ⟨by simp [u32s, HFL.out], fun h0 => ⟨_, hA h0, by have := (H.below hb).lt (.inr (.inl rfl)); exact this, fun j u hj => by
          obtain ⟨x, hx, rfl⟩ := u32s_at hj
          have hjl : j < (h.hd (o / 2)).size := by rw [← HFL.out]; exact (List.getElem?_eq_some_iff.1 hx).1
          have hw := (H.below hb).word (i := o / 2 + 3 + j) (by omega)
          rw [WideShapes.add_plain, hw]
          congr 2
          unfold HM.fields at hx
          rw [List.getElem?_take, if_pos hjl, List.getElem?_drop] at hx
          rw [List.getD_eq_getElem?_getD, hx]
          rfl⟩⟩ (Nat.le_refl _) (fun x hx => f.w32 x (List.mem_of_mem_drop (List.mem_of_mem_take hx))) hle.2.1 hle.2.2)
      have HA := Lib.hid (fun w => at_any p.g o ho hk w)
      have HC0 := Lib.hid (fun w' (hb : Below w.heap.size w w') => show w'.cell? ⟨p.g, 0, none⟩ = some (.slice (some ⟨p.gw, 0, none⟩) h.words.length p.cw) from (H.below hb).c0)
      obtain ⟨hcw, hcm⟩ : h.words.length ≤ p.cw ∧ p.cw ≤ 9223372036854775807 := by
        obtain ⟨_, _, h1, h2, _⟩ := H.2.1; rw [u32s_len] at h1; unfold maxLen at h2; exact ⟨h1, h2⟩
      have hs65 := hle.1
      clear hd hk hi hfit hmay hle
      have HOK := Lib.hid (fun v E w' (hb : Below w.heap.size w w') (hU : UnpV (h.fields o) (h.hd (o / 2)).spare w.heap.size v E w') =>
        show BytesP h o w (.returned (.tuple #[v, .int .i64 (E : Nat)])) w' from by
          rcases hU with ⟨he, rfl, g, c', rfl, hr, hg⟩ | ⟨he, rfl, rfl⟩
          · exact ⟨hb, by rw [if_pos (by rw [HE.out]; exact he)]; exact ⟨g, c', by rw [HLN.out, HFL.out]; rfl, hr, hg⟩⟩
          · exact ⟨hb, by rw [if_neg (by rw [HE.out, he]; decide), HE.out, he]⟩)
      clear HE HLN
      generalize hBP : BytesP h o w = BP at *
      clear hBP
      generalize h.hd (o / 2) = x at *
      generalize o / 2 = q at *
      generalize h.words.length = len at *
      obtain ⟨S, t, s, c, r⟩ := x
      dsimp only at *
      subst h2
      obtain ⟨Q, hQ⟩ : ∃ Q, q + 3 = Q := ⟨_, rfl⟩
      obtain ⟨R, hR⟩ : ∃ R, Q + S = R := ⟨_, rfl⟩
      have e1 : (q : Int) + 3 = (Q : Int) := by omega
      have e2 : (Q : Int) + (S : Int) = (R : Int) := by omega
      have e3 : R - Q = S := by omega
      have e4 : Q ≤ R := by omega
      have e4' : (Q : Int) ≤ (R : Int) := by omega
      have e5 : R ≤ p.cw := by omega
      have e5' : (R : Int) ≤ (p.cw : Int) := by omega
      have e6 : IntKind.i64.wrap (R : Int) = (R : Int) := IntWalk.i64_in _ (by omega)
      have e7 : IntKind.i64.wrap (Q : Int) = (Q : Int) := IntWalk.i64_in _ (by omega)
      rw [hQ] at HUB
      have HQ := Lib.hid hQ
      clear hQ hR hroom
      unfold ptr at HC HA ⊢
      by_cases hcap : p.cw = Q
      · have hS0 : S = 0 := by omega
        subst hS0
        obtain rfl : R = Q := by omega
        clear e3 e4 e4' e5 e5' e6
        have e8 : R - R = 0 := by omega
        go_enter Tryz.func87, Tryz.ntmps87
        go_wp2_with fail
        refine HC.out.mono ?_
        rintro e w1 ⟨rfl, hb1⟩
        have hb := hb1.alloc hb1.size (.cells #[.int .i64 0, .int .i64 2, .int .i64 s, .int .u32 c, .int .u32 r] 117)
        have c0 := HC0.out _ hb
        go_wp2_with fail
        refine (HA.out _).mono ?_
        rintro e w2 ⟨rfl, rfl⟩
        go_wp2_with fail
        go_region_with (refine (HUB.out _ (below_drew hb) (some ⟨p.gw, 0, none⟩) 0 (fun hh => absurd hh (by decide))).mono ?_; rintro e w2 hU; obtain ⟨hb2, v, E, rfl, hU2⟩ := UnpB.any hU)
        all_goals go_wp2_with fail
        all_goals go_ret2
        all_goals exact HOK.out _ _ _ (below_top (below_drew hb) hb2) (hU2.mono hb.size)
      · skip
        go_enter Tryz.func87, Tryz.ntmps87
        go_wp2_with fail
        refine HC.out.mono ?_
        rintro e w1 ⟨rfl, hb1⟩
        have hb := hb1.alloc hb1.size (.cells #[.int .i64 S, .int .i64 2, .int .i64 s, .int .u32 c, .int .u32 r] 117)
        have c0 := HC0.out _ hb
        go_wp2_with fail
        refine (HA.out _).mono ?_
        rintro e w2 ⟨rfl, rfl⟩
        go_wp2_with fail
        go_region_with (refine (HUB.out _ (below_drew hb) (some ⟨p.gw, Q, none⟩) (p.cw - Q) (fun _ => rfl)).mono ?_; rintro e w2 hU; obtain ⟨hb2, v, E, rfl, hU2⟩ := UnpB.any hU)
        all_goals go_wp2_with fail
        all_goals go_ret2
        all_goals exact HOK.out _ _ _ (below_top (below_drew hb) hb2) (hU2.mono hb.size)
    · have HE := Lib.hid (show h.bytesE o = 21 by simp [HM.bytesE, hi, h2])
      have hne : (((h.hd (o / 2)).fmt : Int) != 2) = true := by simp; omega
      clear h2 hi hk hd hfit
      have HBAD := Lib.hid (fun w' (hb : Below w.heap.size w w') =>
        show BytesP h o w (.returned (.tuple #[.slice none 0 0, .int .i64 21])) w' from ⟨hb, by rw [if_neg (by rw [HE.out]; decide), HE.out]; rfl⟩)
      generalize hBP : BytesP h o w = BP at *
      clear hBP
      generalize h.hd (o / 2) = x at *
      obtain ⟨S, t, s, c, r⟩ := x
      dsimp only at *
      unfold ptr at HC ⊢
      go_enter Tryz.func87, Tryz.ntmps87
      go_wp2_with fail
      refine HC.out.mono ?_
      rintro e w1 ⟨rfl, hb1⟩
      have hb := hb1.alloc hb1.size (.cells #[.int .i64 S, .int .i64 t, .int .i64 s, .int .u32 c, .int .u32 r] 117)
      go_wp2_with fail
      exact HBAD.out _ hb
end
end Go.Proofs.YtfpleoblehfhbaaGreatDoor

namespace Go.Proofs.YtfpleoblehfhbaaGreatDoor
open Go.RowKit
attribute [local go_sem] Oper.semAt_some

theorem cnt7I_len : ∀ (k x : Nat), x < 128 ^ (k + 1) → (cnt7 x).length ≤ k + 1
  | 0, x, h => by rw [cnt7_small (by simpa using h)]; simp
  | k + 1, x, h => by
    by_cases hx : x < 128
    · rw [cnt7_small hx]; simp
    · rw [cnt7_big hx]
      have := cnt7I_len k (x / 128) (by rw [Nat.div_lt_iff_lt_mul (by omega)]; rw [Nat.pow_succ] at h; exact h)
      simp; omega
theorem cnt7I_len5 {x : Nat} (h : x < 4294967296) : (cnt7 x).length ≤ 5 := cnt7I_len 4 x (by rw [show (128 : Nat) ^ (4 + 1) = 34359738368 by decide]; omega)
set_option maxRecDepth 100000 in
theorem or128I (m : Nat) : bits .or .u8 ((m : Int) % 256) 128 = ((m % 128 + 128 : Nat) : Int) := by
  have h : ∀ a : Fin 256, (a.val ||| 128) = a.val % 128 + 128 := by decide
  have h1 := u8_or_nat (m % 256) 128 (by omega) (by omega)
  rw [h ⟨m % 256, by omega⟩] at h1
  simp only at h1
  rw [show ((m : Int) % 256) = ((m % 256 : Nat) : Int) by omega, show (128 : Int) = ((128 : Nat) : Int) from rfl, h1]
  congr 1
  omega
/-- A number's bytes in a row of the call's own. -/
def BytesN (bs : List Nat) (w : World) (e : Ending) (w' : World) : Prop :=
  ∃ v', e = .returned v' ∧ w'.ownsRow w.heap.size 5 1 v' bs.length (u8c bs) ∧ Below w.heap.size w w'
/-- Bytes behind a row. -/
def BytesB (B : Nat) (v : Value) (bs cs : List Nat) (w : World) (e : Ending) (w' : World) : Prop :=
  ∃ v', e = .returned v' ∧ w'.ownsRow B 5 1 v' (bs ++ cs).length (u8c (bs ++ cs)) ∧ w.heap.size ≤ w'.heap.size ∧ w'.os = w.os ∧ w'.tape = w.tape ∧ w'.output = w.output ∧ (∀ k, k < w.heap.size → v.ownBlock ≠ some k → w'.heap[k]? = w.heap[k]?) ∧ ∀ k, v'.ownBlock = some k → v.ownBlock = some k ∨ w.heap.size ≤ k
set_option maxRecDepth 100000 in
set_option maxHeartbeats 4000000 in
theorem inumber_any (x : Nat) (hx : x < 4294967296) (w : World) : Calls Tryz.prog 53 #[.int .u32 x] w (BytesN (cnt7 x) w) := by
  have hc5 := cnt7I_len5 hx
  obtain ⟨i0, hi0, hz0, hz1, hz2⟩ := info_parts info_u8
  have HO := Lib.hid (show w.ownsRow w.heap.size 5 1 (.slice none 0 0) ([] : List Nat).length (u8c []) from ⟨rfl, .inl ⟨rfl, rfl⟩⟩)
  go_enter Tryz.func53, Tryz.ntmps53
  go_wp2_with fail
  go_loopw [0, 3] (fun y b wr => ∃ m bs', y = .int .u32 (m : Nat) ∧ m < 4294967296 ∧ bs' ++ cnt7 m = cnt7 x ∧ wr.ownsRow w.heap.size 5 1 b (bs' : List Nat).length (u8c bs') ∧ Below w.heap.size w wr) (fun y _ _ => (intOf y).toNat)
  case atStart => exact ⟨x, [], rfl, hx, rfl, HO.out, Below.refl _ _⟩
  case round =>
    clear HO
    obtain ⟨m, bs', rfl, hm, hcat, hown, hgr⟩ := hrel
    have HOW := Lib.hid hown
    have HGR := Lib.hid hgr
    have HCAT := Lib.hid hcat
    clear hown hgr hcat
    have hBw : w.heap.size ≤ wr.heap.size := HGR.out.size
    by_cases h128 : m < 128
    · have hbl : bs'.length ≤ 10 := by have := congrArg List.length HCAT.out; simp at this; omega
      have hd : decide (128 ≤ (m : Int)) = false := by simp; omega
      have hm8 : ((m : Int) % 256) = (m : Int) := by omega
      have HC1 := Lib.hid (show cnt7 x = bs' ++ [m] by rw [← HCAT.out, cnt7_small h128])
      clear h128 hm
      go_wp2_with (at_builtin; refine wpList_append_any _ rfl (.tmp 14) (.tmp 17) _ rfl w.heap.size 5 i0 _ 1 1 Tryz.underlying22 hi0 hz0 hz1 hz2 rfl (by omega) u3 bs'.length _ rfl (HOW.out.alloc _) (wr.heap.size + 1) (some ⟨wr.heap.size, 0, none⟩) 1 1 (u8c [m]) rfl ⟨rfl, fun _ => ⟨_, rfl, by simp, cell_one_new _ _ _⟩⟩ (one_u8c _) (by simp only [maxLen]; omega) (by omega) (by simp; omega) ?_; intro v1 w5 hown5 hgrow hat5)
      go_ret
      refine ⟨_, rfl, ?_, below_grown (Nat.le_refl _) (HGR.out.alloc HGR.out.size _) hgrow (fun q hq => (HOW.out.lt q hq).1)⟩
      rw [HC1.out]
      unfold u8c at hown5 ⊢
      rw [List.map_append, List.length_append]
      exact hown5
    · have hbl : bs'.length + 1 ≤ 10 := by have := congrArg List.length HCAT.out; rw [cnt7_big h128] at this; simp at this; omega
      have hd : decide (128 ≤ (m : Int)) = true := by simp; omega
      have hor := or128I m
      have HC1 := Lib.hid (show (bs' ++ [m % 128 + 128]) ++ cnt7 (m / 128) = cnt7 x by rw [← HCAT.out, cnt7_big h128]; simp)
      have HD := Lib.hid (show m / 128 < 4294967296 ∧ m / 128 < m by omega)
      clear h128 hm
      go_wp2_with (at_builtin; refine wpList_append_any _ rfl (.tmp 6) (.tmp 10) _ rfl w.heap.size 5 i0 _ 1 1 Tryz.underlying22 hi0 hz0 hz1 hz2 rfl (by omega) u3 bs'.length _ rfl (HOW.out.alloc _) (wr.heap.size + 1) (some ⟨wr.heap.size, 0, none⟩) 1 1 (u8c [m % 128 + 128]) rfl ⟨rfl, fun _ => ⟨_, rfl, by simp, cell_one_new _ _ _⟩⟩ (one_u8c _) (by simp only [maxLen]; omega) (by omega) (by simp; omega) ?_; intro v1 w5 hown5 hgrow hat5)
      go_roundw
      case rel =>
        refine ⟨m / 128, bs' ++ [m % 128 + 128], by go_num, HD.out.1, HC1.out, ?_, below_grown (Nat.le_refl _) (HGR.out.alloc HGR.out.size _) hgrow (fun q hq => (HOW.out.lt q hq).1)⟩
        unfold u8c at hown5 ⊢
        rw [List.map_append, List.length_append]
        exact hown5
      case measure => have := HD.out.2; simp [intOf]; omega
def four4 (x : Nat) : List Nat := [x % 256, x / 256 % 256, x / 65536 % 256, x / 16777216 % 256]
set_option maxRecDepth 100000 in
set_option maxHeartbeats 4000000 in
theorem ifour_any (x : Nat) (hx : x < 4294967296) (w : World) : Calls Tryz.prog 54 #[.int .u32 x] w (BytesN (four4 x) w) := by
  have e0 : IntKind.u8.wrap (x : Int) = ((x % 256 : Nat) : Int) := by show (x : Int) % 256 = _; omega
  have e1 : IntKind.u8.wrap ((x : Int) / 256) = ((x / 256 % 256 : Nat) : Int) := by show ((x : Int) / 256) % 256 = _; omega
  have e2 : IntKind.u8.wrap ((x : Int) / 65536) = ((x / 65536 % 256 : Nat) : Int) := by show ((x : Int) / 65536) % 256 = _; omega
  have e3 : IntKind.u8.wrap ((x : Int) / 16777216) = ((x / 16777216 % 256 : Nat) : Int) := by show ((x : Int) / 16777216) % 256 = _; omega
  go_enter Tryz.func54, Tryz.ntmps54
  go_wp2_with fail
  go_ret
  exact ⟨_, rfl, ⟨rfl, .inr ⟨w.heap.size, 4, _, rfl, Nat.le_refl _, heap_alloc_new w _, Nat.le_refl _, by simp [maxLen], rfl, rfl⟩⟩, (Below.refl _ _).alloc (Nat.le_refl _) _⟩
theorem own_sliceI {w : World} {base : Nat} {e : TypeId} {v : Value} {n : Nat} {xs : List Value} (h : w.ownsRow base e 1 v n xs) : ∃ A c, v = .slice A n c ∧ Reads w w.heap.size 1 A n xs := by
  rcases Nat.eq_zero_or_pos n with h0 | h0
  · have hx : xs = [] := List.eq_nil_of_length_eq_zero (by have := h.1; omega)
    subst hx
    subst h0
    rcases h.2 with ⟨h1, _⟩ | ⟨g, cap, cur, rfl, _⟩
    · exact ⟨none, 0, h1, rfl, fun hh => by omega⟩
    · exact ⟨some ⟨g, 0, none⟩, cap, rfl, rfl, fun hh => by omega⟩
  · obtain ⟨g, c, rfl, hr, hx, hb⟩ := Row.of_any h h0
    refine ⟨some ⟨g, 0, none⟩, c, rfl, ?_⟩
    rw [← hx]
    exact hr.reads (h.lt g rfl).2
theorem own_sameI {w w' : World} {base s n : Nat} {e : TypeId} {v : Value} {xs : List Value} (h : w.ownsRow base e s v n xs) (hs : ∀ k, v.ownBlock = some k → w'.heap[k]? = w.heap[k]?) : w'.ownsRow base e s v n xs := by
  refine ⟨h.1, ?_⟩
  rcases h.2 with h1 | ⟨g, cap, cur, h1, h2, h3, h4⟩
  · exact .inl h1
  · exact .inr ⟨g, cap, cur, h1, h2, (hs g (by rw [h1]; rfl)).trans h3, h4⟩
/-- The bytes so far: a row of the call's own, of blocks from B on. -/
structure RB (w2 wr : World) (B : Nat) (v : Value) (bs : List Nat) : Prop where
  own : wr.ownsRow B 5 1 v bs.length (u8c bs)
  base : Below w2.heap.size w2 wr
  hB : w2.heap.size ≤ B
  top : B ≤ wr.heap.size
theorem RB.below {w2 w w' : World} {B : Nat} {v : Value} {bs : List Nat} (C : RB w2 w B v bs) (hb : Below w.heap.size w w') : RB w2 w' B v bs :=
  ⟨own_sameI C.own (fun k hk => hb.block k (C.own.lt k hk).2), below_top C.base hb, C.hB, Nat.le_trans C.top hb.size⟩
theorem u8c_appI (a b : List Nat) : u8c (a ++ b) = u8c a ++ u8c b := by simp [u8c]
theorem RB.app {w2 w w' : World} {B m : Nat} {v v' : Value} {bs cs : List Nat} (C : RB w2 w B v bs) (hm : cs.length = m) (ho : w'.ownsRow B 5 1 v' (bs.length + m) (u8c bs ++ u8c cs)) (hg : w.grownBy w' v.ownBlock) : RB w2 w' B v' (bs ++ cs) :=
  ⟨by rw [List.length_append, u8c_appI, hm]; exact ho, C.base.grown hg (Nat.le_trans C.hB C.top) (fun k hk => Nat.le_trans C.hB (C.own.lt k hk).1), C.hB, Nat.le_trans C.top hg.size⟩
theorem RB.bytes {w2 w w' : World} {B : Nat} {v : Value} {bs cs : List Nat} {e : Ending} (C : RB w2 w B v bs) (h : BytesB B v bs cs w e w') : ∃ v', e = .returned v' ∧ RB w2 w' B v' (bs ++ cs) := by
  obtain ⟨v', rfl, h1, h2, h3, h4, h5, h6, -⟩ := h
  exact ⟨v', rfl, h1, ⟨h3.trans C.base.os, h4.trans C.base.tape, h5.trans C.base.output, Nat.le_trans C.base.size h2, fun k hk => (h6 k (Nat.lt_of_lt_of_le hk C.base.size) (fun e => by have := (C.own.lt k e).1; have := C.hB; omega)).trans (C.base.block k hk)⟩, C.hB, Nat.le_trans C.top h2⟩
set_option maxRecDepth 100000 in
set_option maxHeartbeats 4000000 in
/-- The document's word behind a row. -/
theorem rfour_any {w : World} {B : Nat} {v : Value} {bs : List Nat} (hown : w.ownsRow B 5 1 v bs.length (u8c bs)) (hB : B ≤ w.heap.size) (hn : bs.length ≤ 100000000000000) (x : Nat) (hx : x < 4294967296) :
    Calls Tryz.prog 46 #[v, .int .u32 x] w (BytesB B v bs (four4 x) w) := by
  have e0 : IntKind.u8.wrap (x : Int) = ((x % 256 : Nat) : Int) := by show (x : Int) % 256 = _; omega
  have e1 : IntKind.u8.wrap ((x : Int) / 256) = ((x / 256 % 256 : Nat) : Int) := by show ((x : Int) / 256) % 256 = _; omega
  have e2 : IntKind.u8.wrap ((x : Int) / 65536) = ((x / 65536 % 256 : Nat) : Int) := by show ((x : Int) / 65536) % 256 = _; omega
  have e3 : IntKind.u8.wrap ((x : Int) / 16777216) = ((x / 16777216 % 256 : Nat) : Int) := by show ((x : Int) / 16777216) % 256 = _; omega
  obtain ⟨i0, hi0, hz0, hz1, hz2⟩ := info_parts info_u8
  have HO := Lib.hid hown
  clear hown
  go_enter Tryz.func46, Tryz.ntmps46
  go_wp2_with (at_builtin; refine wpList_append_any _ rfl (.tmp 5) (.tmp 17) _ rfl B 5 i0 _ 1 1 Tryz.underlying22 hi0 hz0 hz1 hz2 rfl (by omega) v bs.length (u8c bs) rfl (HO.out.alloc _) (w.heap.size + 1) (some ⟨w.heap.size, 0, none⟩) 4 4 (u8c (four4 x)) rfl ⟨rfl, fun _ => ⟨_, rfl, by simp, fun j u hu => (by rw [WideShapes.add_plain, Nat.zero_add]; refine ((Blk.new w _ _).cell j).trans ?_; rw [← hu]; simp [u8c, four4])⟩⟩ (one_u8c _) (by simp only [maxLen]; omega) (by omega) (by simp; omega) ?_; intro v1 w5 hown5 hgrow hat5)
  go_ret
  refine ⟨v1, rfl, ?_, Nat.le_trans (by simp) hgrow.size, hgrow.os, hgrow.tape, hgrow.output, fun k hk hne => (hgrow.block k (by simp; omega) (fun e => hne e.symm)).trans (Below.heap_alloc w _ k hk), fun k hk => ?_⟩
  · rw [List.length_append, u8c_appI]; exact hown5
  · rcases hat5 with e | e
    · exact .inl (e ▸ hk)
    · rw [e] at hk; injection hk with hk; simp at hk; exact .inr (by omega)
end Go.Proofs.YtfpleoblehfhbaaGreatDoor

namespace Go.Proofs.YtfpleoblehfhbaaGreatDoor
open Go.RowKit
attribute [local go_sem] Oper.semAt_some
theorem RB.new {w2 w w' : World} {v : Value} {bs : List Nat} (ho : w'.ownsRow w.heap.size 5 1 v bs.length (u8c bs)) (hb : Below w.heap.size w w') (h0 : Below w2.heap.size w2 w) : RB w2 w' w.heap.size v bs :=
  ⟨ho, below_top h0 hb, h0.size, hb.size⟩
theorem RB.reads {w2 w : World} {B : Nat} {v : Value} {bs : List Nat} (C : RB w2 w B v bs) : ∃ A c, v = .slice A bs.length c ∧ Reads w w.heap.size 1 A bs.length (u8c bs) := own_sliceI C.own
theorem RB.alloc {w2 w : World} {B : Nat} {v : Value} {bs : List Nat} (C : RB w2 w B v bs) (o : Obj) : RB w2 (w.alloc o) B v bs := C.below ((Below.refl _ _).alloc (Nat.le_refl _) o)
theorem RB.nil {w2 w : World} {B : Nat} (hb : Below w2.heap.size w2 w) (hB : w2.heap.size ≤ B) (ht : B ≤ w.heap.size) : RB w2 w B (.slice none 0 0) [] :=
  ⟨⟨rfl, .inl ⟨rfl, rfl⟩⟩, hb, hB, ht⟩
theorem u8c_len (bs : List Nat) : (u8c bs).length = bs.length := by simp [u8c]
/-- A slice written out of given bytes. -/
theorem reads_new (w : World) (bs : List Nat) (n : Nat) (hn : bs.length = n) : Reads (w.alloc (.cells (u8c bs).toArray 5)) (w.heap.size + 1) 1 (some ⟨w.heap.size, 0, none⟩) n (u8c bs) := by
  subst hn
  refine ⟨by rw [u8c_len, Nat.mul_one], fun _ => ⟨_, rfl, by simp, fun j u hu => ?_⟩⟩
  rw [WideShapes.add_plain, Nat.zero_add]
  refine ((Blk.new w _ _).cell j).trans ?_
  rw [← hu]
  simp
theorem own_new8 (w : World) (bs : List Nat) (n : Nat) (hn : bs.length = n) (hm : n ≤ maxLen) : (w.alloc (.cells (u8c bs).toArray 5)).ownsRow w.heap.size 5 1 (.slice (some ⟨w.heap.size, 0, none⟩) n n) n (u8c bs) := by
  subst hn
  exact ⟨by simp [u8c], .inr ⟨w.heap.size, bs.length, _, rfl, Nat.le_refl _, heap_alloc_new w _, Nat.le_refl _, hm, by simp [u8c], by rw [List.take_of_length_le (by simp [u8c])]⟩⟩

/-- A row of other entries is no row of bytes. -/
theorem RB.other {w2 w w' : World} {B g c : Nat} {v : Value} {bs : List Nat} {e : TypeId} {xs : List Value} (C : RB w2 w B v bs) (hr : Row w g e c xs) (hne : e ≠ 5) (hg : w.grownBy w' v.ownBlock) : Row w' g e c xs := by
  refine hr.same (hg.block g hr.lt fun hk => ?_)
  have hk' : v.ownBlock = some g := by first | exact hk | exact hk.symm
  rcases C.own.2 with ⟨h1, _⟩ | ⟨g', cap, cur, h1, h2, h3, h4⟩
  · rw [h1] at hk'; cases hk'
  · rw [h1] at hk'
    have e1 : g' = g := by injection hk'
    obtain ⟨cur', hb, _⟩ := hr
    rw [e1] at h3
    unfold Blk at hb
    rw [h3] at hb
    injection hb with hb
    injection hb with _ hb
    exact hne (by first | exact hb.symm | exact hb)
theorem wpList_app_RB {ops : Array Oper} {rest : List Oper} {o : Oper} {a : Act} {Q : Exit → Act → World → Prop} {w w2 : World} {B m c : Nat} {v : Value} {bs cs : List Nat} {A : Option Addr} (s x : Operand)
    (C : RB w2 w B v bs) (hr : Reads w w.heap.size 1 A m (u8c cs)) (hs : a.eval s = v) (hx : a.eval x = .slice A m c) (hn : bs.length + m ≤ 100000000000000)
    (ho : o.op = .call { callee := .builtin .append, args := #[s, x], argTypes := #[22, 22] }) (hgd : o.guard = none)
    (h : ∀ v' w', RB w2 w' B v' (bs ++ cs) → w.grownBy w' v.ownBlock → wpList Tryz.prog ops Q rest (a.put o.dst v') w') : wpList Tryz.prog ops Q (o :: rest) a w := by
  obtain ⟨i0, hi0, hz0, hz1, hz2⟩ := info_parts info_u8
  refine wpList_append_any _ hgd s x _ ho B 5 i0 _ 1 1 Tryz.underlying22 hi0 hz0 hz1 hz2 rfl (by omega) v bs.length (u8c bs) hs C.own w.heap.size A m c (u8c cs) hx hr (one_u8c _) (by simp only [maxLen]; omega) (by omega) C.top ?_
  intro v4 w4 hown4 hgrow4 hat4
  exact h _ _ (C.app (by have := hr.1; rw [u8c_len, Nat.mul_one] at this; exact this) hown4 hgrow4) hgrow4
/-- The same, in a region that draws its order. -/
theorem step_app_RB {ops : Array Oper} {o : Oper} {a : Act} {K : Act → World → Prop} {Q : Exit → Act → World → Prop} {E : Prop} {w w2 : World} {B m c : Nat} {v : Value} {bs cs : List Nat} {A : Option Addr} (s x : Operand)
    (C : RB w2 w B v bs) (hr : Reads w w.heap.size 1 A m (u8c cs)) (hs : a.eval s = v) (hx : a.eval x = .slice A m c) (hn : bs.length + m ≤ 100000000000000)
    (ho : o.op = .call { callee := .builtin .append, args := #[s, x], argTypes := #[22, 22] }) (hgd : o.guard = none)
    (h : ∀ v' w', RB w2 w' B v' (bs ++ cs) → w.grownBy w' v.ownBlock → K (a.put o.dst v') w') :
    if Region.wanted o (yielded ops a.tmps) = true then Oper.wp Tryz.prog o a w K Q else E := by
  obtain ⟨i0, hi0, hz0, hz1, hz2⟩ := info_parts info_u8
  refine step_append_any _ hgd s x _ ho B 5 i0 _ 1 1 Tryz.underlying22 hi0 hz0 hz1 hz2 rfl (by omega) v bs.length (u8c bs) hs C.own w.heap.size A m c (u8c cs) hx hr (one_u8c _) (by simp only [maxLen]; omega) (by omega) C.top ?_
  intro v4 w4 hown4 hgrow4 hat4
  exact h _ _ (C.app (by have := hr.1; rw [u8c_len, Nat.mul_one] at this; exact this) hown4 hgrow4) hgrow4
/-- append onto a full row that need not be the call's own: a new row. -/
theorem wpList_app_full {ops : Array Oper} {rest : List Oper} {o : Oper} {a : Act} {Q : Exit → Act → World → Prop} {w w2 : World} {n m c : Nat} {b : Addr} {bs cs : List Nat} {A : Option Addr} (s x : Operand)
    (hb : Below w2.heap.size w2 w) (hr0 : Reads w w.heap.size 1 (some b) n (u8c bs)) (hr : Reads w w.heap.size 1 A m (u8c cs)) (hs : a.eval s = .slice (some b) n n) (hx : a.eval x = .slice A m c) (hm : 0 < m) (hn : n + m ≤ 100000000000000)
    (ho : o.op = .call { callee := .builtin .append, args := #[s, x], argTypes := #[22, 22] }) (hgd : o.guard = none)
    (h : ∀ v' w', RB w2 w' w.heap.size v' (bs ++ cs) → wpList Tryz.prog ops Q rest (a.put o.dst v') w') : wpList Tryz.prog ops Q (o :: rest) a w := by
  obtain ⟨i0, hi0, hz0, hz1, hz2⟩ := info_parts info_u8
  obtain ⟨ad, rfl, hlt, hcells⟩ := hr.2 hm
  have hbs : bs.length = n := by have := hr0.1; rw [u8c_len, Nat.mul_one] at this; exact this
  have hcs : cs.length = m := by have := hr.1; rw [u8c_len, Nat.mul_one] at this; exact this
  have h0 : ∀ j u, (u8c bs)[j]? = some u → w.cell? (b.add j) = some u := by
    intro j u hu
    rcases Nat.eq_zero_or_pos n with hz | hp
    · have : bs = [] := List.eq_nil_of_length_eq_zero (by omega)
      rw [this] at hu; simp [u8c] at hu
    · obtain ⟨ad', hh, _, hc⟩ := hr0.2 hp
      have e1 := Option.some.inj hh
      subst e1
      exact hc j u hu
  have hrun := run_append_grow (P := Tryz.prog) w 22 o.type 5 i0 (.int .u8 0) Tryz.underlying22 hi0 hz0 b n n (u8c bs) (by rw [u8c_len, hbs, hz1, Nat.mul_one]) h0 ad m c (u8c cs) (by rw [u8c_len, hcs, hz1, Nat.mul_one]) hcells (by omega) (by omega) (growslice_fits (by omega) (by rw [hz2]; omega))
  refine wpList_plain hgd fun _ hK => ?_
  unfold Oper.wp execOp
  simp only [ho, resolve, invoke, builtin, Sem.run_bind, Sem.run_pure, Result.andThen_ok, List.map_toArray, List.map_cons, List.map_nil, hs, hx, hrun]
  refine hK _ _ (h _ _ ?_)
  have hge := grownCap_ge w (n + m) n 5
  have hcm : grownCap w (n + m) n 5 ≤ maxLen := grownCap_le_maxLen w (n + m) n 5 (by simp only [maxLen]; omega)
  refine ⟨⟨by simp [u8c], .inr ⟨w.heap.size, _, _, by rw [List.length_append, hbs, hcs], Nat.le_refl _, heap_alloc_new w.drew _, by rw [List.length_append, hbs, hcs]; exact hge, hcm, ?_, ?_⟩⟩, ?_, hb.size, by simp⟩
  · simp only [Array.size_append, List.size_toArray, size_zeroCells, u8c_len, hbs, hcs, show (Value.int .u8 0).cells.size = 1 from rfl]
    omega
  · simp only [Array.toList_append, List.append_assoc]
    rw [← List.append_assoc, Nat.mul_one, ← u8c_appI, ← u8c_len (bs ++ cs)]
    exact List.take_left
  · exact (show Below w2.heap.size w2 w.drew from ⟨hb.os, hb.tape, hb.output, hb.size, hb.block⟩).alloc hb.size _
theorem reads_new1 (w : World) (X : Obj) (bs : List Nat) (n : Nat) (hn : bs.length = n) : Reads ((w.alloc X).alloc (.cells (u8c bs).toArray 5)) ((w.alloc X).alloc (.cells (u8c bs).toArray 5)).heap.size 1 (some ⟨w.heap.size + 1, 0, none⟩) n (u8c bs) := by
  have h := (reads_new (w.alloc X) bs n hn).more (B' := ((w.alloc X).alloc (.cells (u8c bs).toArray 5)).heap.size) (by simp)
  simpa using h
/-- A constant string's bytes (their row bears the run-time's mark), a block behind them. -/
theorem reads_marked (w : World) (Y : Obj) (m : Nat × Nat) (bs : List Nat) (n : Nat) (hn : bs.length = n) : Reads ((w.alloc (.cells (u8c bs).toArray 5 m)).alloc Y) ((w.alloc (.cells (u8c bs).toArray 5 m)).alloc Y).heap.size 1 (some ⟨w.heap.size, 0, none⟩) n (u8c bs) := by
  subst hn
  refine ⟨by rw [u8c_len, Nat.mul_one], fun _ => ⟨_, rfl, by simp; omega, fun j u hu => ?_⟩⟩
  rw [WideShapes.add_plain, Nat.zero_add]
  rw [World.cell?_alloc_lt _ _ _ (by simp)]
  refine (cell_of_row _ w.heap.size j (u8c bs).toArray 5 m (heap_alloc_new w _)).trans ?_
  rw [← hu]
  simp
end Go.Proofs.YtfpleoblehfhbaaGreatDoor
