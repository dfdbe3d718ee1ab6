/- The document's heap: lengths, places. -/
/- The document's heap: elements read, elements written. -/
/- The document's heap: elements, classes, roots written. -/
/- The document's heap: lay. -/
/- The document's heap: Alloc. -/
/- A script in memory; what a call of a script keeps. -/
/- compare: kind, pointers, fits, Digest; the document's Digest, Signed, Count. -/
import Derived.Test.YtpajpdjjpgbklaaDoorJLive
import Derived.Test.YtpajpdjjpgbklaaDoorJZeros
import Derived.Test.YtpajpdjjpgbklaaDoorJAlloc
import Derived.Test.YtpajpdjjpgbklaaDoorJOop
import Derived.Test.YtpajpdjjpgbklaaDoorJLook
import Derived.Test.YtpajpdjjpgbklaaDoorJUnpB
import Derived.StillTailTactics
import Derived.Deep.RegionLaw
set_option linter.unusedVariables false
set_option linter.unusedSectionVars false
namespace Go.Proofs.YtpajpdjjpgbklaaDoor
open Go.RowKit

/-- What place answers, for elements of format F (fs: the formats that are looked at so). -/
def HM.placeV (h : HM) (o : Nat) (i : Int) (F : Nat) (fs : List Nat) : Value :=
  .tuple #[.int .i64 ((if h.lookE o i fs = 0 then o / 2 + 3 + (if F = 2 then i.toNat / 4 else i.toNat) else 0 : Nat) : Int), .int .i64 (h.lookE o i fs)]
theorem fld1 : ∀ (a b c d e : Value) (w : World), (Instr.field 55 (.agg #[a, b, c, d, e]) 1).run Tryd.prog w = .ok b w := fun a b c d e w => by kernel_rfl
theorem fld0 : ∀ (a b c d e : Value) (w : World), (Instr.field 55 (.agg #[a, b, c, d, e]) 0).run Tryd.prog w = .ok a w := fun a b c d e w => by kernel_rfl
theorem fld4 : ∀ (a b c d e : Value) (w : World), (Instr.field 55 (.agg #[a, b, c, d, e]) 4).run Tryd.prog w = .ok e w := fun a b c d e w => by kernel_rfl
theorem contains_cases {F t : Nat} {fs : List Nat} (hf : (F = 1 ∧ fs = [1, 4]) ∨ (F = 2 ∧ fs = [2]) ∨ (F = 3 ∧ fs = [3])) :
    (fs.contains t = true ∧ t = F) ∨ (fs.contains t = true ∧ t ≠ F ∧ t = 4 ∧ F = 1) ∨ (fs.contains t = false ∧ t ≠ F ∧ t ≠ 4) ∨ (fs.contains t = false ∧ t ≠ F ∧ t = 4 ∧ F ≠ 1) := by
  rcases hf with ⟨rfl, rfl⟩ | ⟨rfl, rfl⟩ | ⟨rfl, rfl⟩
  · by_cases h1 : t = 1
    · subst h1; exact .inl ⟨by decide, rfl⟩
    · by_cases h4 : t = 4
      · subst h4; exact .inr (.inl ⟨by decide, by decide, rfl, rfl⟩)
      · exact .inr (.inr (.inl ⟨by simp [h1, h4], h1, h4⟩))
  · by_cases h1 : t = 2
    · subst h1; exact .inl ⟨by decide, rfl⟩
    · by_cases h4 : t = 4
      · subst h4; exact .inr (.inr (.inr ⟨by decide, by decide, rfl, by decide⟩))
      · exact .inr (.inr (.inl ⟨by simp [h1], h1, h4⟩))
  · by_cases h1 : t = 3
    · subst h1; exact .inl ⟨by decide, rfl⟩
    · by_cases h4 : t = 4
      · subst h4; exact .inr (.inr (.inr ⟨by decide, by decide, rfl, by decide⟩))
      · exact .inr (.inr (.inl ⟨by simp [h1], h1, h4⟩))
theorem hd_parts {h : HM} (f : h.Fit) (i : Nat) (hi : h.hdAt i) : (h.hd i).len < 4294967296 ∧ ((h.hd i).fmt = 2 → (h.hd i).spare ≤ 4 * (h.hd i).size) ∧ (h.hd i).size < 16777216 ∧ (h.hd i).fmt < 8 ∧ (h.hd i).spare < 4 := by
  have hx := HM.hd_fit f i
  refine ⟨?_, hi.sane, hx.size, hx.fmt, hx.spare⟩
  have := hx.size
  unfold Hd.len
  split <;> omega

section
variable {w : World} {p : HP} {h : HM} (R : RAt w p h) (f : h.Fit) (o : Nat) (ho : o < 4294967296)
include R f ho
theorem rlen_any (hd : h.hdAt (o / 2)) : Calls Tryd.prog 87 #[ptr p.g, .int .u32 o] w (Told (.int .i64 (h.hd (o / 2)).len) w) := by
  have HH := Lib.hid (rheader_any R f o ho hd)
  obtain ⟨h1, h2, h3, h4, h5⟩ := hd_parts f _ hd
  have HX := Lib.hid (show (h.hd (o / 2)).val = .agg #[.int .i64 (h.hd (o / 2)).size, .int .i64 (h.hd (o / 2)).fmt, .int .i64 (h.hd (o / 2)).spare, .int .u32 (h.hd (o / 2)).cls, .int .u32 (h.hd (o / 2)).ser] from rfl)
  clear hd
  generalize h.hd (o / 2) = x at *
  unfold ptr at HH ⊢
  by_cases hf : x.fmt = 2
  · have HL := Lib.hid (show ((x.len : Nat) : Int) = 4 * (x.size : Int) - x.spare by have := h2 hf; unfold Hd.len; rw [if_pos hf]; omega)
    have hq : ((x.fmt : Int) == 2) = true := by simp; omega
    clear h2 hf h1
    go_enter Tryd.func87, Tryd.ntmps87
    go_wp2_with fail
    refine HH.out.mono ?_
    rintro e w1 ⟨rfl, hb1⟩
    rw [HX.out]
    go_wp2_with fail
    go_ret
    exact ⟨by rw [HL.out]; rfl, hb1.alloc hb1.size _⟩
  · have HL := Lib.hid (show x.len = x.size by unfold Hd.len; rw [if_neg hf])
    have hq : ((x.fmt : Int) == 2) = false := by simp; omega
    clear h2 hf h1
    go_enter Tryd.func87, Tryd.ntmps87
    go_wp2_with fail
    refine HH.out.mono ?_
    rintro e w1 ⟨rfl, hb1⟩
    rw [HX.out]
    go_wp2_with fail
    go_ret
    exact ⟨by rw [HL.out]; rfl, hb1.alloc hb1.size _⟩

set_option maxRecDepth 100000 in
set_option maxHeartbeats 2000000 in
theorem rplace_any (hh : h.Heads) (i : Int) (F : Nat) (fs : List Nat) (hF : (F = 1 ∧ fs = [1, 4]) ∨ (F = 2 ∧ fs = [2]) ∨ (F = 3 ∧ fs = [3])) (hi1 : i ≤ 9223372036854775807) :
    Calls Tryd.prog 84 #[ptr p.g, .int .u32 o, .int .i64 F, .int .i64 i] w (Told (h.placeV o i F fs) w) := by
  have HI := Lib.hid (ris_any R f o ho)
  have hfl := fld1
  cases hi : h.isB o
  · have HV := Lib.hid (show h.placeV o i F fs = .tuple #[.int .i64 0, .int .i64 3] by simp [HM.placeV, HM.lookE, hi])
    rw [hi] at HI
    clear hi hF
    unfold ptr at HI ⊢
    go_enter Tryd.func84, Tryd.ntmps84
    go_wp2_with fail
    refine HI.out.mono ?_
    rintro e w1 ⟨rfl, rfl⟩
    go_wp2_with fail
    go_ret2
    exact ⟨by rw [HV.out]; rfl, Below.refl _ _⟩
  · have hd := HM.isB_hd hh hi
    have HH := Lib.hid (rheader_any R f o ho hd)
    have HL := Lib.hid (fun w' (hb : Below w.heap.size w w') => rlen_any (R.below hb) f o ho hd)
    obtain ⟨g1, g2, g3, g4, g5⟩ := hd_parts f _ hd
    have HE := Lib.hid (show h.lookE o i fs = if fs.contains (h.hd (o / 2)).fmt = false then 21 else if i < 0 ∨ ((h.hd (o / 2)).len : Int) ≤ i then 1 else 0 by simp [HM.lookE, hi])
    have HV := Lib.hid (show h.placeV o i F fs = .tuple #[.int .i64 ((if h.lookE o i fs = 0 then o / 2 + 3 + (if F = 2 then i.toNat / 4 else i.toNat) else 0 : Nat) : Int), .int .i64 (h.lookE o i fs)] from rfl)
    rw [HE.out] at HV
    rw [hi] at HI
    have HX := Lib.hid (show (h.hd (o / 2)).val = .agg #[.int .i64 (h.hd (o / 2)).size, .int .i64 (h.hd (o / 2)).fmt, .int .i64 (h.hd (o / 2)).spare, .int .u32 (h.hd (o / 2)).cls, .int .u32 (h.hd (o / 2)).ser] from rfl)
    have hcc := contains_cases (t := (h.hd (o / 2)).fmt) hF
    have hF3 : F ≤ 3 := by omega
    clear hd hi HE g2 hF hh
    have hq : ((o : Int) / 2) = ((o / 2 : Nat) : Int) := by omega
    have hq2 : o / 2 < 2147483648 := by omega
    generalize h.hd (o / 2) = x at *
    generalize o / 2 = q at *
    unfold ptr at HI HH HL ⊢
    rw [HX.out] at HH
    have bad : ∀ (t4 : Prop), (fs.contains x.fmt = false ∧ x.fmt ≠ F ∧ t4) → Hid (h.placeV o i F fs = .tuple #[.int .i64 0, .int .i64 21]) := fun _ ⟨hc, _, _⟩ => Lib.hid (by rw [HV.out, hc]; simp)
    have good : fs.contains x.fmt = true → Hid (h.placeV o i F fs = .tuple #[.int .i64 ((if (if i < 0 ∨ (x.len : Int) ≤ i then 1 else 0) = 0 then q + 3 + (if F = 2 then i.toNat / 4 else i.toNat) else 0 : Nat) : Int), .int .i64 ((if i < 0 ∨ (x.len : Int) ≤ i then 1 else 0 : Nat) : Int)]) := fun hc => Lib.hid (by rw [HV.out, hc]; simp)
    have fin : fs.contains x.fmt = true → ((((x.fmt : Int) != F) = false) ∨ (((x.fmt : Int) != F) = true ∧ ((x.fmt : Int) != 4) = false ∧ ((F : Int) != 1) = false)) →
        Calls Tryd.prog 84 #[.pointer (some ⟨p.g, 0, none⟩), .int .u32 o, .int .i64 F, .int .i64 i] w (Told (h.placeV o i F fs) w) := by
      intro hc ht
      have HG := good hc
      clear good bad HV hcc hc
      by_cases hneg : i < 0
      · have HP := Lib.hid (show h.placeV o i F fs = .tuple #[.int .i64 0, .int .i64 1] by rw [HG.out, show (if i < 0 ∨ (x.len : Int) ≤ i then 1 else 0) = 1 from if_pos (Or.inl hneg)]; simp)
        clear HG
        have hd : decide (i < 0) = true := by simpa using hneg
        rcases ht with ht | ⟨ht, ht2, ht3⟩
        all_goals
          go_enter Tryd.func84, Tryd.ntmps84
          go_wp2_with fail
          refine HI.out.mono ?_
          rintro e w1 ⟨rfl, rfl⟩
          go_wp2_with fail
          refine HH.out.mono ?_
          rintro e w1 ⟨rfl, hb1⟩
          go_wp2_with fail
          go_ret2
          exact ⟨by rw [HP.out]; rfl, hb1⟩
      · have hd : decide (i < 0) = false := by simpa using hneg
        by_cases hge : (x.len : Int) ≤ i
        · have HP := Lib.hid (show h.placeV o i F fs = .tuple #[.int .i64 0, .int .i64 1] by rw [HG.out, show (if i < 0 ∨ (x.len : Int) ≤ i then 1 else 0) = 1 from if_pos (Or.inr hge)]; simp)
          clear HG
          have hd2 : decide ((x.len : Int) ≤ i) = true := by simpa using hge
          rcases ht with ht | ⟨ht, ht2, ht3⟩
          all_goals
            go_enter Tryd.func84, Tryd.ntmps84
            go_wp2_with fail
            refine HI.out.mono ?_
            rintro e w1 ⟨rfl, rfl⟩
            go_wp2_with fail
            refine HH.out.mono ?_
            rintro e w1 ⟨rfl, hb1⟩
            go_wp2_with fail
            refine (HL.out _ hb1).mono ?_
            rintro e w2 ⟨rfl, hb2⟩
            go_wp2_with fail
            go_ret2
            exact ⟨by rw [HP.out]; rfl, below_top hb1 hb2⟩
        · have hd2 : decide ((x.len : Int) ≤ i) = false := by simpa using hge
          obtain ⟨k, rfl⟩ := Int.eq_ofNat_of_zero_le (by omega : 0 ≤ i)
          have HP := Lib.hid (show h.placeV o k F fs = .tuple #[.int .i64 ((q + 3 + (if F = 2 then k / 4 else k) : Nat) : Int), .int .i64 0] by rw [HG.out, show (if (k : Int) < 0 ∨ (x.len : Int) ≤ (k : Int) then 1 else 0) = 0 from if_neg (by omega)]; simp)
          have hk : k < 4294967296 := by omega
          clear HG
          by_cases h2 : F = 2
          · have hp2 : ((F : Int) == 2) = true := by simp; omega
            rw [if_pos h2] at HP
            clear h2
            rcases ht with ht | ⟨ht, ht2, ht3⟩
            all_goals
              go_enter Tryd.func84, Tryd.ntmps84
              go_wp2_with fail
              refine HI.out.mono ?_
              rintro e w1 ⟨rfl, rfl⟩
              go_wp2_with fail
              refine HH.out.mono ?_
              rintro e w1 ⟨rfl, hb1⟩
              go_wp2_with fail
              refine (HL.out _ hb1).mono ?_
              rintro e w2 ⟨rfl, hb2⟩
              go_wp2_with fail
              go_ret2
              exact ⟨by rw [HP.out]; simp, below_top hb1 hb2⟩
          · have hp2 : ((F : Int) == 2) = false := by simp; omega
            rw [if_neg h2] at HP
            clear h2
            rcases ht with ht | ⟨ht, ht2, ht3⟩
            all_goals
              go_enter Tryd.func84, Tryd.ntmps84
              go_wp2_with fail
              refine HI.out.mono ?_
              rintro e w1 ⟨rfl, rfl⟩
              go_wp2_with fail
              refine HH.out.mono ?_
              rintro e w1 ⟨rfl, hb1⟩
              go_wp2_with fail
              refine (HL.out _ hb1).mono ?_
              rintro e w2 ⟨rfl, hb2⟩
              go_wp2_with fail
              go_ret2
              exact ⟨by rw [HP.out]; simp, below_top hb1 hb2⟩
    rcases hcc with ⟨hc, he⟩ | ⟨hc, h1, h4, hF1⟩ | ⟨hc, h1, h4⟩ | ⟨hc, h1, h4, hF1⟩
    · exact fin hc (.inl (by simp [he]))
    · exact fin hc (.inr ⟨by simp; omega, by simp; omega, by simp; omega⟩)
    · have HB := bad _ ⟨hc, h1, h4⟩
      have ht : ((x.fmt : Int) != F) = true := by simp; omega
      have ht2 : ((x.fmt : Int) != 4) = true := by simp; omega
      clear bad good fin HV hc h1 h4
      go_enter Tryd.func84, Tryd.ntmps84
      go_wp2_with fail
      refine HI.out.mono ?_
      rintro e w1 ⟨rfl, rfl⟩
      go_wp2_with fail
      refine HH.out.mono ?_
      rintro e w1 ⟨rfl, hb1⟩
      go_wp2_with fail
      go_ret2
      exact ⟨by rw [HB.out]; rfl, hb1⟩
    · have HB := bad _ ⟨hc, h1, trivial⟩
      have ht : ((x.fmt : Int) != F) = true := by simp; omega
      have ht2 : ((x.fmt : Int) != 4) = false := by simp; omega
      have ht3 : ((F : Int) != 1) = true := by simp; omega
      clear bad good fin HV hc h1 h4 hF1
      go_enter Tryd.func84, Tryd.ntmps84
      go_wp2_with fail
      refine HI.out.mono ?_
      rintro e w1 ⟨rfl, rfl⟩
      go_wp2_with fail
      refine HH.out.mono ?_
      rintro e w1 ⟨rfl, hb1⟩
      go_wp2_with fail
      go_ret2
      exact ⟨by rw [HB.out]; rfl, hb1⟩
end
end Go.Proofs.YtpajpdjjpgbklaaDoor

namespace Go.Proofs.YtpajpdjjpgbklaaDoor
open Go.RowKit

theorem look_at {h : HM} (hh : h.Heads) {o : Nat} {i : Int} {F : Nat} {fs : List Nat} (hF : (F = 1 ∧ fs = [1, 4]) ∨ (F = 2 ∧ fs = [2]) ∨ (F = 3 ∧ fs = [3])) (he : h.lookE o i fs = 0) :
    ∃ k : Nat, i = k ∧ o / 2 + 3 + (if F = 2 then k / 4 else k) < h.words.length := by
  obtain ⟨hi, hc, h0, hlt⟩ := HM.look_ok he
  have hd := (HM.isB_hd hh hi).1
  obtain ⟨k, rfl⟩ := Int.eq_ofNat_of_zero_le h0
  refine ⟨k, rfl, ?_⟩
  unfold Hd.len at hlt
  rcases hF with ⟨rfl, rfl⟩ | ⟨rfl, rfl⟩ | ⟨rfl, rfl⟩
  · rw [if_neg (fun e => by rw [e] at hc; simp at hc)] at hlt
    rw [if_neg (by omega)]; omega
  · rw [if_pos (by simpa using hc)] at hlt
    rw [if_pos rfl]; omega
  · rw [if_neg (fun e => by rw [e] at hc; simp at hc)] at hlt
    rw [if_neg (by omega)]; omega
theorem HM.placeV_no {h : HM} {o F : Nat} {i : Int} {fs : List Nat} (he : h.lookE o i fs ≠ 0) : h.placeV o i F fs = .tuple #[.int .i64 0, .int .i64 (h.lookE o i fs)] := by
  unfold HM.placeV; rw [if_neg he]; rfl
theorem HM.placeV_at {h : HM} {o F k : Nat} {fs : List Nat} (he : h.lookE o k fs = 0) : h.placeV o k F fs = .tuple #[.int .i64 ((o / 2 + 3 + (if F = 2 then k / 4 else k) : Nat) : Int), .int .i64 0] := by
  unfold HM.placeV; rw [if_pos he, he, Int.toNat_natCast]; rfl
def RDeeds (p : HP) (h' : HM) (E : Nat) (w : World) (e : Ending) (w' : World) : Prop := e = .returned (.int .i64 E) ∧ RAt w' p h' ∧ Step p p w w'

section
variable {w : World} {p : HP} {h : HM} (R : RAt w p h) (f : h.Fit) (hh : h.Heads) (o : Nat) (ho : o < 4294967296) (i : Int) (hi63 : i ≤ 9223372036854775807)
include R f hh ho hi63

set_option maxRecDepth 100000 in
theorem rget_any : Calls Tryd.prog 55 #[ptr p.g, .int .u32 o, .int .i64 i] w (Told (.tuple #[.int .u32 (h.readN o i [1, 4] : Nat), .int .i64 (h.lookE o i [1, 4] : Nat)]) w) := by
  have HP := Lib.hid (rplace_any R f o ho hh i 1 [1, 4] (by decide) hi63)
  have hle := h.lookE_lt o i [1, 4]
  by_cases he : h.lookE o i [1, 4] = 0
  · obtain ⟨k, rfl, hk⟩ := look_at hh (F := 1) (fs := [1, 4]) (by decide) he
    rw [HM.placeV_at he] at HP
    simp only [Nat.reduceEqDiff, if_false] at HP hk
    have HN := Lib.hid (show h.readN o k [1, 4] = fw h o k by unfold HM.readN; rw [if_pos he]; rfl)
    have HC := Lib.hid (show ∀ w', Below w.heap.size w w' → w'.cell? ⟨p.g, 1, none⟩ = some (.slice (some ⟨p.gw, 0, none⟩) h.words.length p.cw) ∧ w'.cell? ⟨p.gw, o / 2 + 3 + k, none⟩ = some (.int .u32 (fw h o k : Nat)) from fun w' hb => ⟨(R.below hb).c1, (R.below hb).word hk⟩)
    have hmx := f.room
    have hmx2 := f.hi
    rw [HN.out, he]
    clear he hle HN R f hh
    generalize fw h o k = v at *
    generalize o / 2 + 3 + k = q at *
    generalize h.words.length = len at *
    unfold ptr at HP ⊢
    go_enter Tryd.func55, Tryd.ntmps55
    go_wp2_with fail
    refine HP.out.mono ?_
    rintro e w1 ⟨rfl, hb⟩
    obtain ⟨c1, cv⟩ := HC.out _ hb
    go_wp2_with fail
    go_ret2
    exact ⟨rfl, hb⟩
  · have hne : ((h.lookE o i [1, 4] : Int) != 0) = true := by simp; omega
    rw [HM.placeV_no he] at HP
    have HN := Lib.hid (show h.readN o i [1, 4] = 0 by unfold HM.readN; rw [if_neg he])
    rw [HN.out]
    generalize h.lookE o i [1, 4] = E at *
    clear he HN
    unfold ptr at HP ⊢
    go_enter Tryd.func55, Tryd.ntmps55
    go_wp2_with fail
    refine HP.out.mono ?_
    rintro e w1 ⟨rfl, hb⟩
    go_wp2_with fail
    go_ret2
    exact ⟨rfl, hb⟩

set_option maxRecDepth 100000 in
theorem rword_any : Calls Tryd.prog 59 #[ptr p.g, .int .u32 o, .int .i64 i] w (Told (.tuple #[.int .u32 (h.readN o i [3] : Nat), .int .i64 (h.lookE o i [3] : Nat)]) w) := by
  have HP := Lib.hid (rplace_any R f o ho hh i 3 [3] (by decide) hi63)
  have hle := h.lookE_lt o i [3]
  by_cases he : h.lookE o i [3] = 0
  · obtain ⟨k, rfl, hk⟩ := look_at hh (F := 3) (fs := [3]) (by decide) he
    rw [HM.placeV_at he] at HP
    simp only [Nat.reduceEqDiff, if_false] at HP hk
    have HN := Lib.hid (show h.readN o k [3] = fw h o k by unfold HM.readN; rw [if_pos he]; rfl)
    have HC := Lib.hid (show ∀ w', Below w.heap.size w w' → w'.cell? ⟨p.g, 1, none⟩ = some (.slice (some ⟨p.gw, 0, none⟩) h.words.length p.cw) ∧ w'.cell? ⟨p.gw, o / 2 + 3 + k, none⟩ = some (.int .u32 (fw h o k : Nat)) from fun w' hb => ⟨(R.below hb).c1, (R.below hb).word hk⟩)
    have hmx := f.room
    have hmx2 := f.hi
    rw [HN.out, he]
    clear he hle HN R f hh
    generalize fw h o k = v at *
    generalize o / 2 + 3 + k = q at *
    generalize h.words.length = len at *
    unfold ptr at HP ⊢
    go_enter Tryd.func59, Tryd.ntmps59
    go_wp2_with fail
    refine HP.out.mono ?_
    rintro e w1 ⟨rfl, hb⟩
    obtain ⟨c1, cv⟩ := HC.out _ hb
    go_wp2_with fail
    go_ret2
    exact ⟨rfl, hb⟩
  · have hne : ((h.lookE o i [3] : Int) != 0) = true := by simp; omega
    rw [HM.placeV_no he] at HP
    have HN := Lib.hid (show h.readN o i [3] = 0 by unfold HM.readN; rw [if_neg he])
    rw [HN.out]
    generalize h.lookE o i [3] = E at *
    clear he HN
    unfold ptr at HP ⊢
    go_enter Tryd.func59, Tryd.ntmps59
    go_wp2_with fail
    refine HP.out.mono ?_
    rintro e w1 ⟨rfl, hb⟩
    go_wp2_with fail
    go_ret2
    exact ⟨rfl, hb⟩

set_option maxRecDepth 100000 in
set_option maxHeartbeats 2000000 in
theorem rbyte_any : Calls Tryd.prog 88 #[ptr p.g, .int .u32 o, .int .i64 i] w (Told (.tuple #[.int .u8 (h.byteN o i : Nat), .int .i64 (h.lookE o i [2] : Nat)]) w) := by
  have HP := Lib.hid (rplace_any R f o ho hh i 2 [2] (by decide) hi63)
  have hle := h.lookE_lt o i [2]
  by_cases he : h.lookE o i [2] = 0
  · obtain ⟨k, rfl, hk⟩ := look_at hh (F := 2) (fs := [2]) (by decide) he
    rw [HM.placeV_at he] at HP
    simp only [if_true] at HP hk
    have HN := Lib.hid (show h.byteN o k = byteOf (fw h o (k / 4)) (k % 4) by unfold HM.byteN; rw [if_pos he]; rfl)
    have HC := Lib.hid (show ∀ w', Below w.heap.size w w' → w'.cell? ⟨p.g, 1, none⟩ = some (.slice (some ⟨p.gw, 0, none⟩) h.words.length p.cw) ∧ w'.cell? ⟨p.gw, o / 2 + 3 + k / 4, none⟩ = some (.int .u32 (fw h o (k / 4) : Nat)) from fun w' hb => ⟨(R.below hb).c1, (R.below hb).word hk⟩)
    have hmx := f.room
    have hmx2 := f.hi
    have hv : fw h o (k / 4) < 4294967296 := f.word _
    rw [HN.out, he]
    clear he hle HN R f hh
    generalize fw h o (k / 4) = v at *
    generalize o / 2 + 3 + k / 4 = q at *
    generalize h.words.length = len at *
    unfold ptr at HP ⊢
    rcases (by omega : k % 4 = 0 ∨ k % 4 = 1 ∨ k % 4 = 2 ∨ k % 4 = 3) with hr | hr | hr | hr
    all_goals
      have hmod : (k : Int) % 4 = ((k % 4 : Nat) : Int) := by omega
      rw [hr] at hmod
      have HFIN := Lib.hid (show ((byteOf v (k % 4) : Nat) : Int) = (v : Int) / ((2 ^ (8 * (k % 4)) : Nat) : Int) % 256 by unfold byteOf; simp)
      rw [hr] at HFIN
      rw [hr]
      clear hr
      go_enter Tryd.func88, Tryd.ntmps88
      go_wp2_with fail
      refine HP.out.mono ?_
      rintro e w1 ⟨rfl, hb⟩
      obtain ⟨c1, cv⟩ := HC.out _ hb
      go_wp2_with fail
      go_ret2
      refine ⟨?_, hb⟩
      rw [HFIN.out]
      first
        | (simp; done)
        | (simp; omega)
        | trace_state
  · have hne : ((h.lookE o i [2] : Int) != 0) = true := by simp; omega
    rw [HM.placeV_no he] at HP
    have HN := Lib.hid (show h.byteN o i = 0 by unfold HM.byteN; rw [if_neg he])
    rw [HN.out]
    generalize h.lookE o i [2] = E at *
    clear he HN
    unfold ptr at HP ⊢
    go_enter Tryd.func88, Tryd.ntmps88
    go_wp2_with fail
    refine HP.out.mono ?_
    rintro e w1 ⟨rfl, hb⟩
    go_wp2_with fail
    go_ret2
    exact ⟨rfl, hb⟩
end
end Go.Proofs.YtpajpdjjpgbklaaDoor

namespace Go.Proofs.YtpajpdjjpgbklaaDoor
open Go.RowKit

section
variable {w : World} {p : HP} {h : HM} (R : RAt w p h) (f : h.Fit) (hh : h.Heads) (o : Nat) (ho : o < 4294967296) (i : Int) (hi63 : i ≤ 9223372036854775807)
include R f hh ho hi63

end

section
variable {w : World} {p : HP} {h : HM} (R : RAt w p h) (f : h.Fit)
include R f
end
end Go.Proofs.YtpajpdjjpgbklaaDoor

namespace Go.Proofs.YtpajpdjjpgbklaaDoor
open Go.RowKit

section
variable {w w1 : World} {p : HP} {h : HM}
/-- The words' row was appended to, and the field holds the new slice. -/
theorem RAt.grewWords (H : RAt w p h) {g1 c1 : Nat} {ys : List Nat} (hr : Row w1 g1 24 c1 (u32s (h.words ++ ys))) (hg : w.grownBy w1 (some p.gw)) (hat : g1 = p.gw ∨ w.heap.size ≤ g1) :
    RAt (w1.setCell ⟨p.g, 1, none⟩ (.slice (some ⟨g1, 0, none⟩) (h.words ++ ys).length c1)) { p with gw := g1, cw := c1 } { h with words := h.words ++ ys } ∧
    Step p { p with gw := g1, cw := c1 } w (w1.setCell ⟨p.g, 1, none⟩ (.slice (some ⟨g1, 0, none⟩) (h.words ++ ys).length c1)) := by
  obtain ⟨hb, hw, hs, hrt⟩ := H
  have n1 : p.g ≠ p.gw := fun e => Row.ne_blk hw hb (by decide) e.symm
  have n2 : p.gs ≠ p.gw := hs.ne_ hw (by decide)
  have n3 : p.gr ≠ p.gw := hrt.ne_ hw (by decide)
  have hb1 := hb.same (hg.block p.g hb.lt (by simpa using n1))
  have hs1 := hs.same (hg.block p.gs hs.lt (by simpa using n2))
  have hr1 := hrt.same (hg.block p.gr hrt.lt (by simpa using n3))
  refine ⟨⟨hb1.set_ 1 _, hr.far (fun e => Row.ne_blk hr hb1 (by decide) e) _, hs1.far (fun e => Row.ne_blk hs1 hb1 (by decide) e) _, hr1.far (fun e => Row.ne_blk hr1 hb1 (by decide) e) _⟩, ?_⟩
  have s1 : Step p { p with gw := g1, cw := c1 } w w1 := ⟨hg.os, hg.tape, hg.output, hg.size, fun k hk hn => hg.block k hk (by
    intro e; injection e with e; exact hn (.inr (.inl e))), rfl, by
    rintro k (hk | hk | hk | hk)
    · exact .inl (.inl hk)
    · rcases hat with e | e
      · exact .inl (.inr (.inl (hk.trans e)))
      · exact .inr (hk ▸ e)
    · exact .inl (.inr (.inr (.inl hk)))
    · exact .inl (.inr (.inr (.inr hk)))⟩
  exact s1.setCell (.inl (.inl rfl)) _
theorem RAt.grewBegins (H : RAt w p h) {g1 c1 : Nat} {ys : List Bool} (hr : Row w1 g1 5 c1 (begins (h.starts ++ ys))) (hg : w.grownBy w1 (some p.gs)) (hat : g1 = p.gs ∨ w.heap.size ≤ g1) :
    RAt (w1.setCell ⟨p.g, 4, none⟩ (.slice (some ⟨g1, 0, none⟩) (h.starts ++ ys).length c1)) { p with gs := g1, cs := c1 } { h with starts := h.starts ++ ys } ∧
    Step p { p with gs := g1, cs := c1 } w (w1.setCell ⟨p.g, 4, none⟩ (.slice (some ⟨g1, 0, none⟩) (h.starts ++ ys).length c1)) := by
  obtain ⟨hb, hw, hs, hrt⟩ := H
  have n1 : p.g ≠ p.gs := fun e => Row.ne_blk hs hb (by decide) e.symm
  have n2 : p.gw ≠ p.gs := hw.ne_ hs (by decide)
  have n3 : p.gr ≠ p.gs := hrt.ne_ hs (by decide)
  have hb1 := hb.same (hg.block p.g hb.lt (by simpa using n1))
  have hw1 := hw.same (hg.block p.gw hw.lt (by simpa using n2))
  have hr1 := hrt.same (hg.block p.gr hrt.lt (by simpa using n3))
  refine ⟨⟨hb1.set_ 4 _, hw1.far (fun e => Row.ne_blk hw1 hb1 (by decide) e) _, hr.far (fun e => Row.ne_blk hr hb1 (by decide) e) _, hr1.far (fun e => Row.ne_blk hr1 hb1 (by decide) e) _⟩, ?_⟩
  have s1 : Step p { p with gs := g1, cs := c1 } w w1 := ⟨hg.os, hg.tape, hg.output, hg.size, fun k hk hn => hg.block k hk (by
    intro e; injection e with e; exact hn (.inr (.inr (.inl e)))), rfl, by
    rintro k (hk | hk | hk | hk)
    · exact .inl (.inl hk)
    · exact .inl (.inr (.inl hk))
    · rcases hat with e | e
      · exact .inl (.inr (.inr (.inl (hk.trans e))))
      · exact .inr (hk ▸ e)
    · exact .inl (.inr (.inr (.inr hk)))⟩
  exact s1.setCell (.inl (.inl rfl)) _
end
def RMade (p : HP) (h' : HM) (v : Value) (w : World) (e : Ending) (w' : World) : Prop := ∃ p', e = .returned v ∧ RAt w' p' h' ∧ Step p p' w w'

theorem wpList_append_zeros {P : Program} {w : World} {ops : Array Oper} {rest : List Oper} {o : Oper} {a : Act} {Q : Exit → Act → World → Prop} (hgd : o.guard = none) (s x : Operand) (t tn : TypeId)
    (ho : o.op = .call { callee := .builtin .append, args := #[s, x], argTypes := #[t, tn] })
    {g c : Nat} {e : TypeId} {xs : List Value} (hr : Row w g e c xs) (i : TypeInfo) (z : Value) (bytes : Nat)
    (ht : P.underlying t = some (.slice e)) (htn : P.underlying tn = some (.int .i64)) (hi : P.info? e = some i) (hz : i.zero = some z) (hsize : i.size = 1) (hby : i.bytes = bytes)
    (hz1 : z.cells = #[z]) (hone : z.oneCell' = true) (n k : Nat) (hn : xs.length = n) (hk : 0 < k) (h63 : n + k ≤ maxLen) (hbytes : (n + k) * bytes ≤ 140737488355328)
    (hs : a.eval s = .slice (some ⟨g, 0, none⟩) n c) (hx : a.eval x = .int .i64 k)
    (h : ∀ g' c' w', Row w' g' e c' (xs ++ List.replicate k z) → w.grownBy w' (some g) → (g' = g ∨ g' = w.heap.size) → wpList P ops Q rest (a.put o.dst (.slice (some ⟨g', 0, none⟩) (n + k) c')) w') : wpList P ops Q (o :: rest) a w := by
  refine wpList_plain hgd fun K hK => ?_
  subst hn
  obtain ⟨g', c', w', hrun, h1, h2, h3⟩ := run_append_zeros hr t tn o.type i z bytes ht htn hi hz hsize hby hz1 hone k hk h63 hbytes
  exact Lib.wp_append_run w s x t tn ho _ _ hs hx _ w' hrun (hK _ _ (h g' c' w' h1 h2 h3))

def RMid (p p' : HP) (h' : HM) (w : World) (gf n : Nat) (ys : List Nat) (wr : World) : Prop :=
  RAt wr p' h' ∧ Step p p' w wr ∧ Row wr gf 24 n (u32s ys) ∧ ¬ p'.has gf
theorem RMid.next {p p' p'' : HP} {h' h'' : HM} {w wr wx : World} {gf n : Nat} {ys : List Nat} (m : RMid p p' h' w gf n ys wr) (R : RAt wx p'' h'') (s : Step p' p'' wr wx) : RMid p p'' h'' w gf n ys wx :=
  ⟨R, m.2.1.trans s, s.row m.2.2.1 m.2.2.2⟩
theorem RMid.below {p p' : HP} {h' : HM} {w wr wx : World} {gf n : Nat} {ys : List Nat} (m : RMid p p' h' w gf n ys wr) (hb : Below wr.heap.size wr wx) : RMid p p' h' w gf n ys wx :=
  m.next (m.1.below hb) (.of_below hb)

end Go.Proofs.YtpajpdjjpgbklaaDoor

namespace Go.Proofs.YtpajpdjjpgbklaaDoor
open Go.RowKit
attribute [local go_sem] Oper.semAt_some

theorem RMade.after {p : HP} {h' : HM} {v : Value} {w w1 w' : World} {e : Ending} (m : RMade p h' v w1 e w') (hb : Below w.heap.size w w1) : RMade p h' v w e w' := by
  obtain ⟨p', h1, h2, h3⟩ := m
  exact ⟨p', h1, h2, (Step.of_below hb).trans h3⟩
theorem rep_at (k n a b : Nat) (hk : k < n) : (List.replicate k a ++ List.replicate (n - k) b)[k]? = some b := by
  rw [List.getElem?_append_right (by simp), List.length_replicate, Nat.sub_self, List.getElem?_replicate, if_pos (by omega)]
theorem set_replicate_app (k n a b : Nat) (hk : k < n) : (List.replicate k a ++ List.replicate (n - k) b).set k a = List.replicate (k + 1) a ++ List.replicate (n - (k + 1)) b := by
  rw [List.set_append_right _ _ (by simp), List.length_replicate, Nat.sub_self, show n - k = (n - (k + 1)) + 1 by omega, List.replicate_succ, List.set_cons_zero, List.replicate_succ' (n := k)]
  simp
theorem push_eq {h : HM} (c t k : Nat) (hcl : h.clsB c = true) :
    h.allocH (mkHd c t k) = (if h.size < h.words.length + 3 + k ∨ h.last = 4294967295 then h else h.pushH ⟨k, t, 0, c, 0⟩ (List.replicate k (if t = 1 ∨ t = 4 then h.roots.getD 0 0 else 0))) ∧
    h.allocV (mkHd c t k) = (if h.size < h.words.length + 3 + k ∨ h.last = 4294967295 then .tuple #[.int .u32 0, .int .i64 4] else .tuple #[.int .u32 (2 * h.words.length : Nat), .int .i64 0]) := by
  unfold HM.allocH HM.allocV HM.allocE
  have e : mkHd c (t : Int) (k : Int) = ⟨k, t, 0, c, 0⟩ := rfl
  rw [e]
  dsimp only
  rw [hcl]
  have hf : h.fill ⟨k, t, 0, c, 0⟩ = (if t = 1 ∨ t = 4 then h.roots.getD 0 0 else 0) := by
    unfold HM.fill Hd.ptrB
    by_cases ht : t = 1 ∨ t = 4
    · simp [ht]
    · simp [ht]
  rw [hf]
  by_cases hfull : h.size < h.words.length + 3 + k ∨ h.last = 4294967295
  · simp [hfull]
  · simp [hfull]
theorem make_eq {h : HM} (c : Nat) (bs : List Nat) (hl : bs.length ≤ 262140) (hcl : h.clsB c = true) :
    h.makeH c bs = (if h.size < h.words.length + 3 + (bs.length + 3) / 4 ∨ h.last = 4294967295 then h else h.pushH (makeX c bs) (packM bs)) ∧
    h.makeV c bs = (if h.size < h.words.length + 3 + (bs.length + 3) / 4 ∨ h.last = 4294967295 then .tuple #[.int .u32 0, .int .i64 4] else .tuple #[.int .u32 (2 * h.words.length : Nat), .int .i64 0]) := by
  have e0 : h.makeE c bs = h.allocE (makeX c bs) := by unfold HM.makeE; rw [if_neg (by omega)]
  unfold HM.makeH HM.makeV
  rw [e0]
  unfold HM.allocE
  rw [show (makeX c bs).cls = c from rfl, hcl, show (makeX c bs).size = (bs.length + 3) / 4 from rfl]
  by_cases hfull : h.size < h.words.length + 3 + (bs.length + 3) / 4 ∨ h.last = 4294967295
  · simp [hfull]
  · simp [hfull]
section
variable {w : World} {p : HP} {h : HM} (R : RAt w p h) (f : h.Fit)
include R f
end
end Go.Proofs.YtpajpdjjpgbklaaDoor

namespace Go.Proofs.YtpajpdjjpgbklaaDoor
open Go.RowKit

def Dd.val (d : Dd) (A : Option Addr) (n c : Nat) : Value :=
  .agg #[.int .i64 d.k, .int .u32 (d.o : Nat), .int .u32 (d.v : Nat), .int .i64 d.f, .int .i64 d.i, .int .i64 d.n, .int .u32 (d.w : Nat), .slice A n c]

def Dd.vals (d : Dd) (A : Option Addr) (n c : Nat) : List Value :=
  [.int .i64 d.k, .int .u32 (d.o : Nat), .int .u32 (d.v : Nat), .int .i64 d.f, .int .i64 d.i, .int .i64 d.n, .int .u32 (d.w : Nat), .slice A n c]
/-- A script lies in memory, below block B. -/
def DeedsAt (w : World) (B : Nat) (A : Option Addr) (ds : List Dd) : Prop :=
  ∀ i d, ds[i]? = some d → d.Fit ∧ ∃ ad Ab nb cb, A = some ad ∧ ad.block < B ∧ nb ≤ 9223372036854775807 ∧ Reads w B 1 Ab nb (u8c d.b) ∧ ∀ j v, (d.vals Ab nb cb)[j]? = some v → w.cell? (ad.add (i * 8 + j)) = some v
section
variable {w w' : World} {p p' : HP} {B : Nat} {A : Option Addr} {ds : List Dd}
theorem DeedsAt.keep (h : DeedsAt w B A ds) (hk : ∀ q : Addr, q.block < B → w'.cell? q = w.cell? q) : DeedsAt w' B A ds := by
  intro i d hd
  obtain ⟨f, ad, Ab, nb, cb, h1, h2, h3, h4, h5⟩ := h i d hd
  exact ⟨f, ad, Ab, nb, cb, h1, h2, h3, h4.keep hk, fun j v hv => (hk _ (by rw [block_of_add]; exact h2)).trans (h5 j v hv)⟩
theorem DeedsAt.below (h : DeedsAt w B A ds) (hb : Below B w w') : DeedsAt w' B A ds := h.keep fun _ hq => hb.cell hq
theorem DeedsAt.fit (h : DeedsAt w B A ds) : ∀ d ∈ ds, d.Fit := fun d hd => by
  obtain ⟨i, hi⟩ := List.getElem?_of_mem hd
  exact (h i d hi).1
theorem cell_add {a : Addr} {j : Nat} {v : Value} (h : w.cell? (a.add j) = some v) (hj : 0 < j) : w.cell? ⟨a.block, a.off + j, none⟩ = some v := by
  unfold Addr.add at h
  rw [if_neg (by omega)] at h
  exact h
theorem DeedsAt.load (h : DeedsAt w B A ds) {i : Nat} {d : Dd} (hd : ds[i]? = some d) :
    ∃ ad Ab nb cb, A = some ad ∧ ad.block < B ∧ nb ≤ 9223372036854775807 ∧ Reads w B 1 Ab nb (u8c d.b) ∧
      w.cell? (ad.add (i * 8)) = some (.int .i64 d.k) ∧ w.cell? ⟨(ad.add (i * 8)).block, (ad.add (i * 8)).off + 1, none⟩ = some (.int .u32 (d.o : Nat)) ∧
      w.cell? ⟨(ad.add (i * 8)).block, (ad.add (i * 8)).off + 2, none⟩ = some (.int .u32 (d.v : Nat)) ∧ w.cell? ⟨(ad.add (i * 8)).block, (ad.add (i * 8)).off + 3, none⟩ = some (.int .i64 d.f) ∧
      w.cell? ⟨(ad.add (i * 8)).block, (ad.add (i * 8)).off + 4, none⟩ = some (.int .i64 d.i) ∧ w.cell? ⟨(ad.add (i * 8)).block, (ad.add (i * 8)).off + 5, none⟩ = some (.int .i64 d.n) ∧
      w.cell? ⟨(ad.add (i * 8)).block, (ad.add (i * 8)).off + 6, none⟩ = some (.int .u32 (d.w : Nat)) ∧ w.cell? ⟨(ad.add (i * 8)).block, (ad.add (i * 8)).off + 7, none⟩ = some (.slice Ab nb cb) := by
  obtain ⟨f, ad, Ab, nb, cb, h1, h2, h3, h4, h5⟩ := h i d hd
  have h6 : ∀ j v, 0 < j → (d.vals Ab nb cb)[j]? = some v → w.cell? ⟨(ad.add (i * 8)).block, (ad.add (i * 8)).off + j, none⟩ = some v := fun j v hj hv =>
    cell_add (by rw [add_of_add]; exact h5 j v hv) hj
  exact ⟨ad, Ab, nb, cb, h1, h2, h3, h4, h5 0 _ rfl, h6 1 _ (by omega) rfl, h6 2 _ (by omega) rfl, h6 3 _ (by omega) rfl, h6 4 _ (by omega) rfl, h6 5 _ (by omega) rfl, h6 6 _ (by omega) rfl, h6 7 _ (by omega) rfl⟩
end

theorem own_step {W w w' : World} {p p' : HP} {base n : Nat} {e : TypeId} {v : Value} {xs : List Value} (s : Step p p' w w') (h : w.ownsRow base e 1 v n xs) (ha : ∀ k, v.ownBlock = some k → ¬ p.has k) :
    w'.ownsRow base e 1 v n xs ∧ ∀ k, v.ownBlock = some k → ¬ p'.has k := by
  have hlt := h.lt
  refine ⟨⟨h.1, ?_⟩, fun k hk hh => ?_⟩
  · rcases h.2 with h2 | ⟨g, cap, cur, rfl, hb, hh, r⟩
    · exact .inl h2
    · exact .inr ⟨g, cap, cur, rfl, hb, (s.block g (hlt g rfl).2 (ha g rfl)).trans hh, r⟩
  · rcases s.rows k hh with hh | hh
    · exact ha k hk hh
    · have := (hlt k hk).2; omega
theorem Live.grown {W w w' : World} {p : HP} {g : Nat} {h : HM} {row : Option Nat} (L : Live W w p g h) (hg : w.grownBy w' row) (hr : ∀ k, row = some k → ¬ p.has k ∧ W.heap.size ≤ k) : Live W w' p g h :=
  ⟨L.at_.same fun k hk => hg.block k (L.at_.lt hk) (fun e => (hr k e.symm).1 hk), L.hg, L.good, L.env, L.new,
    ⟨hg.os.trans L.below.os, hg.tape.trans L.below.tape, hg.output.trans L.below.output, Nat.le_trans L.below.size hg.size, fun k hk =>
      (hg.block k (by have := L.below.size; omega) (fun e => by have := (hr k e.symm).2; omega)).trans (L.below.block k hk)⟩⟩
theorem HM.new_scr {n : Nat} (h1 : 64 ≤ n) (h2 : n ≤ 1048576) : (HM.new n).Scr [] := ⟨HM.new_good h1 h2 (HM.new_fit h1 h2), rfl⟩
theorem runM_len {n : Nat} (h1 : 64 ≤ n) (h2 : n ≤ 1048576) (ds : List Dd) (fd : ∀ d ∈ ds, d.Fit) : ((HM.new n).runM ds).length < 349526 := by
  obtain ⟨l, s, _, _, hl, _⟩ := (HM.new_scr h1 h2).run ds fd
  have := s.len
  have := s.last_lt
  simp at hl
  omega
theorem take_snoc {α : Type} {ds : List α} {k : Nat} {d : α} (hd : ds[k]? = some d) : ds.take (k + 1) = ds.take k ++ [d] := by
  rw [List.take_add_one, hd]; rfl

theorem ret_bool {a : Bool} (h : a = true) : Ending.returned (.bool a) = .returned (.bool true) := by rw [h]
end Go.Proofs.YtpajpdjjpgbklaaDoor

namespace Go.Proofs.YtpajpdjjpgbklaaDoor
open Go.RowKit
attribute [local go_sem] Oper.semAt_some

theorem ckind_any (o : Nat) (ho : o < 4294967296) (w : World) : Calls Tryd.prog 61 #[.int .u32 o] w (Said (.int .i64 (kindM o)) w) := by
  have HK := Lib.hid (kind_any o ho w)
  have hk : kindM o = 0 ∨ kindM o = 1 ∨ kindM o = 2 := by unfold kindM; split <;> (try split) <;> simp
  generalize kindM o = k at *
  rcases hk with rfl | rfl | rfl
  all_goals
    go_enter Tryd.func61, Tryd.ntmps61
    go_wp2_with fail
    refine HK.out.mono ?_
    rintro e w' ⟨rfl, rfl⟩
    go_wp2_with fail
    go_ret
    exact ⟨rfl, rfl⟩
theorem cpointers_any (t : Nat) (w : World) : Calls Tryd.prog 79 #[.int .i64 t] w (Said (.bool (decide (t = 1) || decide (t = 4))) w) := by
  by_cases h1 : t = 1
  · subst h1
    go_enter Tryd.func79, Tryd.ntmps79
    go_wp2_with fail
    go_ret
    exact ⟨by simp, rfl⟩
  · have e1 : ((t : Int) == 1) = false := by simp; omega
    by_cases h4 : t = 4
    · subst h4
      go_enter Tryd.func79, Tryd.ntmps79
      go_wp2_with fail
      go_ret
      exact ⟨by simp, rfl⟩
    · have e4 : ((t : Int) == 4) = false := by simp; omega
      have HF := Lib.hid (show (decide (t = 1) || decide (t = 4)) = false by simp [h1, h4])
      clear h1 h4
      go_enter Tryd.func79, Tryd.ntmps79
      go_wp2_with fail
      go_ret
      exact ⟨by rw [HF.out]; rfl, rfl⟩

/-- fits' literal: it holds the box of h. -/
def fitFn (gb : Nat) : Value := .func (.func 71) #[] #[.pointer (some ⟨gb, 0, none⟩)]
theorem not_valB (h : HM) (o : Nat) : (!h.valB o) = (decide (kindM o = 2) && !h.isB o) := by
  unfold HM.valB objB
  by_cases hk : kindM o = 2 <;> simp [hk]
theorem fit1_any {w : World} {p : HP} {h : HM} (H : HAt w p h) (f : h.Fit) (gb : Nat) (hb : w.cell? ⟨gb, 0, none⟩ = some (.pointer (some ⟨p.g, 0, none⟩))) (o : Nat) (ho : o < 4294967296) :
    Calls Tryd.prog 71 #[.int .u32 o, .pointer (some ⟨gb, 0, none⟩)] w fun e w' => e = .returned (.bool (!h.valB o)) ∧ w = w' := by
  have HI := Lib.hid (is_any H f o ho)
  have HK := Lib.hid (ckind_any o ho w)
  rw [not_valB]
  clear H f
  unfold ptr at HI
  generalize h.isB o = b at *
  by_cases hk : kindM o = 2
  · rw [hk] at HK ⊢
    clear hk
    go_enter Tryd.func71, Tryd.ntmps71
    go_wp2_with fail
    refine HK.out.mono ?_
    rintro e w' ⟨rfl, rfl⟩
    go_wp2_with fail
    refine HI.out.mono ?_
    rintro e w' ⟨rfl, rfl⟩
    go_wp2_with fail
    go_ret
    exact ⟨by simp, rfl⟩
  · have e2 : ((kindM o : Int) == 2) = false := by simp; omega
    have HF := Lib.hid (show (decide (kindM o = 2) && !b) = false by simp [hk])
    rw [HF.out]
    clear hk
    generalize kindM o = k at *
    go_enter Tryd.func71, Tryd.ntmps71
    go_wp2_with fail
    refine HK.out.mono ?_
    rintro e w' ⟨rfl, rfl⟩
    go_wp2_with fail
    go_ret
    exact ⟨rfl, rfl⟩

set_option maxHeartbeats 1000000 in
theorem indexFit_any {w : World} {p : HP} {h : HM} (H : HAt w p h) (f : h.Fit) (gb : Nat) (hb : w.cell? ⟨gb, 0, none⟩ = some (.pointer (some ⟨p.g, 0, none⟩))) (A : Option Addr) (n c B : Nat) (xs : List Nat) (hn : n ≤ 9223372036854775807)
    (hr : Reads w B 1 A n (u32s xs)) (h32 : ∀ x ∈ xs, x < 4294967296) :
    Calls Tryd.prog 101 #[.slice A n c, fitFn gb] w (IdxFP h xs w) := by
  have hl : xs.length = n := by have := hr.1; rw [u32s_len] at this; omega
  have HL := Lib.hid hl; have HR := Lib.hid hr; have HX := Lib.hid h32; have HH := Lib.hid H; have HF := Lib.hid f; have HB := Lib.hid hb
  clear hl hr h32 H f hb
  unfold fitFn
  go_enter Tryd.func101, Tryd.ntmps101
  go_wp2_with fail
  go_loop [8] (fun i => ∃ k : Nat, k ≤ n ∧ i = .int .i64 k ∧ (xs.take k).any (fun o => !h.valB o) = false) (fun i => n - (intOf i).toNat)
  case atStart => exact ⟨0, by omega, rfl, by simp⟩
  case round =>
    obtain ⟨k, hk, rfl, hno⟩ := hrel
    have HNO := Lib.hid hno; clear hno
    by_cases hlt : k < n
    · obtain ⟨ad, u0, rfl, _, hx, hcell⟩ := HR.out.at_ hlt
      rw [u32s_get (by rw [HL.out]; exact hlt)] at hx
      injection hx with hx
      subst hx
      have ho : xs.getD k 0 < 4294967296 := by
        rw [List.getD_eq_getElem?_getD, List.getElem?_eq_getElem (by rw [HL.out]; exact hlt)]
        exact HX.out _ (List.getElem_mem _)
      have HC := Lib.hid (fit1_any HH.out HF.out gb HB.out (xs.getD k 0) ho)
      cases hv : h.valB (xs.getD k 0)
      · have HA := Lib.hid (any_at (q := fun o => !h.valB o) (by rw [HL.out]; exact hlt) (by simp only [hv]; rfl))
        rw [hv] at HC
        clear hv
        generalize xs.getD k 0 = y at *
        go_wp2_with fail
        refine HC.out.mono ?_
        rintro e w' ⟨rfl, rfl⟩
        go_wp2_with fail
        go_ret
        exact ⟨k, rfl, by rw [HA.out]; simp, by omega, by omega, rfl⟩
      · have HA := Lib.hid (any_take (q := fun o => !h.valB o) (by rw [HL.out]; exact hlt) HNO.out (by simp only [hv]; rfl))
        rw [hv] at HC
        clear hv
        generalize xs.getD k 0 = y at *
        go_wp2_with fail
        refine HC.out.mono ?_
        rintro e w' ⟨rfl, rfl⟩
        go_wp2_with fail
        go_round
        case rel => exact ⟨k + 1, by omega, by go_num, HA.out⟩
        case measure => simp [intOf]; omega
    · obtain rfl : k = n := by omega
      have hall := HNO.out
      rw [List.take_of_length_le (by rw [HL.out]; omega)] at hall
      have HA := Lib.hid hall; clear hall
      go_wp2_with fail
      go_ret
      exact ⟨-1, rfl, by rw [HA.out]; simp, by omega, by omega, rfl⟩
theorem containsFit_any {w : World} {p : HP} {h : HM} (H : HAt w p h) (f : h.Fit) (gb : Nat) (hb : w.cell? ⟨gb, 0, none⟩ = some (.pointer (some ⟨p.g, 0, none⟩))) (A : Option Addr) (n c B : Nat) (xs : List Nat) (hn : n ≤ 9223372036854775807)
    (hr : Reads w B 1 A n (u32s xs)) (h32 : ∀ x ∈ xs, x < 4294967296) :
    Calls Tryd.prog 70 #[.slice A n c, fitFn gb] w fun e w' => e = .returned (.bool (xs.any fun o => !h.valB o)) ∧ w = w' := by
  have HC := Lib.hid (indexFit_any H f gb hb A n c B xs hn hr h32)
  clear H f hb hr h32
  unfold fitFn at HC ⊢
  go_enter Tryd.func70, Tryd.ntmps70
  go_wp2_with fail
  refine HC.out.mono ?_
  rintro e w' ⟨j, rfl, hj, hlo, hhi, rfl⟩
  have HJ := Lib.hid hj; clear hj
  go_wp2_with fail
  go_ret
  exact ⟨by rw [← HJ.out]; rfl, rfl⟩
/-- Whether beginnings are values of a heap. -/
def HM.fitsB (h : HM) (fr : List Nat) : Bool := !(fr.any fun o => !h.valB o)
theorem cfits_any {w : World} {p : HP} {h : HM} (H : HAt w p h) (f : h.Fit) (A : Option Addr) (n c : Nat) (xs : List Nat) (hn : n ≤ 9223372036854775807) (hr : Reads w w.heap.size 1 A n (u32s xs)) (h32 : ∀ x ∈ xs, x < 4294967296) :
    Calls Tryd.prog 34 #[ptr p.g, .slice A n c] w (Told (.bool (h.fitsB xs)) w) := by
  have hb0 := (Below.refl w.heap.size w).alloc (Nat.le_refl _) (.cells #[.pointer (some ⟨p.g, 0, none⟩)] 27)
  have HC := Lib.hid (containsFit_any (H.below hb0) f w.heap.size ((Blk.new w 27 #[.pointer (some ⟨p.g, 0, none⟩)]).cell 0) A n c w.heap.size xs hn (hr.alloc (Nat.le_refl _) _) h32)
  have HB := Lib.hid hb0
  unfold HM.fitsB
  generalize (xs.any fun o => !h.valB o) = b at *
  clear H f hr h32 hb0
  unfold fitFn at HC
  unfold ptr
  go_enter Tryd.func34, Tryd.ntmps34
  go_wp2_with fail
  refine HC.out.mono ?_
  rintro e w' ⟨rfl, rfl⟩
  go_wp2_with fail
  go_ret
  exact ⟨rfl, HB.out⟩
end Go.Proofs.YtpajpdjjpgbklaaDoor
