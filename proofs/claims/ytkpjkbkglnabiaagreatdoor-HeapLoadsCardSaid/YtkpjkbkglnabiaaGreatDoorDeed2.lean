/- SetWord, Length of the program's heap. -/
import Derived.Test.YtkpjkbkglnabiaaGreatDoorGet
set_option linter.unusedVariables false
namespace Go.Proofs.YtkpjkbkglnabiaaGreatDoor
open Go.RowKit

def HM.setWordH (h : HM) (o : Nat) (i : Int) (v : Nat) : HM := if h.lookE o i [3] = 0 then h.setF o i.toNat v else h
def HM.lenV (h : HM) (o : Nat) : Value := .tuple #[.int .i64 ((if h.isB o then (h.hd (o / 2)).len else 0 : Nat) : Int), .int .i64 ((if h.isB o then 0 else 3 : Nat) : Int)]

section
variable {w : World} {p : HP} {h : HM} (H : HAt w p h) (f : h.Fit) (hh : h.Heads) (hs : Spares w) (o : Nat) (ho : o < 4294967296)
include H f hh hs ho

set_option maxHeartbeats 1000000 in
theorem setWord_any (i : Int) (v : Nat) (hv : v < 4294967296) : Calls Tryz.prog 36 #[ptr p.g, .int .u32 o, .int .i64 i, .int .u32 v] w (Deeds p (h.setWordH o i v) (h.lookE o i [3]) w) := by
  have hb0 : ∀ o, Below w.heap.size w (w.alloc o) := fun o => (Below.refl _ _).alloc (Nat.le_refl _) _
  have HC := Lib.hid (look_any (H.below (hb0 (.cells #[.int .i64 3] 57))) f hh (hs.below (hb0 _)) o ho i (some ⟨w.heap.size, 0, none⟩) 1 1 [3] (by omega)
    ⟨rfl, fun _ => ⟨_, rfl, by simp, fun j u hj => by
      rw [WideShapes.add_plain, Nat.zero_add, (Blk.new w _ _).cell]
      simpa [ints] using hj⟩⟩)
  have HL := Lib.hid (show h.lookV o i [3] = .tuple #[.int .i64 ((if h.lookE o i [3] = 0 then o / 2 + 3 else 0 : Nat) : Int), .int .i64 (h.lookE o i [3])] from rfl)
  rw [HL.out] at HC
  clear HL
  have hle := h.lookE_lt o i [3]
  by_cases he : h.lookE o i [3] = 0
  · obtain ⟨hi, hc, h0, hlt⟩ := HM.look_ok he
    have hd := (HM.isB_hd hh hi).1
    have hsz : (h.hd (o / 2)).len = (h.hd (o / 2)).size := by
      unfold Hd.len; rw [if_neg (fun e => by rw [e] at hc; simp at hc)]
    rw [hsz] at hlt
    obtain ⟨k, rfl⟩ := Int.eq_ofNat_of_zero_le h0
    have hk : o / 2 + 3 + k < h.words.length := by omega
    have hmx := f.room
    have hmx2 := f.hi
    have HP' := Lib.hid (show h.setWordH o k v = h.setF o k v by simp [HM.setWordH, he])
    have HE := Lib.hid he
    rw [he] at HC
    simp only [if_true] at HC
    clear he hi hc hd hsz hlt hle
    have HCC := Lib.hid (fun w' (hb : Below w.heap.size w w') => show w'.cell? ⟨p.gw, o / 2 + 3 + k, none⟩ = some (.int .u32 (fw h o k : Nat)) from (H.below hb).word hk)
    have HC0 := Lib.hid (fun w' (hb : Below w.heap.size w w') => show w'.cell? ⟨p.g, 0, none⟩ = some (.slice (some ⟨p.gw, 0, none⟩) h.words.length p.cw) from (H.below hb).c0)
    have HFZ := Lib.hid (fun w' (hb : Below w.heap.size w w') => show w'.frozen? ⟨p.gw, o / 2 + 3 + k, none⟩ = false from (H.below hb).2.1.frozen _)
    have HS := Lib.hid (show ∀ w', Below w.heap.size w w' → HAt (w'.setCell ⟨p.gw, o / 2 + 3 + k, none⟩ (.int .u32 v)) p (h.setF o k v) from fun w' hb => (H.below hb).setWord _ _)
    have hq : o / 2 < 2147483648 := by omega
    generalize h.setF o k v = h2 at *
    generalize o / 2 = q at *
    generalize h.words.length = len at *
    unfold ptr at HC ⊢
    go_enter Tryz.func36, Tryz.ntmps36
    go_wp2_with fail
    refine HC.out.mono ?_
    rintro e w1 ⟨rfl, hb1⟩
    have hb := below_top (hb0 _) hb1
    have c0 := HC0.out _ hb
    have cv := HCC.out _ hb
    have cf := HFZ.out _ hb
    go_wp2_with fail
    go_ret
    exact ⟨by rw [HE.out]; rfl, by rw [HP'.out]; exact HS.out _ hb, (Step.of_below hb).setCell (.inl (.inr (.inl rfl))) _⟩
  · have hne : ((h.lookE o i [3] : Int) == 0) = false := by simp; omega
    simp only [if_neg he] at HC
    have HP' := Lib.hid (show h.setWordH o i v = h by simp [HM.setWordH, he])
    generalize h.lookE o i [3] = E at *
    clear he
    unfold ptr at HC ⊢
    go_enter Tryz.func36, Tryz.ntmps36
    go_wp2_with fail
    refine HC.out.mono ?_
    rintro e w1 ⟨rfl, hb1⟩
    have hb := below_top (hb0 _) hb1
    go_wp2_with fail
    go_ret
    exact ⟨rfl, by rw [HP'.out]; exact H.below hb, .of_below hb⟩

set_option maxHeartbeats 1000000 in
theorem Length_any : Calls Tryz.prog 89 #[ptr p.g, .int .u32 o] w fun e w' => e = .returned (h.lenV o) ∧ Below w.heap.size w w' := by
  have HC := Lib.hid (Header_any H f hh hs o ho)
  cases hi : h.isB o
  · have HH := Lib.hid (show h.headerV o = .tuple #[.agg #[.int .i64 0, .int .i64 0, .int .i64 0, .int .u32 0, .int .u32 0], .int .i64 3] by simp [HM.headerV, hi])
    have HF := Lib.hid (show h.lenV o = .tuple #[.int .i64 0, .int .i64 3] by simp [HM.lenV, hi])
    rw [HH.out] at HC
    clear HH hi
    have HL := Lib.hid (fun w => length_any ⟨0, 0, 0, 0, 0⟩ ⟨by decide, by decide, by decide, by decide, by decide⟩ (fun _ => by decide) w)
    unfold ptr at HC ⊢
    unfold Hd.val at HL
    go_enter Tryz.func89, Tryz.ntmps89
    go_wp2_with fail
    refine HC.out.mono ?_
    rintro e w1 ⟨rfl, hb1⟩
    go_wp2_with fail
    refine (HL.out _).mono ?_
    rintro e w2 ⟨rfl, hb2⟩
    have hb := below_top (w := w) (hb1.alloc hb1.size _) hb2
    clear hb2
    go_wp2_with fail
    go_ret2
    exact ⟨by rw [HF.out]; rfl, hb⟩
  · have hd := HM.isB_hd hh hi
    have HH := Lib.hid (show h.headerV o = .tuple #[(h.hd (o / 2)).val, .int .i64 0] by simp [HM.headerV, hi])
    have HF := Lib.hid (show h.lenV o = .tuple #[.int .i64 ((h.hd (o / 2)).len : Nat), .int .i64 0] by simp [HM.lenV, hi])
    have HL := Lib.hid (fun w => length_any (h.hd (o / 2)) (HM.hd_fit f _) (fun e => hd.sane e) w)
    rw [HH.out] at HC
    clear HH hi hd
    have HX := Lib.hid (show (h.hd (o / 2)).val = .agg #[.int .i64 (h.hd (o / 2)).size, .int .i64 (h.hd (o / 2)).fmt, .int .i64 (h.hd (o / 2)).spare, .int .u32 (h.hd (o / 2)).cls, .int .u32 (h.hd (o / 2)).ser] from rfl)
    rw [HX.out] at HC HL
    generalize h.hd (o / 2) = x at *
    unfold ptr at HC ⊢
    go_enter Tryz.func89, Tryz.ntmps89
    go_wp2_with fail
    refine HC.out.mono ?_
    rintro e w1 ⟨rfl, hb1⟩
    go_wp2_with fail
    refine (HL.out _).mono ?_
    rintro e w2 ⟨rfl, hb2⟩
    have hb := below_top (w := w) (hb1.alloc hb1.size _) hb2
    clear hb2
    go_wp2_with fail
    go_ret2
    exact ⟨by rw [HF.out]; rfl, hb⟩
end
end Go.Proofs.YtkpjkbkglnabiaaGreatDoor
