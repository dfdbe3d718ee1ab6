/- Texts of oops and of objects' elements. -/
import Derived.Test.YtkpjkbkglnabiaaGreatDoorByte
import Derived.Test.YtkpjkbkglnabiaaGreatDoorGlob
import Derived.Test.YtkpjkbkglnabiaaGreatDoorShelf
import Derived.Lib.ItoaLen
set_option linter.unusedVariables false
namespace Go.Proofs.YtkpjkbkglnabiaaGreatDoor
open Go.RowKit Go.Sort Go.Lib

/-- The table of the powers of ten. -/
def Pow (w : World) : Prop := Lib.TabIs Tryz.prog w "internal/strconv.uint64pow10" .u64 Lib.pow10Tab
theorem pow_named : Tryz.prog.globalNamed "internal/strconv.uint64pow10" = some 1 := by kernel_rfl
theorem Pow.of_block {w w' : World} (h : Pow w) (hb : 1 < w.heap.size → w'.heap[1]? = w.heap[1]?) : Pow w' := by
  unfold Pow Lib.TabIs World.var? at h ⊢
  rw [pow_named] at h ⊢
  simp only [Option.bind_some] at h ⊢
  have hlt : 1 < w.heap.size := by
    rcases Nat.lt_or_ge 1 w.heap.size with h' | h'
    · exact h'
    · rw [Array.getElem?_eq_none h'] at h; cases h
  rw [hb hlt]
  exact h
theorem Pow.below {w w' : World} (h : Pow w) (hb : Below w.heap.size w w') : Pow w' := h.of_block fun hlt => hb.block _ hlt
theorem Step.pow {p p' : HP} {w w' : World} (s : Step p p' w w') (hp : Far p) (h : Pow w) : Pow w' :=
  h.of_block fun hlt => s.block _ hlt (fun hh => (hp _ hh).2 rfl)
theorem below_grow (w : World) (k : Nat) (os : Array Obj) : Below w.heap.size w (grow (w.drewN k) os) :=
  ⟨rfl, rfl, rfl, by simp [grow], fun i hi => by
    show ((w.drewN k).heap ++ os)[i]? = _
    rw [Array.getElem?_append_left (by show i < w.heap.size; omega)]
    rfl⟩

def str (l : List UInt8) : Value := .string ⟨l.toArray⟩
theorem str_add (a b : List UInt8) : (⟨a.toArray⟩ : ByteArray) ++ ⟨b.toArray⟩ = ⟨(a ++ b).toArray⟩ := by
  apply ByteArray.ext
  simp

theorem str_app (a b : List UInt8) : Value.string ((⟨a.toArray⟩ : ByteArray) ++ ⟨b.toArray⟩) = str (a ++ b) := by unfold str; rw [str_add]

theorem itoa_any (n : Int) (h0 : -9223372036854775808 ≤ n) (h1 : n ≤ 9223372036854775807) (w : World) (hp : Pow w) :
    Calls Tryz.prog 69 #[.int .i64 n] w fun e w' => e = .returned (str (Lib.itoa n)) ∧ Below w.heap.size w w' :=
  (Tryz.strconv_Itoa n h0 h1 w hp).mono fun e w' ⟨he, k, os, hw⟩ => ⟨he, hw ▸ below_grow w k os⟩

/-- The small integer of an odd oop. -/
def smallV (o : Nat) : Int := if o < 2147483648 then (o / 2 : Nat) else ((o / 2 : Nat) : Int) - 2147483648
theorem smallV_lo (o : Nat) (ho : o < 4294967296) : -1073741824 ≤ smallV o := by unfold smallV; split <;> omega
theorem smallV_hi (o : Nat) (ho : o < 4294967296) : smallV o ≤ 1073741823 := by unfold smallV; split <;> omega

theorem Value_any (o : Nat) (ho : o < 4294967296) (h1 : o % 2 = 1) (w : World) :
    Calls Tryz.prog 106 #[.int .u32 o] w fun e w' => e = .returned (.tuple #[.int .i64 (smallV o), .int .i64 0]) ∧ w = w' := by
  have HK := Lib.hid (kind_any o ho w)
  rw [show kindM o = 1 by unfold kindM; rw [if_neg (by omega), if_pos h1]] at HK
  by_cases h : o < 2147483648
  · have HF := Lib.hid (show smallV o = (o : Int) / 2 by unfold smallV; rw [if_pos h]; omega)
    clear h1
    go_enter Tryz.func106, Tryz.ntmps106
    go_wp2_with fail
    refine HK.out.mono ?_
    rintro e w1 ⟨rfl, rfl⟩
    go_wp2_with fail
    go_ret2
    exact ⟨by rw [HF.out]; rfl, rfl⟩
  · have HF := Lib.hid (show smallV o = ((o : Int) - 4294967296) / 2 by unfold smallV; rw [if_neg h]; omega)
    have hw : IntKind.i32.wrap (o : Int) = (o : Int) - 4294967296 := by
      have hb : IntKind.i32.bits = 32 := rfl
      have hm : (o : Int) % 4294967296 = o := by omega
      unfold IntKind.wrap
      simp [hb, hm, IntKind.signed]
      omega
    have hw2 : IntKind.i32.wrap (((o : Int) - 4294967296) / 2) = ((o : Int) - 4294967296) / 2 := IntWalk.i32_in _ (by omega)
    have hw3 : IntKind.i64.wrap (((o : Int) - 4294967296) / 2) = ((o : Int) - 4294967296) / 2 := IntWalk.i64_in _ (by omega)
    clear h1
    go_enter Tryz.func106, Tryz.ntmps106
    go_wp2_with fail
    refine HK.out.mono ?_
    rintro e w1 ⟨rfl, rfl⟩
    go_wp2_with fail
    go_ret2
    exact ⟨by rw [HF.out]; rfl, rfl⟩

/-- An oop's text. -/
def oopT (o : Nat) : List UInt8 := if o = 0 then [45] else if o % 2 = 1 then Lib.itoa (smallV o) else 64 :: Lib.itoa ((o / 2 : Nat) : Int)

theorem oshow_any (o : Nat) (ho : o < 4294967296) (w : World) (hp : Pow w) :
    Calls Tryz.prog 68 #[.int .u32 o] w fun e w' => e = .returned (str (oopT o)) ∧ Below w.heap.size w w' := by
  have HK := Lib.hid (kind_any o ho w)
  have h1 := smallV_lo o ho
  have h2 := smallV_hi o ho
  have HI := Lib.hid (itoa_any ((o / 2 : Nat) : Int) (by omega) (by omega) w hp)
  have HS := Lib.hid (itoa_any (smallV o) (by omega) (by omega) w hp)
  by_cases h0 : o = 0
  · subst h0
    rw [show kindM 0 = 0 from rfl] at HK
    go_enter Tryz.func68, Tryz.ntmps68
    go_wp2_with fail
    refine HK.out.mono ?_
    rintro e w1 ⟨rfl, rfl⟩
    go_wp2_with fail
    go_ret
    exact ⟨rfl, Below.refl _ _⟩
  · by_cases ho1 : o % 2 = 1
    · rw [show kindM o = 1 by unfold kindM; rw [if_neg h0, if_pos ho1]] at HK
      have HF := Lib.hid (show oopT o = Lib.itoa (smallV o) by unfold oopT; rw [if_neg h0, if_pos ho1])
      have HV := Lib.hid (Value_any o ho ho1 w)
      clear h0 ho1
      generalize smallV o = v at *
      go_enter Tryz.func68, Tryz.ntmps68
      go_wp2_with fail
      refine HK.out.mono ?_
      rintro e w1 ⟨rfl, rfl⟩
      go_wp2_with fail
      refine HV.out.mono ?_
      rintro e w1 ⟨rfl, rfl⟩
      go_wp2_with fail
      refine HS.out.mono ?_
      rintro e w1 ⟨rfl, hb⟩
      unfold str
      go_wp2_with fail
      go_ret
      exact ⟨by rw [HF.out]; rfl, hb⟩
    · rw [show kindM o = 2 by unfold kindM; rw [if_neg h0, if_neg ho1]] at HK
      have HF := Lib.hid (show oopT o = [64] ++ Lib.itoa ((o / 2 : Nat) : Int) by unfold oopT; rw [if_neg h0, if_neg ho1]; rfl)
      have hq : ((o / 2 : Nat) : Int) = (o : Int) / 2 := by omega
      rw [hq] at HI
      rw [show Lib.itoa ((o / 2 : Nat) : Int) = Lib.itoa ((o : Int) / 2) by rw [hq]] at HF
      have hlen := Lib.itoa_length_le ((o : Int) / 2) (by omega) (by omega)
      have hl9 : ¬ 9223372036854775807 < 1 + (Lib.itoa ((o : Int) / 2)).length := by omega
      clear h0 ho1 hq hlen
      go_enter Tryz.func68, Tryz.ntmps68
      go_wp2_with fail
      refine HK.out.mono ?_
      rintro e w1 ⟨rfl, rfl⟩
      go_wp2_with fail
      refine HI.out.mono ?_
      rintro e w1 ⟨rfl, hb⟩
      unfold str
      go_wp2_with fail
      go_ret
      exact ⟨by rw [HF.out, ← str_app]; rfl, hb⟩

/-- What the readers give for a text: 0 where they refuse. -/
def HM.byteN (h : HM) (o : Nat) (i : Int) : Nat := if h.lookE o i [2] = 0 then fb h o i.toNat else 0
def HM.readN (h : HM) (o : Nat) (i : Int) (fs : List Nat) : Nat := if h.lookE o i fs = 0 then fw h o i.toNat else 0
theorem fb_lt (h : HM) (o k : Nat) : fb h o k < 256 := by unfold fb byteOf; exact Nat.mod_lt _ (by omega)
theorem HM.byteN_lt (h : HM) (o : Nat) (i : Int) : h.byteN o i < 256 := by unfold HM.byteN; have := fb_lt h o i.toNat; split <;> omega
theorem HM.readN_lt {h : HM} (f : h.Fit) (o : Nat) (i : Int) (fs : List Nat) : h.readN o i fs < 4294967296 := by unfold HM.readN; have : fw h o i.toNat < 4294967296 := f.w _; split <;> omega
/-- An element's text. -/
def HM.elT (h : HM) (o : Nat) (i : Int) : List UInt8 :=
  if (h.hd (o / 2)).fmt = 2 then Lib.itoa (h.byteN o i) else if (h.hd (o / 2)).fmt = 3 then Lib.itoa (h.readN o i [3]) else oopT (h.readN o i [1, 4])

set_option maxHeartbeats 1000000 in
theorem element_any {w : World} {p : HP} {h : HM} (H : HAt w p h) (f : h.Fit) (hh : h.Heads) (hs : Spares w) (hp : Pow w) (o : Nat) (ho : o < 4294967296) (i : Int) :
    Calls Tryz.prog 72 #[ptr p.g, .int .u32 o, (h.hd (o / 2)).val, .int .i64 i] w fun e w' => e = .returned (str (h.elT o i)) ∧ Below w.heap.size w w' := by
  have hb0 : ∀ o, Below w.heap.size w (w.alloc o) := fun o => (Below.refl _ _).alloc (Nat.le_refl _) _
  have HB := Lib.hid (fun x => byte_any (H.below (hb0 x)) f hh (hs.below (hb0 x)) o ho i)
  have HW := Lib.hid (fun x => word_any (H.below (hb0 x)) f hh (hs.below (hb0 x)) o ho i)
  have HG := Lib.hid (fun x => get_any (H.below (hb0 x)) f hh (hs.below (hb0 x)) o ho i)
  have HBV := Lib.hid (show h.byteV o i = .tuple #[.int .u8 (h.byteN o i : Nat), .int .i64 (h.lookE o i [2])] from rfl)
  have HWV := Lib.hid (show h.readV o i [3] = .tuple #[.int .u32 (h.readN o i [3] : Nat), .int .i64 (h.lookE o i [3])] from rfl)
  have HGV := Lib.hid (show h.readV o i [1, 4] = .tuple #[.int .u32 (h.readN o i [1, 4] : Nat), .int .i64 (h.lookE o i [1, 4])] from rfl)
  rw [HBV.out] at HB
  rw [HWV.out] at HW
  rw [HGV.out] at HG
  have b1 := h.byteN_lt o i
  have b2 := HM.readN_lt f o i [3]
  have b3 := HM.readN_lt f o i [1, 4]
  have HI1 := Lib.hid (fun w1 (hb : Below w.heap.size w w1) => itoa_any (h.byteN o i : Nat) (by omega) (by omega) w1 (hp.below hb))
  have HI2 := Lib.hid (fun w1 (hb : Below w.heap.size w w1) => itoa_any (h.readN o i [3] : Nat) (by omega) (by omega) w1 (hp.below hb))
  have HI3 := Lib.hid (fun w1 (hb : Below w.heap.size w w1) => oshow_any (h.readN o i [1, 4] : Nat) b3 w1 (hp.below hb))
  have hfit := HM.hd_fit f (o / 2)
  have HX := Lib.hid (show (h.hd (o / 2)).val = .agg #[.int .i64 (h.hd (o / 2)).size, .int .i64 (h.hd (o / 2)).fmt, .int .i64 (h.hd (o / 2)).spare, .int .u32 (h.hd (o / 2)).cls, .int .u32 (h.hd (o / 2)).ser] from rfl)
  have HT := Lib.hid (show h.elT o i = if (h.hd (o / 2)).fmt = 2 then Lib.itoa (h.byteN o i) else if (h.hd (o / 2)).fmt = 3 then Lib.itoa (h.readN o i [3]) else oopT (h.readN o i [1, 4]) from rfl)
  rw [HX.out]
  clear HX HBV HWV HGV
  generalize h.hd (o / 2) = x at *
  obtain ⟨n, t, s, c, r⟩ := x
  dsimp only at *
  generalize h.byteN o i = v1 at *
  generalize h.readN o i [3] = v2 at *
  generalize h.readN o i [1, 4] = v3 at *
  generalize h.lookE o i [2] = E1 at *
  generalize h.lookE o i [3] = E2 at *
  generalize h.lookE o i [1, 4] = E3 at *
  unfold ptr at HB HW HG ⊢
  by_cases h2 : t = 2
  · subst h2
    rw [if_pos rfl] at HT
    go_enter Tryz.func72, Tryz.ntmps72
    go_wp2_with fail
    refine (HB.out _).mono ?_
    rintro e w1 ⟨rfl, hb1⟩
    have hb := below_top (hb0 _) hb1
    clear hb1
    go_wp2_with fail
    refine (HI1.out _ hb).mono ?_
    rintro e w2 ⟨rfl, hb2⟩
    unfold str
    go_wp2_with fail
    go_ret
    exact ⟨by rw [HT.out]; rfl, below_top hb hb2⟩
  · rw [if_neg h2] at HT
    have n2 : ((t : Int) == 2) = false := by simp; omega
    by_cases h3 : t = 3
    · subst h3
      rw [if_pos rfl] at HT
      go_enter Tryz.func72, Tryz.ntmps72
      go_wp2_with fail
      refine (HW.out _).mono ?_
      rintro e w1 ⟨rfl, hb1⟩
      have hb := below_top (hb0 _) hb1
      clear hb1
      go_wp2_with fail
      refine (HI2.out _ hb).mono ?_
      rintro e w2 ⟨rfl, hb2⟩
      unfold str
      go_wp2_with fail
      go_ret
      exact ⟨by rw [HT.out]; rfl, below_top hb hb2⟩
    · rw [if_neg h3] at HT
      have n3 : ((t : Int) == 3) = false := by simp; omega
      clear h2 h3
      go_enter Tryz.func72, Tryz.ntmps72
      go_wp2_with fail
      refine (HG.out _).mono ?_
      rintro e w1 ⟨rfl, hb1⟩
      have hb := below_top (hb0 _) hb1
      clear hb1
      go_wp2_with fail
      refine (HI3.out _ hb).mono ?_
      rintro e w2 ⟨rfl, hb2⟩
      unfold str
      go_wp2_with fail
      go_ret
      exact ⟨by rw [HT.out]; rfl, below_top hb hb2⟩
end Go.Proofs.YtkpjkbkglnabiaaGreatDoor
