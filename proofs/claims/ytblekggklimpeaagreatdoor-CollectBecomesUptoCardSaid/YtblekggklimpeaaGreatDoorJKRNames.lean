/- The document's Names. -/
/- The document's put. -/
/- The document's Objects. -/
/- The document's Walk. -/
/- The document's Live. -/
/- The document's Plan. -/
/- The document's moved. -/
/- The document's Collect. -/
/- CollectLives, walked: it answers true. -/
/- CollectCollects, walked: it answers true. -/
/- CollectWeak's closure: where an oop goes, or what root 0 is. -/
/- Right behind a collection another one finds nothing to do. Plain data. -/
import Derived.Test.YtblekggklimpeaaGreatDoorJKBuilt
import Derived.Test.YtblekggklimpeaaGreatDoorJUntil
import Derived.Test.YtblekggklimpeaaGreatDoorJSoAll
import Derived.Test.YtblekggklimpeaaGreatDoorJKCol
import Derived.Deep.RegionHeld3
import Derived.BigQuiet
set_option linter.unusedVariables false
set_option linter.unusedSimpArgs false
set_option linter.unusedSectionVars false
namespace Go.Proofs.YtblekggklimpeaaGreatDoor
open Go.RowKit
attribute [local go_sem] Oper.semAt_some
theorem one_intsK (l : List Nat) : ∀ u ∈ ints l, u.oneCell' = true := by
  intro u hu; unfold ints at hu; obtain ⟨x, _, rfl⟩ := List.mem_map.1 hu; rfl
theorem ints_appK (a b : List Nat) : ints (a ++ b) = ints a ++ ints b := List.map_append
theorem info_intK : (Tryz.prog.info? 3).map (fun i => (i.zero, i.size, i.bytes)) = some (some (.int .i64 0), 1, 8) := by kernel_rfl
theorem ownI_new (w : World) (x : Int) : (w.alloc (.cells #[.int .i64 x] 3)).ownsRow w.heap.size 3 1 (.slice (some ⟨w.heap.size, 0, none⟩) 1 1) 1 [.int .i64 x] :=
  ⟨rfl, .inr ⟨w.heap.size, 1, #[.int .i64 x], rfl, Nat.le_refl _, heap_alloc_new w _, Nat.le_refl _, by decide, by simp, rfl⟩⟩
theorem wrS3 {a f : Nat} (h : a + 3 + f ≤ 1048576) : wrap64 ((a : Int) + 3) = (a : Int) + 3 := IntWalk.wrap64_in _ (by omega)
theorem wrS4 {a f : Nat} (h : a + 3 + f ≤ 1048576) : wrap64 ((a : Int) + 3 + (f : Int)) = (a : Int) + 3 + (f : Int) := IntWalk.wrap64_in _ (by omega)
section
variable {w : World} {h : HM} {l : List Ob} {A A' : Option Addr} {n c n' c' : Nat}
/-- What Names answers. -/
def RNamP (p : Nat) (b : Ob) (w : World) (e : Ending) (w' : World) : Prop :=
  ∃ v, e = .returned (.tuple #[v, .int .i64 (holdN p b : Nat)]) ∧ w'.ownsRow w.heap.size 3 1 v (nmsK p b).length (ints (nmsK p b)) ∧ Below w.heap.size w w'
set_option maxRecDepth 100000 in
set_option maxHeartbeats 4000000 in
theorem rnames_any (G : h.Good l) (hr : Reads w w.heap.size 1 A n (u32s h.words)) {k : Nat} (hk : k < l.length) :
    Calls Tryz.prog 37 #[StV A n c A' n' c', .int .i64 (posOf (l.take k) : Nat)] w (RNamP (posOf (l.take k)) (l[k]) w) := by
  obtain ⟨-, -, h1, h3⟩ := w0_parts G hk
  have HF := Lib.hid (fun (w' : World) (hb : Below w.heap.size w w') => rformat_any (A' := A') (n' := n') (c' := c') (c := c) G ((hr.below hb).more hb.size) hk)
  have HZ := Lib.hid (fun (w' : World) (hb : Below w.heap.size w w') => rsize_any (A' := A') (n' := n') (c' := c') (c := c) G ((hr.below hb).more hb.size) hk)
  have hwl : h.words.length ≤ 1048576 := by have := G.fit.room; have := G.fit.hi; omega
  have h3' : posOf (l.take k) + 3 + (l[k]).fs.length ≤ 1048576 := by omega
  have hB1 := (Below.refl w.heap.size w).alloc (Nat.le_refl _) (.cells #[.slice A n c, .slice A' n' c'] 32)
  have X1 := Blk.new w 32 #[.slice A n c, .slice A' n' c']
  have HB1 := Lib.hid hB1
  have HX1 := Lib.hid X1
  have HS1 := Lib.hid (World.size_alloc w (.cells #[.slice A n c, .slice A' n' c'] 32))
  obtain ⟨i0, hi0, hz0, hz1, hz2⟩ := info_parts info_intK
  generalize posOf (l.take k) = at_ at *
  have HN1 := Lib.hid (fun (hp : (l[k]).x.fmt ≠ 1) (hq : (l[k]).x.fmt ≠ 4) => nmsK_no (p := at_) (b := l[k]) hp hq)
  have HN2 := Lib.hid (fun (hp : (l[k]).x.fmt = 1 ∨ (l[k]).x.fmt = 4) => nmsK_yes (p := at_) (b := l[k]) hp)
  have hHO : holdN at_ (l[k]) = if (l[k]).x.fmt = 4 then 1 else (nmsK at_ (l[k])).length := rfl
  have HHO := Lib.hid hHO
  generalize hnl : nmsK at_ (l[k]) = nl at *
  generalize hhn : holdN at_ (l[k]) = hn at *
  have HPP : RNamP at_ (l[k]) w = fun e w' => ∃ v, e = .returned (.tuple #[v, .int .i64 (hn : Nat)]) ∧ w'.ownsRow w.heap.size 3 1 v nl.length (ints nl) ∧ Below w.heap.size w w' := by
    unfold RNamP; rw [hnl, hhn]
  rw [HPP]
  clear HPP hnl hhn hHO h1 h3 hB1 X1 hr
  generalize (l[k]).x.fmt = f at *
  generalize (l[k]).fs.length = fl at *
  clear hk G
  have hw1 : wrap64 ((at_ : Int) + 1) = (at_ : Int) + 1 := by first | exact IntWalk.wrap64_in _ (by omega) | (unfold wrap64; omega)
  unfold StV at HF HZ ⊢
  have hcase : ¬ (f = 1 ∨ f = 4) ∨ f = 1 ∨ f = 4 := by omega
  rcases hcase with hfp | rfl | rfl
  · have hn1 := HN1.out (fun e => hfp (.inl e)) (fun e => hfp (.inr e))
    have hd1 : ((f : Int) == 1) = false := by simp; omega
    have hd4 : ((f : Int) == 4) = false := by simp; omega
    have hho := HHO.out
    rw [if_neg (fun e => hfp (.inr e)), hn1] at hho
    subst hho
    subst hn1
    clear hfp HN1 HN2 HHO HZ
    go_enter Tryz.func37, Tryz.ntmps37
    go_upto_region 2 with fail
    have hb2 := HB1.out.alloc HB1.out.size (.cells #[.int .i64 ((at_ : Int) + 1)] 3)
    have HX2 := Lib.hid (HX1.out.alloc (.cells #[.int .i64 ((at_ : Int) + 1)] 3))
    have hown := ownI_new (w.alloc (.cells #[.slice A n c, .slice A' n' c'] 32)) ((at_ : Int) + 1)
    rw [World.size_alloc] at hown
    have HOW2 := Lib.hid (show ((w.alloc (.cells #[.slice A n c, .slice A' n' c'] 32)).alloc (.cells #[.int .i64 ((at_ : Int) + 1)] 3)).ownsRow w.heap.size 3 1 (.slice (some ⟨w.heap.size + 1, 0, none⟩) 1 1) 1 (ints [at_ + 1]) from own_base hown (by omega))
    have x0 := HX2.out.cell 0
    have x1 := HX2.out.cell 1
    have HFC := Lib.hid (HF.out _ hb2)
    have HB2 := Lib.hid hb2
    have hs2 : w.heap.size < ((w.alloc (.cells #[.slice A n c, .slice A' n' c'] 32)).alloc (.cells #[.int .i64 ((at_ : Int) + 1)] 3)).heap.size := by simp; omega
    clear hb2 hown HB1 HX1 HF
    generalize ((w.alloc (.cells #[.slice A n c, .slice A' n' c'] 32)).alloc (.cells #[.int .i64 ((at_ : Int) + 1)] 3)) = W2 at *
    go_wp2_with fail
    refine HFC.out.mono ?_
    rintro e W3 ⟨rfl, hb3⟩
    have HB3 := Lib.hid (below_top HB2.out hb3)
    have HOW3 := Lib.hid (own_below HOW2.out hb3)
    have HX3 := Lib.hid (HX2.out.below hb3 HX2.out.lt)
    clear hb3 HFC HB2 HOW2 HX2 x0 x1 hs2
    go_wp2_with fail
    go_ret2
    exact ⟨_, rfl, HOW3.out, HB3.out⟩
  · have hn1 := HN2.out (.inl rfl)
    have hho := HHO.out
    rw [if_neg (by decide), hn1] at hho
    subst hho
    subst hn1
    clear HN1 HN2 HHO
    go_enter Tryz.func37, Tryz.ntmps37
    go_upto_region 2 with fail
    have hb2 := HB1.out.alloc HB1.out.size (.cells #[.int .i64 ((at_ : Int) + 1)] 3)
    have HX2 := Lib.hid (HX1.out.alloc (.cells #[.int .i64 ((at_ : Int) + 1)] 3))
    have hown := ownI_new (w.alloc (.cells #[.slice A n c, .slice A' n' c'] 32)) ((at_ : Int) + 1)
    rw [World.size_alloc] at hown
    have HOW2 := Lib.hid (show ((w.alloc (.cells #[.slice A n c, .slice A' n' c'] 32)).alloc (.cells #[.int .i64 ((at_ : Int) + 1)] 3)).ownsRow w.heap.size 3 1 (.slice (some ⟨w.heap.size + 1, 0, none⟩) 1 1) 1 (ints [at_ + 1]) from own_base hown (by omega))
    have x0 := HX2.out.cell 0
    have x1 := HX2.out.cell 1
    have HFC := Lib.hid (HF.out _ hb2)
    have HB2 := Lib.hid hb2
    have hs2 : w.heap.size < ((w.alloc (.cells #[.slice A n c, .slice A' n' c'] 32)).alloc (.cells #[.int .i64 ((at_ : Int) + 1)] 3)).heap.size := by simp; omega
    clear hb2 hown HB1 HX1 HF
    generalize ((w.alloc (.cells #[.slice A n c, .slice A' n' c'] 32)).alloc (.cells #[.int .i64 ((at_ : Int) + 1)] 3)) = W2 at *
    go_wp2_with fail
    refine HFC.out.mono ?_
    rintro e W3 ⟨rfl, hb3⟩
    have HB3 := Lib.hid (below_top HB2.out hb3)
    have HOW3 := Lib.hid (own_below HOW2.out hb3)
    have HX3 := Lib.hid (HX2.out.below hb3 HX2.out.lt)
    clear hb3 HFC HB2 HOW2 HX2 x0 x1 hs2
    go_wp2_with fail
    go_loopw [6, 8] (fun lv iv wr => ∃ i : Nat, iv = .int .i64 i ∧ i ≤ fl ∧ wr.ownsRow w.heap.size 3 1 lv (i + 1) (ints (fldL at_ i)) ∧ Blk wr w.heap.size 32 #[.slice A n c, .slice A' n' c'] ∧ Below w.heap.size w wr) (fun _ iv _ => fl - (intOf iv).toNat)
    case atStart => exact ⟨0, rfl, Nat.zero_le _, HOW3.out, HX3.out, HB3.out⟩
    case round =>
      clear HB3 HOW3 HX3
      obtain ⟨i, rfl, hi, hown, hx, hb⟩ := hrel
      have HOW := Lib.hid hown
      have HX := Lib.hid hx
      have HB := Lib.hid hb
      have x0 := hx.cell 0
      have x1 := hx.cell 1
      have HSZ := Lib.hid (HZ.out wr hb)
      clear hown hx hb
      have hww := Nat.le_trans (Nat.add_le_add_left hi (at_ + 3)) h3'
      by_cases hlt : i < fl
      · have hw3 : wrap64 ((at_ : Int) + 3) = (at_ : Int) + 3 := wrS3 h3'
        have hw4 : wrap64 ((at_ : Int) + 3 + (i : Int)) = (at_ : Int) + 3 + (i : Int) := wrS4 hww
        have HSN := Lib.hid (fldL_snoc at_ i)
        have HLT := Lib.hid hlt
        have hi2 : i ≤ 1048576 := Nat.le_trans (Nat.le_add_left _ _) hww
        go_wp2_with fail
        refine HSZ.out.mono ?_
        rintro e w5 ⟨rfl, hb5⟩
        have HOW5 := Lib.hid (own_below HOW.out hb5)
        have HX5 := Lib.hid (HX.out.below hb5 HX.out.lt)
        have HB5 := Lib.hid (below_top HB.out hb5)
        clear hb5 HSZ HOW HX HB x0 x1
        have hs5 := HB5.out.size
        go_wp2_with (at_builtin; refine wpList_append_any _ rfl (.tmp 28) (.tmp 33) _ rfl w.heap.size 3 i0 _ 1 8 Tryz.underlying76 hi0 hz0 hz1 hz2 rfl (by omega) u6 (i + 1) _ rfl (HOW5.out.alloc _) (w5.heap.size + 1) (some ⟨w5.heap.size, 0, none⟩) 1 1 [.int .i64 ((at_ : Int) + 3 + (i : Int))] rfl ⟨rfl, fun _ => ⟨_, rfl, by first | exact Nat.zero_lt_one | decide | simp, cell_one_new _ _ _⟩⟩ (fun u hu => by rcases List.mem_singleton.1 hu with rfl; rfl) (by simp only [maxLen]; omega) (by omega) (by first | omega | (simp; omega)) ?_; intro v1 w6 hown6 hgrow hat6)
        have hb6 := below_grown (Nat.le_refl _) (HB5.out.alloc hs5 _) hgrow (fun q hq => (HOW5.out.lt q hq).1)
        have hx6 := HX5.out
        go_roundw
        case rel => exact ⟨i + 1, by go_num, HLT.out, by rw [HSN.out, ints_appK]; exact hown6, (HX5.out.alloc _).same (hgrow.block _ (by have := HX5.out.lt; simp; omega) (fun e => own_ne_blk HOW5.out HX5.out (by decide) (by first | exact e | exact e.symm))), hb6⟩
        case measure => have := HLT.out; simp [intOf]; omega
      · obtain rfl : i = fl := by omega
        have hlt' : decide ((i : Int) < (i : Int)) = false := by simp
        have HE := Lib.hid (And.intro HOW.out HB.out)
        clear HOW HB HX hi hlt hww
        go_wp2_with fail
        refine HSZ.out.mono ?_
        rintro e w5 ⟨rfl, hb5⟩
        have HOW5 := Lib.hid (own_below HE.out.1 hb5)
        have HB5 := Lib.hid (below_top HE.out.2 hb5)
        obtain ⟨A5, c5, hv5⟩ := own_val HOW5.out
        subst hv5
        clear hb5 HSZ HE x0 x1
        go_wp2_with fail
        go_ret2
        exact ⟨_, by rw [fldL_len]; rfl, by rw [fldL_len]; exact HOW5.out, HB5.out⟩
  · have hn1 := HN2.out (.inr rfl)
    have hho := HHO.out
    rw [if_pos rfl] at hho
    subst hho
    subst hn1
    clear HN1 HN2 HHO
    go_enter Tryz.func37, Tryz.ntmps37
    go_upto_region 2 with fail
    have hb2 := HB1.out.alloc HB1.out.size (.cells #[.int .i64 ((at_ : Int) + 1)] 3)
    have HX2 := Lib.hid (HX1.out.alloc (.cells #[.int .i64 ((at_ : Int) + 1)] 3))
    have hown := ownI_new (w.alloc (.cells #[.slice A n c, .slice A' n' c'] 32)) ((at_ : Int) + 1)
    rw [World.size_alloc] at hown
    have HOW2 := Lib.hid (show ((w.alloc (.cells #[.slice A n c, .slice A' n' c'] 32)).alloc (.cells #[.int .i64 ((at_ : Int) + 1)] 3)).ownsRow w.heap.size 3 1 (.slice (some ⟨w.heap.size + 1, 0, none⟩) 1 1) 1 (ints [at_ + 1]) from own_base hown (by omega))
    have x0 := HX2.out.cell 0
    have x1 := HX2.out.cell 1
    have HFC := Lib.hid (HF.out _ hb2)
    have HB2 := Lib.hid hb2
    have hs2 : w.heap.size < ((w.alloc (.cells #[.slice A n c, .slice A' n' c'] 32)).alloc (.cells #[.int .i64 ((at_ : Int) + 1)] 3)).heap.size := by simp; omega
    clear hb2 hown HB1 HX1 HF
    generalize ((w.alloc (.cells #[.slice A n c, .slice A' n' c'] 32)).alloc (.cells #[.int .i64 ((at_ : Int) + 1)] 3)) = W2 at *
    go_wp2_with fail
    refine HFC.out.mono ?_
    rintro e W3 ⟨rfl, hb3⟩
    have HB3 := Lib.hid (below_top HB2.out hb3)
    have HOW3 := Lib.hid (own_below HOW2.out hb3)
    have HX3 := Lib.hid (HX2.out.below hb3 HX2.out.lt)
    clear hb3 HFC HB2 HOW2 HX2 x0 x1 hs2
    go_wp2_with fail
    go_loopw [6, 8] (fun lv iv wr => ∃ i : Nat, iv = .int .i64 i ∧ i ≤ fl ∧ wr.ownsRow w.heap.size 3 1 lv (i + 1) (ints (fldL at_ i)) ∧ Blk wr w.heap.size 32 #[.slice A n c, .slice A' n' c'] ∧ Below w.heap.size w wr) (fun _ iv _ => fl - (intOf iv).toNat)
    case atStart => exact ⟨0, rfl, Nat.zero_le _, HOW3.out, HX3.out, HB3.out⟩
    case round =>
      clear HB3 HOW3 HX3
      obtain ⟨i, rfl, hi, hown, hx, hb⟩ := hrel
      have HOW := Lib.hid hown
      have HX := Lib.hid hx
      have HB := Lib.hid hb
      have x0 := hx.cell 0
      have x1 := hx.cell 1
      have HSZ := Lib.hid (HZ.out wr hb)
      clear hown hx hb
      have hww := Nat.le_trans (Nat.add_le_add_left hi (at_ + 3)) h3'
      by_cases hlt : i < fl
      · have hw3 : wrap64 ((at_ : Int) + 3) = (at_ : Int) + 3 := wrS3 h3'
        have hw4 : wrap64 ((at_ : Int) + 3 + (i : Int)) = (at_ : Int) + 3 + (i : Int) := wrS4 hww
        have HSN := Lib.hid (fldL_snoc at_ i)
        have HLT := Lib.hid hlt
        have hi2 : i ≤ 1048576 := Nat.le_trans (Nat.le_add_left _ _) hww
        go_wp2_with fail
        refine HSZ.out.mono ?_
        rintro e w5 ⟨rfl, hb5⟩
        have HOW5 := Lib.hid (own_below HOW.out hb5)
        have HX5 := Lib.hid (HX.out.below hb5 HX.out.lt)
        have HB5 := Lib.hid (below_top HB.out hb5)
        clear hb5 HSZ HOW HX HB x0 x1
        have hs5 := HB5.out.size
        go_wp2_with (at_builtin; refine wpList_append_any _ rfl (.tmp 28) (.tmp 33) _ rfl w.heap.size 3 i0 _ 1 8 Tryz.underlying76 hi0 hz0 hz1 hz2 rfl (by omega) u6 (i + 1) _ rfl (HOW5.out.alloc _) (w5.heap.size + 1) (some ⟨w5.heap.size, 0, none⟩) 1 1 [.int .i64 ((at_ : Int) + 3 + (i : Int))] rfl ⟨rfl, fun _ => ⟨_, rfl, by first | exact Nat.zero_lt_one | decide | simp, cell_one_new _ _ _⟩⟩ (fun u hu => by rcases List.mem_singleton.1 hu with rfl; rfl) (by simp only [maxLen]; omega) (by omega) (by first | omega | (simp; omega)) ?_; intro v1 w6 hown6 hgrow hat6)
        have hb6 := below_grown (Nat.le_refl _) (HB5.out.alloc hs5 _) hgrow (fun q hq => (HOW5.out.lt q hq).1)
        have hx6 := HX5.out
        go_roundw
        case rel => exact ⟨i + 1, by go_num, HLT.out, by rw [HSN.out, ints_appK]; exact hown6, (HX5.out.alloc _).same (hgrow.block _ (by have := HX5.out.lt; simp; omega) (fun e => own_ne_blk HOW5.out HX5.out (by decide) (by first | exact e | exact e.symm))), hb6⟩
        case measure => have := HLT.out; simp [intOf]; omega
      · obtain rfl : i = fl := by omega
        have hlt' : decide ((i : Int) < (i : Int)) = false := by simp
        have HE := Lib.hid (And.intro HOW.out HB.out)
        clear HOW HB HX hi hlt hww
        go_wp2_with fail
        refine HSZ.out.mono ?_
        rintro e w5 ⟨rfl, hb5⟩
        have HOW5 := Lib.hid (own_below HE.out.1 hb5)
        have HB5 := Lib.hid (below_top HE.out.2 hb5)
        obtain ⟨A5, c5, hv5⟩ := own_val HOW5.out
        subst hv5
        clear hb5 HSZ HE x0 x1
        go_wp2_with fail
        go_ret2
        exact ⟨_, rfl, by rw [fldL_len]; exact HOW5.out, HB5.out⟩
end
end Go.Proofs.YtblekggklimpeaaGreatDoor

namespace Go.Proofs.YtblekggklimpeaaGreatDoor
open Go.RowKit
attribute [local go_sem] Oper.semAt_some
theorem rkind_any (o : Nat) (ho : o < 4294967296) (w : World) :
    Calls Tryz.prog 59 #[.int .u32 o] w fun e w' => e = .returned (.int .i64 (kindM o)) ∧ w = w' := by
  by_cases h0 : o = 0
  · subst h0
    go_enter Tryz.func59, Tryz.ntmps59
    go_wp2_with fail
    go_ret
    exact ⟨rfl, rfl⟩
  · have hb : ((o : Int) == 0) = false := by simpa using h0
    by_cases h2 : o % 2 = 1
    · have h1 : (((o : Int) % 2) == 1) = true := by simp; omega
      have HK := Lib.hid (show kindM o = 1 by simp [kindM, h0, h2]); clear h2 h0
      go_enter Tryz.func59, Tryz.ntmps59
      go_wp2_with fail
      go_ret
      exact ⟨by rw [HK.out]; rfl, rfl⟩
    · have h1 : (((o : Int) % 2) == 1) = false := by simp; omega
      have HK := Lib.hid (show kindM o = 2 by simp [kindM, h0, h2]); clear h2 h0
      go_enter Tryz.func59, Tryz.ntmps59
      go_wp2_with fail
      go_ret
      exact ⟨by rw [HK.out]; rfl, rfl⟩
theorem own_ne_own {w : World} {B B' s s' n n' : Nat} {e e' : TypeId} {v v' : Value} {xs xs' : List Value} (h : w.ownsRow B e s v n xs) (k : w.ownsRow B' e' s' v' n' xs') (hne : e ≠ e') : ∀ q, v.ownBlock = some q → v'.ownBlock ≠ some q := by
  intro q hq
  rcases k.2 with ⟨rfl, _⟩ | ⟨g', cap, cur, rfl, _, h3, _⟩
  · intro e; cases e
  · intro e2
    injection e2 with e2
    subst e2
    exact own_ne_blk h h3 hne hq
theorem kind2 {o : Nat} (h : kindM o = 2) : o = 2 * (o / 2) ∧ o ≠ 0 := by
  unfold kindM at h
  split at h
  · cases h
  · split at h
    · cases h
    · omega
end Go.Proofs.YtblekggklimpeaaGreatDoor

namespace Go.Proofs.YtblekggklimpeaaGreatDoor
open Go.RowKit
attribute [local go_sem] Oper.semAt_some
theorem wrK {n : Nat} (h : n ≤ 1048576) : wrap64 (n : Int) = (n : Int) := IntWalk.wrap64_in _ (by omega)
theorem wrK3 {n : Nat} (h : n ≤ 1048576) : wrap64 ((n : Int) + 3) = (n : Int) + 3 := IntWalk.wrap64_in _ (by omega)
theorem wrK4 {n : Nat} (h : n ≤ 1048576) : wrap64 (3 + (n : Int)) = 3 + (n : Int) := IntWalk.wrap64_in _ (by omega)
theorem wrK5 {a n : Nat} (h : a + 3 + n ≤ 1048576) : wrap64 ((a : Int) + (3 + (n : Int))) = (a : Int) + (3 + (n : Int)) := IntWalk.wrap64_in _ (by omega)
theorem leK {a b : Nat} (h : a + 3 ≤ b) : decide ((a : Int) + 3 ≤ (b : Int)) = true := decide_eq_true (by omega)
theorem measK {a f n : Nat} (h : a + 3 + f ≤ n) : n + 3 - ((a : Int) + (3 + (f : Int))).toNat < n + 3 - ((a : Int)).toNat := by omega
theorem posK {a f p : Nat} (h : p = a + (3 + f)) : (a : Int) + (3 + (f : Int)) = (p : Int) := by omega
theorem ltK {n : Nat} : decide ((n : Int) + 3 ≤ (n : Int)) = false := decide_eq_false (by omega)
theorem idxL_len (l : List Ob) : (idxL l).length = l.length := by unfold idxL; simp
theorem idxL_take (l : List Ob) {k : Nat} (hk : k < l.length) : (idxL l).take (k + 1) = (idxL l).take k ++ [posOf (l.take k)] := by
  rw [List.take_add_one, List.getElem?_eq_getElem (by rw [idxL_len]; exact hk)]
  unfold idxL
  simp
section
variable {w : World} {h : HM} {l : List Ob} {A A' : Option Addr} {n c n' c' : Nat}
/-- What Objects answers. -/
def IntsP (xs : List Nat) (w : World) (e : Ending) (w' : World) : Prop :=
  ∃ v, e = .returned v ∧ w'.ownsRow w.heap.size 3 1 v xs.length (ints xs) ∧ Below w.heap.size w w'
set_option maxRecDepth 100000 in
set_option maxHeartbeats 4000000 in
theorem robjects_any (G : h.Good l) (hr : Reads w w.heap.size 1 A n (u32s h.words)) :
    Calls Tryz.prog 36 #[StV A n c A' n' c'] w (IntsP (idxL l) w) := by
  have hln : n = h.words.length := by have := hr.1; rw [u32s_len] at this; omega
  subst hln
  have hwl : h.words.length ≤ 1048576 := by have := G.fit.room; have := G.fit.hi; omega
  have hBX := (Below.refl w.heap.size w).alloc (Nat.le_refl _) (.cells #[.slice A h.words.length c, .slice A' n' c'] 32)
  have HB := Lib.hid hBX
  have HX := Lib.hid (Blk.new w 32 #[.slice A h.words.length c, .slice A' n' c'])
  have HR := Lib.hid ((hr.below hBX).more hBX.size)
  have HG := Lib.hid G
  have hl2 : l.length ≤ 1048576 := by have h1 := oopsL_le G; rw [oopsL_len] at h1; exact h1
  have HEND := Lib.hid (show posOf (l.take l.length) = h.words.length by rw [List.take_length, G.laid.words, List.length_cons]; unfold posOf; omega)
  obtain ⟨i0, hi0, hz0, hz1, hz2⟩ := info_parts info_intK
  clear hBX hr G
  unfold StV
  go_enter Tryz.func36, Tryz.ntmps36
  go_wp2_with fail
  have hw1 : w.heap.size < (w.alloc (.cells #[.slice A h.words.length c, .slice A' n' c'] 32)).heap.size := by simp
  generalize w.alloc (.cells #[.slice A h.words.length c, .slice A' n' c'] 32) = W1 at *
  go_loopw [3, 4] (fun lv iv wr => ∃ k : Nat, k ≤ l.length ∧ iv = .int .i64 (posOf (l.take k) : Nat) ∧ wr.ownsRow W1.heap.size 3 1 lv k (ints ((idxL l).take k)) ∧ Below W1.heap.size W1 wr) (fun _ iv _ => h.words.length + 3 - (intOf iv).toNat)
  case atStart => exact ⟨0, by omega, rfl, ⟨rfl, .inl ⟨rfl, rfl⟩⟩, Below.refl _ _⟩
  case round =>
    obtain ⟨k, hk, rfl, hown, hb⟩ := hrel
    have HOW := Lib.hid hown
    have HBR := Lib.hid hb
    clear hown hb
    have x0 := (HX.out.below HBR.out HX.out.lt).cell 0
    by_cases hlt : k < l.length
    · obtain ⟨h0, h1, -, h3⟩ := w0_parts HG.out hlt
      have hps : posOf (l.take (k + 1)) = posOf (l.take k) + (3 + (l[k]).fs.length) := by
        unfold posOf
        rw [List.take_add_one, List.getElem?_eq_getElem hlt, wsOf_app, List.length_append, Option.toList_some, wsOf_cons, wsOf_nil, List.append_nil, Ob.ws_len]
        omega
      have HPS := Lib.hid hps
      have HIX := Lib.hid (idxL_take l hlt)
      have hpl : posOf (l.take k) < h.words.length := by omega
      obtain ⟨ad, u, rfl, hbl, hu, hc1⟩ := HR.out.at_ hpl
      rw [u32s_get hpl, h0] at hu
      injection hu with hu
      subst hu
      have HCW := Lib.hid (show ∀ w' : World, Below W1.heap.size W1 w' → w'.cell? (ad.add (posOf (l.take k))) = some (.int .u32 ((l[k]).x.w0 : Int)) from fun w' hb => (World.cell?_of_block (a := ad.add (posOf (l.take k))) (by rw [block_of_add]; exact hb.block _ hbl)).trans hc1)
      have hc := HCW.out wr HBR.out
      clear hc1
      have HM := Lib.hid (show (((l[k]).x.w0 : Int)).tmod 16777216 = ((l[k]).fs.length : Int) by rw [← h1]; exact (Int.ofNat_tmod _ _).symm)
      have hB1 : W1.heap.size ≤ wr.heap.size := HBR.out.size
      clear h0 h1 hps
      generalize (idxL l).take k = xs at *
      generalize posOf (l.take k) = at_ at *
      generalize (l[k]).x.w0 = w0 at *
      generalize (l[k]).fs.length = fl at *
      have hw3 : wrap64 ((at_ : Int) + 3) = (at_ : Int) + 3 := wrK3 (Nat.le_trans (Nat.le_of_lt hpl) hwl)
      have hw4 : wrap64 (3 + (fl : Int)) = 3 + (fl : Int) := wrK4 (Nat.le_trans (Nat.le_trans (Nat.le_add_left _ _) h3) hwl)
      have hw5 : wrap64 ((at_ : Int) + (3 + (fl : Int))) = (at_ : Int) + (3 + (fl : Int)) := wrK5 (Nat.le_trans h3 hwl)
      have hfl : fl ≤ 1048576 := Nat.le_trans (Nat.le_trans (Nat.le_add_left _ _) h3) hwl
      have hw64 := wrK hfl
      have hd : decide ((at_ : Int) + 3 ≤ (h.words.length : Int)) = true := leK (Nat.le_trans (Nat.le_add_right _ _) h3)
      have hk2 : k ≤ 1048576 := Nat.le_trans hk hl2
      have HLT := Lib.hid hlt
      have HPL := Lib.hid hpl
      have HH3 := Lib.hid h3
      clear h3 hpl hbl hfl hlt hk
      go_wp2_with (at_builtin; refine wpList_append_any _ rfl (.tmp 11) (.tmp 13) _ rfl W1.heap.size 3 i0 _ 1 8 Tryz.underlying76 hi0 hz0 hz1 hz2 rfl (by omega) u3 k _ rfl (HOW.out.alloc _) (wr.heap.size + 1) (some ⟨wr.heap.size, 0, none⟩) 1 1 (ints [at_]) rfl ⟨rfl, fun _ => ⟨_, rfl, by simp, cell_one_new _ _ _⟩⟩ (one_intsK _) (by simp only [maxLen]; omega) (by omega) (by simp; omega) ?_; intro v1 w6 hown6 hgrow hat6; have hb6 := below_grown (Nat.le_refl _) (HBR.out.alloc HBR.out.size _) hgrow (fun q hq => (HOW.out.lt q hq).1); have y0 := (HX.out.below hb6 HX.out.lt).cell 0; have hc6 := HCW.out w6 hb6; have hm := HM.out; have hpl := HPL.out)
      go_roundw
      case rel => exact ⟨k + 1, HLT.out, by rw [hw5]; exact congrArg (Value.int .i64) (posK HPS.out), by rw [HIX.out, ints_appK]; exact hown6, hb6⟩
      case measure => rw [hw5]; exact measK HH3.out
    · obtain rfl : k = l.length := by omega
      have hE := HEND.out
      rw [hE]
      rw [List.take_of_length_le (by rw [idxL_len]; exact Nat.le_refl _)] at HOW
      have hw3 := wrK3 hwl
      have hd := ltK (n := h.words.length)
      clear hlt hk hE
      go_wp2_with fail
      go_ret
      refine ⟨_, rfl, by rw [idxL_len]; exact own_base HOW.out (Nat.le_of_lt hw1), (HB.out.trans (HBR.out.mono (Nat.le_of_lt hw1)))⟩
end
end Go.Proofs.YtblekggklimpeaaGreatDoor

namespace Go.Proofs.YtblekggklimpeaaGreatDoor
open Go.RowKit Go.Sort
attribute [local go_sem] Oper.semAt_some
theorem make_bool1 (n : Nat) (hn : n ≤ 1048576) (w : World) :
    (Instr.makeSlice 44 (.int .i64 ((n : Int) + 1)) (.int .i64 ((n : Int) + 1))).run Tryz.prog w = .ok (.slice (some ⟨w.heap.size, 0, none⟩) (n + 1) (n + 1)) (w.alloc (.cells (zcells (.bool false) (n + 1)) 4)) := by
  obtain ⟨i0, hi0, hz0, hz1, hz2⟩ := info_parts info_bool
  have := run_make_rowN (P := Tryz.prog) 44 4 i0 _ Tryz.underlying44 hi0 hz0 .i64 .i64 (n + 1) (n + 1) (Nat.le_refl _) (by rw [hz2]; omega) (by omega) w
  have e : madeCells (Value.bool false).cells ((n + 1) * 1) = zcells (.bool false) (n + 1) := by
    apply Array.ext
    · simp [madeCells, zcells, Value.cells]
    · intro i h1 h2
      simp [madeCells, zcells, Value.cells, Nat.mod_one]
  rw [hz1, e] at this
  rw [show ((n : Int) + 1) = ((n + 1 : Nat) : Int) by omega]
  exact this
/-- What Walk answers. -/
def RWalkP (h : HM) (fr : List Nat) (w : World) (e : Ending) (w' : World) : Prop :=
  ∃ vl vc, e = .returned (.tuple #[vl, vc]) ∧ w'.ownsRow w.heap.size 43 1 vl (walkM (heldM h) fr).length (u32s (metO (walkM (heldM h) fr))) ∧ w'.ownsRow w.heap.size 3 1 vc (walkM (heldM h) fr).length (zsK ((walkM (heldM h) fr).map (·.2))) ∧ Below w.heap.size w w'
theorem wrU {q : Nat} (h : q ≤ 1048576) : IntKind.u32.wrap (q : Int) = (q : Int) := IntWalk.u32_in _ (by omega)
theorem wrI {q : Nat} (h : q ≤ 1048576) : IntKind.i64.wrap (q : Int) = (q : Int) := IntWalk.i64_in _ (by omega)
theorem tdiv2q (q : Nat) : ((2 * q : Nat) : Int).tdiv 2 = (q : Int) := by rw [Int.tdiv_eq_ediv_of_nonneg (by omega)]; omega
theorem div2q (q : Nat) : ((2 * q : Nat) : Int) / 2 = (q : Int) := by omega
theorem putsW_len (l : Wk) (os : List Nat) (b : Int) : (putsW l os b).length ≤ l.length + os.length := by
  induction os generalizing l with
  | nil => simp [putsW]
  | cons a q ih =>
    rw [putsW_cons]
    have h1 := ih (l := putW l a b)
    have h2 : (putW l a b).length ≤ l.length + 1 := by unfold putW; split <;> simp
    simp only [List.length_cons]
    omega
theorem putsW_take (l : Wk) (os : List Nat) (b : Int) {k : Nat} (hk : k < os.length) : putsW l (os.take (k + 1)) b = putW (putsW l (os.take k) b) (os.getD k 0) b := by
  rw [List.take_add_one, List.getElem?_eq_getElem hk, List.getD_eq_getElem?_getD, List.getElem?_eq_getElem hk]
  exact putsW_snoc _ _ _ _
section
variable {h : HM} {l : List Ob}
theorem isB_half (G : h.Good l) {o : Nat} (hi : h.isB o = true) : o / 2 < h.words.length + 1 := by
  obtain ⟨a, b, c, rfl, rfl⟩ := (G.laid.isB_iff o).1 hi
  have := G.laid.words_len
  omega
theorem isB_k (G : h.Good l) {o : Nat} (hi : h.isB o = true) : ∃ k, ∃ hk : k < l.length, o = 2 * posOf (l.take k) := by
  have hm := isB_mem G hi
  unfold oopsL at hm
  obtain ⟨k, hk, rfl⟩ := List.mem_map.1 hm
  exact ⟨k, List.mem_range.1 hk, rfl⟩
theorem valB_isB {o : Nat} (hv : h.valB o = true) (hk : kindM o = 2) : h.isB o = true := by
  unfold HM.valB objB at hv
  simpa [hk] using hv
end
section
variable {h : HM} {l : List Ob}
theorem held_len (G : h.Good l) {k : Nat} (hk : k < l.length) : (heldM h (2 * posOf (l.take k))).length = holdN (posOf (l.take k)) l[k] := by
  rw [← num_held G hk, List.length_map, List.length_take]
  exact Nat.min_eq_left (holdN_le _ _)
theorem held_at (G : h.Good l) {k : Nat} (hk : k < l.length) {j : Nat} (hj : j < (heldM h (2 * posOf (l.take k))).length) :
    ∃ x, (nmsK (posOf (l.take k)) l[k])[j]? = some x ∧ x < h.words.length ∧ h.words.getD x 0 = (heldM h (2 * posOf (l.take k))).getD j 0 := by
  have hl := held_len G hk
  have hle := holdN_le (posOf (l.take k)) l[k]
  have hjn : j < (nmsK (posOf (l.take k)) l[k]).length := by omega
  refine ⟨(nmsK (posOf (l.take k)) l[k])[j], List.getElem?_eq_getElem hjn, ?_, ?_⟩
  · have h1 := (nmsK_get (List.getElem?_eq_getElem hjn)).2.1
    have h2 := (w0_parts G hk).2.2.2
    omega
  · have h0 := num_held G hk
    rw [List.getD_eq_getElem?_getD (l := heldM h (2 * posOf (l.take k))), ← h0, List.getElem?_map, List.getElem?_take_of_lt (by omega), List.getElem?_eq_getElem hjn]
    rfl
theorem held_isB (G : h.Good l) {k : Nat} (hk : k < l.length) {x : Nat} (hx : x ∈ heldM h (2 * posOf (l.take k))) : x < 4294967296 ∧ (kindM x = 2 → h.isB x = true) := by
  have hi : h.isB (2 * posOf (l.take k)) = true := (G.laid.isB_iff _).2 ⟨l.take k, l[k], l.drop (k + 1), split_at l k hk, rfl⟩
  exact ⟨names_32 G hi x (held_names hx), fun h2 => names_isB G hi (held_names hx) h2⟩
theorem getD_mem' {xs : List Nat} {j : Nat} (hj : j < xs.length) : xs.getD j 0 ∈ xs := by
  rw [List.getD_eq_getElem?_getD, List.getElem?_eq_getElem hj]; exact List.getElem_mem _
theorem ints_atK {xs : List Nat} {j x : Nat} (h : xs[j]? = some x) : (ints xs)[j]? = some (.int .i64 (x : Int)) := by
  unfold ints; rw [List.getElem?_map, h]; rfl
end
section
variable {w : World} {h : HM} {l : List Ob} {A A' Af : Option Addr} {n c n' c' nf cf : Nat}
end
end Go.Proofs.YtblekggklimpeaaGreatDoor

namespace Go.Proofs.YtblekggklimpeaaGreatDoor
open Go.RowKit Go.Sort
attribute [local go_sem] Oper.semAt_some
/-- The live ones among the first k. -/
def livK (W : List Nat) (l : List Ob) (k : Nat) : List Nat := (((idxL l).take k).filter (fun i => decide (2 * i ∈ W))).map (2 * ·)
theorem livK_zero (W : List Nat) (l : List Ob) : livK W l 0 = [] := rfl
theorem livK_yes {W : List Nat} {l : List Ob} {k : Nat} (hk : k < l.length) (h : 2 * posOf (l.take k) ∈ W) : livK W l (k + 1) = livK W l k ++ [2 * posOf (l.take k)] := by
  unfold livK
  rw [idxL_take l hk, List.filter_append, List.map_append, List.filter_cons, if_pos (by simpa using h)]
  rfl
theorem livK_no {W : List Nat} {l : List Ob} {k : Nat} (hk : k < l.length) (h : ¬ 2 * posOf (l.take k) ∈ W) : livK W l (k + 1) = livK W l k := by
  unfold livK
  rw [idxL_take l hk, List.filter_append, List.map_append, List.filter_cons, if_neg (by simpa using h)]
  simp
theorem livK_len (W : List Nat) (l : List Ob) (k : Nat) : (livK W l k).length ≤ k := by
  unfold livK
  rw [List.length_map]
  have h1 := List.length_filter_le (fun i => decide (2 * i ∈ W)) ((idxL l).take k)
  have h2 := List.length_take_le k (idxL l)
  omega
theorem livK_all (h : HM) (l : List Ob) : livK (metO (walkM (heldM h) h.roots)) l l.length = liveO h l := by
  unfold livK liveO
  rw [List.take_of_length_le (by rw [idxL_len]; exact Nat.le_refl _)]
  have e : oopsL l = (idxL l).map (2 * ·) := by unfold oopsL idxL; rw [List.map_map]; rfl
  rw [e, List.filter_map]
  rfl
theorem idxL_get {l : List Ob} {k : Nat} (hk : k < l.length) : (idxL l)[k]? = some (posOf (l.take k)) := by
  unfold idxL
  rw [List.getElem?_map, List.getElem?_range hk]
  rfl
theorem wrM2 {q : Nat} (h : q ≤ 1048576) : wrap64 (2 * (q : Int)) = 2 * (q : Int) := IntWalk.wrap64_in _ (by omega)
theorem wrU2 {q : Nat} (h : q ≤ 1048576) : IntKind.u32.wrap (2 * (q : Int)) = 2 * (q : Int) := IntWalk.u32_in _ (by omega)
section
variable {w : World} {h : HM} {l : List Ob} {A A' : Option Addr} {n c n' c' : Nat}
end
end Go.Proofs.YtblekggklimpeaaGreatDoor

namespace Go.Proofs.YtblekggklimpeaaGreatDoor
open Go.RowKit Go.Sort
attribute [local go_sem] Oper.semAt_some
theorem wrA3 {a f : Nat} (h : a + (3 + f) ≤ 1048576) : wrap64 (3 + (f : Int)) = 3 + (f : Int) ∧ wrap64 ((a : Int) + (3 + (f : Int))) = (a : Int) + (3 + (f : Int)) := ⟨IntWalk.wrap64_in _ (by omega), IntWalk.wrap64_in _ (by omega)⟩
section
variable {w : World} {h : HM} {l : List Ob} {A A' : Option Addr} {n c n' c' : Nat}
end
end Go.Proofs.YtblekggklimpeaaGreatDoor

namespace Go.Proofs.YtblekggklimpeaaGreatDoor
open Go.RowKit Go.Sort
attribute [local go_sem] Oper.semAt_some
theorem make_oop1 (n : Nat) (hn : n ≤ 1048576) (w : World) :
    (Instr.makeSlice 23 (.int .i64 ((n : Int) + 1)) (.int .i64 ((n : Int) + 1))).run Tryz.prog w = .ok (.slice (some ⟨w.heap.size, 0, none⟩) (n + 1) (n + 1)) (w.alloc (.cells (zcells (.int .u32 0) (n + 1)) 43)) := by
  obtain ⟨i0, hi0, hz0, hz1, hz2⟩ := info_parts info_oop
  have := run_make_rowN (P := Tryz.prog) 23 43 i0 _ Tryz.underlying23 hi0 hz0 .i64 .i64 (n + 1) (n + 1) (Nat.le_refl _) (by rw [hz2]; omega) (by omega) w
  have e : madeCells (Value.int .u32 0).cells ((n + 1) * 1) = zcells (.int .u32 0) (n + 1) := by
    apply Array.ext
    · simp [madeCells, zcells, Value.cells]
    · intro i h1 h2
      simp [madeCells, zcells, Value.cells, Nat.mod_one]
  rw [hz1, e] at this
  rw [show ((n : Int) + 1) = ((n + 1 : Nat) : Int) by omega]
  exact this
theorem tozeros_row (w : World) (F : Nat) (hF : F ≤ maxLen) : Row (w.alloc (.cells (zcells (.int .u32 0) F) 43)) w.heap.size 43 F (u32s (toL [] F)) := by
  rw [toL_nil]
  exact ⟨zcells (.int .u32 0) F, Blk.new w _ _, by simp [u32s], hF, by simp [zcells], by simp [zcells, u32s]⟩
end Go.Proofs.YtblekggklimpeaaGreatDoor

namespace Go.Proofs.YtblekggklimpeaaGreatDoor
open Go.RowKit Go.Sort
attribute [local go_sem] Oper.semAt_some
/-- What Collect works on: the table, the counts, what is next. -/
structure CoS (w : World) (M gt gc gn N : Nat) (pl : List (Nat × Nat)) (vw vr : Value) (ws rs : List Nat) (a0 a1 a3 clr : Nat) : Prop where
  t : Row w gt 43 N (u32s (toL pl N))
  c : Blk w gc 52 #[.int .i64 (a0 : Int), .int .i64 (a1 : Int), .int .i64 0, .int .i64 (a3 : Int), .int .i64 (clr : Int)]
  n : Blk w gn 32 #[vw, vr]
  ow : w.ownsRow M 24 1 vw ws.length (u32s ws)
  or : w.ownsRow M 43 1 vr rs.length (u32s rs)
  ht : M ≤ gt
  hc : M ≤ gc
  hn : M ≤ gn
  nt : vr.ownBlock ≠ some gt
section
variable {w w' : World} {M gt gc gn N : Nat} {pl : List (Nat × Nat)} {vw vr : Value} {ws rs : List Nat} {a0 a1 a3 clr : Nat}
theorem CoS.below (C : CoS w M gt gc gn N pl vw vr ws rs a0 a1 a3 clr) (h : Below w.heap.size w w') : CoS w' M gt gc gn N pl vw vr ws rs a0 a1 a3 clr :=
  ⟨C.t.below h, C.c.below h C.c.lt, C.n.below h C.n.lt, own_below C.ow h, own_below C.or h, C.ht, C.hc, C.hn, C.nt⟩
theorem CoS.far (C : CoS w M gt gc gn N pl vw vr ws rs a0 a1 a3 clr) {x : Nat} (hx : x ≠ gt ∧ x ≠ gc ∧ x ≠ gn ∧ vw.ownBlock ≠ some x ∧ vr.ownBlock ≠ some x) (hs : ∀ q, q ≠ x → w'.heap[q]? = w.heap[q]?) : CoS w' M gt gc gn N pl vw vr ws rs a0 a1 a3 clr :=
  ⟨C.t.same (hs _ hx.1.symm), C.c.same (hs _ hx.2.1.symm), C.n.same (hs _ hx.2.2.1.symm), own_keep C.ow (fun q hq => hs q (fun e => hx.2.2.2.1 (e ▸ hq))), own_keep C.or (fun q hq => hs q (fun e => hx.2.2.2.2 (e ▸ hq))), C.ht, C.hc, C.hn, C.nt⟩
/-- One more field cleared. -/
theorem CoS.clear (C : CoS w M gt gc gn N pl vw vr ws rs a0 a1 a3 clr) : CoS (w.setCell ⟨gc, 4, none⟩ (.int .i64 ((clr : Int) + 1))) M gt gc gn N pl vw vr ws rs a0 a1 a3 (clr + 1) := by
  have hs : ∀ q, q ≠ gc → (w.setCell ⟨gc, 4, none⟩ (.int .i64 ((clr : Int) + 1))).heap[q]? = w.heap[q]? := fun q hq => Below.heap_setCell w ⟨gc, 4, none⟩ _ q hq
  exact ⟨C.t.same (hs _ (C.t.ne_blk C.c (by decide))), C.c.set_ 4 (.int .i64 ((clr : Int) + 1)), C.n.same (hs _ (C.n.ne_ C.c (by decide))), own_keep C.ow (fun q hq => hs q (fun e => own_ne_blk C.ow C.c (by decide) (e ▸ hq))), own_keep C.or (fun q hq => hs q (fun e => own_ne_blk C.or C.c (by decide) (e ▸ hq))), C.ht, C.hc, C.hn, C.nt⟩
end
section
variable {w w' w0 : World} {M gt gc gn N : Nat} {pl : List (Nat × Nat)} {vw vr v5 : Value} {ws rs ns : List Nat} {a0 a1 a3 clr : Nat}
theorem CoS.grow_r (C : CoS w M gt gc gn N pl vw vr ws rs a0 a1 a3 clr) (hown : w'.ownsRow M 43 1 v5 (rs.length + ns.length) (u32s rs ++ u32s ns)) (hg : w.grownBy w' vr.ownBlock) (hat : v5.ownBlock = vr.ownBlock ∨ v5.ownBlock = some w.heap.size) (hb : Below M w0 w) (hM : M ≤ w.heap.size) :
    CoS (w'.setCell ⟨gn, 1, none⟩ v5) M gt gc gn N pl vw v5 ws (rs ++ ns) a0 a1 a3 clr ∧ Below M w0 (w'.setCell ⟨gn, 1, none⟩ v5) ∧ w'.frozen? ⟨gn, 1, none⟩ = false ∧ w'.cell? ⟨gn, 1, none⟩ = some vr := by
  have hs : ∀ q, q < w.heap.size → vr.ownBlock ≠ some q → w'.heap[q]? = w.heap[q]? := fun q hq hn => hg.block q hq (fun e => hn (by first | exact e | exact e.symm))
  have hn5 : Blk w' gn 32 #[vw, vr] := C.n.same (hs gn C.n.lt (own_ne_blk C.or C.n (by decide)))
  have hset : ∀ q, q ≠ gn → (w'.setCell ⟨gn, 1, none⟩ v5).heap[q]? = w'.heap[q]? := fun q hq => Below.heap_setCell w' ⟨gn, 1, none⟩ v5 q hq
  have ht5 := C.t.same (hs gt C.t.lt C.nt)
  have hc5 := C.c.same (hs gc C.c.lt (own_ne_blk C.or C.c (by decide)))
  have ho5 := own_keep C.ow (fun q hq => hs q (C.ow.lt q hq).2 (fun e => own_ne_own C.or C.ow (by decide) q e hq))
  have hr5 : w'.ownsRow M 43 1 v5 (rs ++ ns).length (u32s (rs ++ ns)) := by rw [u32s_app, List.length_append]; exact hown
  refine ⟨⟨ht5.same (hset _ (ht5.ne_blk hn5 (by decide))), hc5.same (hset _ (hc5.ne_ hn5 (by decide))), hn5.set_ 1 v5, own_keep ho5 (fun q hq => hset q (fun e => own_ne_blk ho5 hn5 (by decide) (e ▸ hq))), own_keep hr5 (fun q hq => hset q (fun e => own_ne_blk hr5 hn5 (by decide) (e ▸ hq))), C.ht, C.hc, C.hn, ?_⟩, ?_, hn5.frozen 1, hn5.cell 1⟩
  · rcases hat with e | e
    · rw [e]; exact C.nt
    · rw [e]; intro e2; injection e2 with e2; have := C.t.lt; omega
  · refine hb.trans ⟨hg.os, hg.tape, hg.output, by simp [World.setCell]; exact hg.size, fun q hq => ?_⟩
    exact (hset q (by have := C.hn; omega)).trans (hs q (by omega) (fun e => by have := (C.or.lt q e).1; omega))
theorem CoS.grow_w (C : CoS w M gt gc gn N pl vw vr ws rs a0 a1 a3 clr) (hown : w'.ownsRow M 24 1 v5 (ws.length + ns.length) (u32s ws ++ u32s ns)) (hg : w.grownBy w' vw.ownBlock) (hat : v5.ownBlock = vw.ownBlock ∨ v5.ownBlock = some w.heap.size) (hb : Below M w0 w) (hM : M ≤ w.heap.size) :
    CoS (w'.setCell ⟨gn, 0, none⟩ v5) M gt gc gn N pl v5 vr (ws ++ ns) rs a0 a1 a3 clr ∧ Below M w0 (w'.setCell ⟨gn, 0, none⟩ v5) ∧ w'.frozen? ⟨gn, 0, none⟩ = false ∧ w'.cell? ⟨gn, 0, none⟩ = some vw := by
  have hs : ∀ q, q < w.heap.size → vw.ownBlock ≠ some q → w'.heap[q]? = w.heap[q]? := fun q hq hn => hg.block q hq (fun e => hn (by first | exact e | exact e.symm))
  have hn5 : Blk w' gn 32 #[vw, vr] := C.n.same (hs gn C.n.lt (own_ne_blk C.ow C.n (by decide)))
  have hset : ∀ q, q ≠ gn → (w'.setCell ⟨gn, 0, none⟩ v5).heap[q]? = w'.heap[q]? := fun q hq => Below.heap_setCell w' ⟨gn, 0, none⟩ v5 q hq
  have htn : vw.ownBlock ≠ some gt := by obtain ⟨cur, hcb, _⟩ := C.t; exact own_ne_blk C.ow hcb (by decide)
  have ht5 := C.t.same (hs gt C.t.lt htn)
  have hc5 := C.c.same (hs gc C.c.lt (own_ne_blk C.ow C.c (by decide)))
  have ho5 := own_keep C.or (fun q hq => hs q (C.or.lt q hq).2 (fun e => own_ne_own C.ow C.or (by decide) q e hq))
  have hr5 : w'.ownsRow M 24 1 v5 (ws ++ ns).length (u32s (ws ++ ns)) := by rw [u32s_app, List.length_append]; exact hown
  refine ⟨⟨ht5.same (hset _ (ht5.ne_blk hn5 (by decide))), hc5.same (hset _ (hc5.ne_ hn5 (by decide))), hn5.set_ 0 v5, own_keep hr5 (fun q hq => hset q (fun e => own_ne_blk hr5 hn5 (by decide) (e ▸ hq))), own_keep ho5 (fun q hq => hset q (fun e => own_ne_blk ho5 hn5 (by decide) (e ▸ hq))), C.ht, C.hc, C.hn, C.nt⟩, ?_, hn5.frozen 0, hn5.cell 0⟩
  refine hb.trans ⟨hg.os, hg.tape, hg.output, by simp [World.setCell]; exact hg.size, fun q hq => ?_⟩
  exact (hset q (by have := C.hn; omega)).trans (hs q (by omega) (fun e => by have := (C.ow.lt q e).1; omega))
end
section
variable {w w0 : World} {M gt gc gn N : Nat} {pl : List (Nat × Nat)} {vw vr : Value} {ws rs : List Nat} {a0 a1 a3 clr : Nat}
theorem CoS.own (C : CoS w M gt gc gn N pl vw vr ws rs a0 a1 a3 clr) {go co g6 c6 ps : Nat} {os ns : List Nat} (R : Row w go 24 co (u32s os)) (R6 : Row w g6 3 c6 (ints ns)) (hv : vw.ownBlock ≠ some go) (hb : Below M w0 w) (hM : M ≤ go) (x : Nat) :
    CoS (w.setCell ⟨go, ps, none⟩ (.int .u32 (x : Int))) M gt gc gn N pl vw vr ws rs a0 a1 a3 clr ∧ Row (w.setCell ⟨go, ps, none⟩ (.int .u32 (x : Int))) go 24 co (u32s (os.set ps x)) ∧ Row (w.setCell ⟨go, ps, none⟩ (.int .u32 (x : Int))) g6 3 c6 (ints ns) ∧ Below M w0 (w.setCell ⟨go, ps, none⟩ (.int .u32 (x : Int))) := by
  have hs : ∀ q, q ≠ go → (w.setCell ⟨go, ps, none⟩ (.int .u32 (x : Int))).heap[q]? = w.heap[q]? := fun q hq => Below.heap_setCell w ⟨go, ps, none⟩ _ q hq
  refine ⟨C.far ⟨R.ne_ C.t (by decide), R.ne_blk C.c (by decide), R.ne_blk C.n (by decide), hv, by obtain ⟨cur, hcb, _⟩ := R; exact own_ne_blk C.or hcb (by decide)⟩ hs, ?_, R6.same (hs _ (R6.ne_ R (by decide))), hb.setCell (p := ⟨go, ps, none⟩) hM _⟩
  have := R.set ps (.int .u32 (x : Int))
  unfold u32s at this ⊢
  rw [List.map_set]
  exact this
end
theorem ws_sub {h : HM} {l : List Ob} (G : h.Good l) {k : Nat} (hk : k < l.length) : (h.words.drop (posOf (l.take k))).take (3 + (l[k]).fs.length) = (l[k]).ws := by
  have e := split_at l k hk
  have h1 : h.words = 0 :: (wsOf (l.take k) ++ ((l[k]).ws ++ wsOf (l.drop (k + 1)))) := by
    rw [G.laid.words]
    conv => lhs; rw [e]
    rw [wsOf_app, wsOf_cons]
  rw [h1]
  unfold posOf
  rw [show 1 + (wsOf (l.take k)).length = (wsOf (l.take k)).length + 1 by omega, List.drop_succ_cons, List.drop_left, List.take_append_of_le_length (by rw [Ob.ws_len]; omega), List.take_of_length_le (by rw [Ob.ws_len]; omega)]
theorem wrQ3 {q : Nat} (h : q ≤ 1048576) : IntKind.i64.wrap ((q : Int) + 3) = (q : Int) + 3 := IntWalk.i64_in _ (by omega)
theorem wrQ4 {q f : Nat} (h : q + 3 + f ≤ 1048576) : IntKind.i64.wrap ((q : Int) + 3 + (f : Int)) = (q : Int) + 3 + (f : Int) := IntWalk.i64_in _ (by omega)
theorem reads_sub {w : World} {B n k m : Nat} {A : Option Addr} {ws : List Nat} (h : Reads w B 1 A n (u32s ws)) (hk : k + m ≤ n) (hm : 0 < m) : ∃ ad, A = some ad ∧ Reads w B 1 (some (ad.add k)) m (u32s ((ws.drop k).take m)) := by
  have hl : ws.length = n := by have := h.1; rw [u32s_len] at this; omega
  obtain ⟨ad, hA, hb, hc⟩ := h.2 (by omega)
  refine ⟨ad, hA, by rw [u32s_len, List.length_take, List.length_drop]; omega, fun _ => ⟨_, rfl, by rw [block_of_add]; exact hb, fun j u hu => ?_⟩⟩
  have hu' : (u32s ws)[k + j]? = some u := by
    unfold u32s at hu ⊢
    rw [List.getElem?_map, List.getElem?_take] at hu
    split at hu
    · rw [List.getElem?_drop] at hu
      rw [List.getElem?_map]
      exact hu
    · cases hu
  have := hc (k + j) u hu'
  rw [Addr.add_add]
  exact this
theorem slice_mid (wx : World) (ad : Addr) (n c q m : Nat) (hh : q + 3 + m ≤ c) :
    (Instr.sliceAt 22 (.slice (some ad) n c) (some (.int .i64 (q : Int))) (some (.int .i64 ((q : Int) + 3 + (m : Int)))) none).run Tryz.prog wx = .ok (.slice (some (ad.add q)) (3 + m) (c - q)) wx := by
  obtain ⟨i0, hi0, hz0, hz1, hz2⟩ := info_parts info_u32
  have he : Program.elem Tryz.prog 22 = 24 := by simp [Program.elem, Tryz.underlying22]
  have hz : ∀ w, (Go.sizeOf 24).run Tryz.prog w = .ok 1 w := fun w => by go_simp
  rw [run_sliceAt_slice (P := Tryz.prog) wx 22 _ _ _ _ (by rw [he]; exact Tryz.underlying22), run_slice_lh (P := Tryz.prog) wx 22 (some ad) n c (by rw [he]; exact Tryz.underlying22) .i64 .i64 (q : Int) ((q : Int) + 3 + (m : Int)) (by omega) (by omega) (by omega), he, hz]
  simp only [Result.andThen, sliced]
  rw [show ((q : Int)).toNat = q by omega, show ((q : Int) + 3 + (m : Int)).toNat = q + 3 + m by omega, if_neg (by omega), show q + 3 + m - q = 3 + m by omega, Nat.mul_one]
  rfl
theorem exec_slice {P : Program} {ρ : Operand → Value} {o : Oper} {t : TypeId} {x lo hi : Operand} {w : World} {v a b d : Value} (ho : o.op = .slice t x (some lo) (some hi) none) (ha : ρ x = a) (hb : ρ lo = b) (hd : ρ hi = d) (h : (Instr.sliceAt t a (some b) (some d) none).run P w = .ok v w) : (execOp ρ o).run P w = .ok (.value v) w := by
  subst ha hb hd
  unfold execOp
  simp only [ho, Option.map_some, Option.map_none, Sem.run_bind, Sem.run_pure, h, Result.andThen_ok]
theorem subK {a b : Nat} (h1 : b ≤ a) (h2 : a ≤ 1048576) : wrap64 ((a : Int) - (b : Int)) = ((a - b : Nat) : Int) := by
  rw [IntWalk.wrap64_in _ (by omega)]
  omega
theorem mvd_snoc (pl : List (Nat × Nat)) (p : Nat × Nat) : mvd (pl ++ [p]) = mvd pl + (if p.1 = p.2 then 0 else 1) := by
  unfold mvd
  rw [List.filter_append, List.length_append]
  by_cases h : p.1 = p.2
  · simp [h]
  · simp [h]
theorem mvd_le (pl : List (Nat × Nat)) : mvd pl ≤ pl.length := List.length_filter_le _ _
section
variable {w : World} {h : HM} {l : List Ob} {A A' : Option Addr} {n c n' c' : Nat}
/-- What Collect answers. -/
def RColP (h : HM) (l : List Ob) (w : World) (e : Ending) (w' : World) : Prop :=
  ∃ vw vr, e = .returned (.tuple #[.agg #[vw, vr], colV h l]) ∧ w'.ownsRow w.heap.size 24 1 vw (colH h l).words.length (u32s (colH h l).words) ∧ w'.ownsRow w.heap.size 43 1 vr (colH h l).roots.length (u32s (colH h l).roots) ∧ Below w.heap.size w w'
end
end Go.Proofs.YtblekggklimpeaaGreatDoor

namespace Go.Proofs.YtblekggklimpeaaGreatDoor
open Go.RowKit Go.Sort
attribute [local go_sem] Oper.semAt_some
def Cs.cells (k : Cs) : Array Value := #[.int .i64 k.size, .slice k.A k.n k.c, .slice k.A' k.n' k.c', .int .u32 (k.last : Nat)]
theorem cells4K {w : World} {g : Nat} {t : TypeId} {a b c d : Value} (h : Blk w g t #[a, b, c, d]) : w.cell? ⟨g, 0, none⟩ = some a ∧ w.cell? ⟨g, 1, none⟩ = some b ∧ w.cell? ⟨g, 2, none⟩ = some c ∧ w.cell? ⟨g, 3, none⟩ = some d := ⟨h.cell 0, h.cell 1, h.cell 2, h.cell 3⟩
theorem own_readsN {w : World} {base n : Nat} {v : Value} {xs : List Nat} {e : TypeId} (h : w.ownsRow base e 1 v n (u32s xs)) : ∃ A c, v = .slice A n c ∧ Reads w w.heap.size 1 A n (u32s xs) ∧ n ≤ 9223372036854775807 := by
  by_cases h0 : 0 < n
  · obtain ⟨A, c, hv, hr⟩ := own_readsK h h0
    refine ⟨A, c, hv, hr, ?_⟩
    rcases h.2 with ⟨rfl, h2⟩ | ⟨g, cap, cur, _, _, _, h4, h5, _⟩
    · omega
    · simp only [maxLen] at h5
      omega
  · obtain ⟨A, c, hv⟩ := own_val h
    have h1 := h.1
    refine ⟨A, c, hv, ⟨by omega, fun h2 => absurd h2 h0⟩, by omega⟩
section
variable {W : World}
end
end Go.Proofs.YtblekggklimpeaaGreatDoor

namespace Go.Proofs.YtblekggklimpeaaGreatDoor
open Go.RowKit Go.Sort
attribute [local go_sem] Oper.semAt_some
theorem own_readsV {w : World} {base n c : Nat} {A : Option Addr} {xs : List Nat} {e : TypeId} (h : w.ownsRow base e 1 (.slice A n c) n (u32s xs)) : Reads w w.heap.size 1 A n (u32s xs) ∧ n ≤ 9223372036854775807 := by
  obtain ⟨A', c', hv, hr, hn⟩ := own_readsN h
  injection hv with h1 h2 h3
  subst h1
  exact ⟨hr, hn⟩
theorem colV_ints (h : HM) (l : List Ob) : ∃ x0 x1 x2 x3 x4 : Int, colV h l = .agg #[.int .i64 x0, .int .i64 x1, .int .i64 x2, .int .i64 x3, .int .i64 x4] := ⟨_, _, _, _, _, rfl⟩
theorem cells2K {w : World} {g : Nat} {t : TypeId} {a b : Value} (h : Blk w g t #[a, b]) : w.cell? ⟨g, 0, none⟩ = some a ∧ w.cell? ⟨g, 1, none⟩ = some b := ⟨h.cell 0, h.cell 1⟩
end Go.Proofs.YtblekggklimpeaaGreatDoor

namespace Go.Proofs.YtblekggklimpeaaGreatDoor
open Go.RowKit Go.Sort
attribute [local go_sem] Oper.semAt_some
/-- Where an oop goes: a row of pairs gone through, or something else. -/
def toK (pl : List (Nat × Nat)) (void x : Nat) : Nat := if x ∈ pl.map (·.1) then goesM pl x else void
theorem goesM_skip {pl : List (Nat × Nat)} {k : Nat} (hk : k < pl.length) {x : Nat} (hn : x ∉ (pl.take k).map (·.1)) (he : (pl[k]).1 = x) : goesM pl x = (pl[k]).2 := by
  have e : pl = pl.take k ++ pl[k] :: pl.drop (k + 1) := by
    conv => lhs; rw [← List.take_append_drop k pl, List.drop_eq_getElem_cons hk]
  unfold goesM
  have h0 : (pl.take k).find? (fun p => p.1 == x) = none := by
    rw [List.find?_eq_none]
    intro p hp hpe
    exact hn (List.mem_map.2 ⟨p, hp, by simpa using hpe⟩)
  conv => lhs; rw [e]
  rw [List.find?_append, h0, Option.none_or, List.find?_cons, he]
  simp
end Go.Proofs.YtblekggklimpeaaGreatDoor

namespace Go.Proofs.YtblekggklimpeaaGreatDoor
open Go.RowKit
section
variable {h : HM} {l : List Ob}
theorem colL_get {k : Nat} (hk : k < (keepZ h l).length) : (colL h l)[k]'(by rw [colL_len]; exact hk) = relob (planM h l) (voidM h l) ((keepZ h l)[k]).2 := by
  unfold colL
  rw [List.getElem_map]
theorem held_new (G : h.Good l) {k : Nat} (hk : k < (colL h l).length) : heldM (colH h l) (2 * posOf ((colL h l).take k)) = ((colL h l)[k]).x.cls :: (if ((colL h l)[k]).x.fmt = 1 then ((colL h l)[k]).fs else []) := by
  have L := col_laid G
  rw [split_at (colL h l) k hk] at L
  unfold heldM
  rw [half_pos]
  have e1 := L.hd_at
  have e2 := L.fields_at
  rw [e1, e2]
theorem live_kz {o : Nat} (ho : o ∈ liveO h l) : ∃ k, ∃ hk : k < (keepZ h l).length, ((keepZ h l)[k]).1 = o ∧ goesM (planM h l) o = 2 * posOf ((colL h l).take k) := by
  rw [← keepZ_fst] at ho
  obtain ⟨p, hp, rfl⟩ := List.mem_map.1 ho
  obtain ⟨k, hk, rfl⟩ := List.getElem_of_mem hp
  exact ⟨k, hk, rfl, goesM_at (by rw [planM_fst, ← keepZ_fst]; exact keepZ_nodup h l) (plan_get h l hk)⟩
theorem again_met (G : h.Good l) : ∀ o ∈ metO (walkM (heldM h) h.roots), o ∈ liveO h l ∧ goesM (planM h l) o ∈ metO (walkM (heldM (colH h l)) (colH h l).roots) := by
  have G' := col_good G
  refine walkM_all (P := fun o => o ∈ liveO h l ∧ goesM (planM h l) o ∈ metO (walkM (heldM (colH h l)) (colH h l).roots)) (fun x hx hk => ?_) (fun o ho x hx hk => ?_)
  · have hl := live_of_root G hx hk
    refine ⟨hl, walk_root ?_ (isB_kind (col_isB G hl))⟩
    show goesM (planM h l) x ∈ colR h l
    unfold colR
    refine List.mem_map.2 ⟨x, hx, ?_⟩
    unfold whereM
    rw [if_pos hk]
  · obtain ⟨k, hkz, he, hg⟩ := live_kz ho.1
    have hp := List.getElem_mem hkz
    rw [← he] at hx
    have hxl := live_of_held G hp hx hk
    have hkl : k < (colL h l).length := by rw [colL_len]; exact hkz
    have hw : whereM (planM h l) x = goesM (planM h l) x := by unfold whereM; rw [if_pos hk]
    have hfl : fldM (planM h l) (voidM h l) x = goesM (planM h l) x := by
      rw [← hw]
      refine fld_live ?_
      unfold deadB
      exact decide_eq_false (fun hd => hd.2 (by rw [planM_fst]; exact hxl))
    refine ⟨hxl, walk_shut G' G'.sound.roots ho.2 ?_ (isB_kind (col_isB G hxl))⟩
    rw [hg, held_new G hkl, colL_get hkz]
    rw [keepZ_held G hp] at hx
    generalize ((keepZ h l)[k]).2 = b at *
    rcases List.mem_cons.1 hx with rfl | hx
    · refine List.mem_cons.2 (.inl ?_)
      exact hw.symm
    · refine List.mem_cons.2 (.inr ?_)
      by_cases h1 : b.x.fmt = 1
      · rw [if_pos h1] at hx
        have hp1 : b.x.ptrB = true := by unfold Hd.ptrB; simp [h1]
        unfold relob
        simp only [hp1, if_true, h1]
        exact List.mem_map.2 ⟨x, hx, hfl⟩
      · rw [if_neg h1] at hx
        cases hx
theorem live_again (G : h.Good l) : liveO (colH h l) (colL h l) = oopsL (colL h l) := by
  unfold liveO
  rw [List.filter_eq_self]
  intro o ho
  unfold oopsL at ho
  obtain ⟨k, hk, rfl⟩ := List.mem_map.1 ho
  have hk := List.mem_range.1 hk
  have hkz : k < (keepZ h l).length := by rw [← colL_len]; exact hk
  have hl : ((keepZ h l)[k]).1 ∈ liveO h l := by rw [← keepZ_fst]; exact List.mem_map.2 ⟨_, List.getElem_mem hkz, rfl⟩
  have hg := goesM_at (by rw [planM_fst, ← keepZ_fst]; exact keepZ_nodup h l) (plan_get h l hkz)
  have := (again_met G _ ((mem_liveO G).1 hl)).2
  rw [hg] at this
  simpa using this
/-- A heap in which all is live. -/
theorem kz_all (ha : liveO h l = oopsL l) : keepZ h l = (oopsL l).zip l := by
  unfold keepZ
  rw [List.filter_eq_self]
  rintro ⟨o, b⟩ hp
  have h1 : o ∈ oopsL l := (List.of_mem_zip hp).1
  rw [← ha] at h1
  unfold liveO at h1
  exact (List.mem_filter.1 h1).2
theorem kz_snd (ha : liveO h l = oopsL l) : (keepZ h l).map (·.2) = l := by
  rw [kz_all ha]
  exact List.map_snd_zip (by rw [oopsL_len]; exact Nat.le_refl _)
theorem plan_same (ha : liveO h l = oopsL l) : ∀ p ∈ planM h l, p.1 = p.2 := by
  intro p hp
  obtain ⟨k, hk, rfl⟩ := List.getElem_of_mem hp
  have hkz : k < (keepZ h l).length := by have := planF_len 1 (keepZ h l); unfold planM at hk; omega
  have hg := plan_get h l hkz
  rw [List.getElem?_eq_getElem hk] at hg
  injection hg with hg
  rw [hg]
  dsimp only
  have hkl : k < l.length := by have := congrArg List.length (kz_snd ha); rw [List.length_map] at this; omega
  have h1 : ((keepZ h l)[k]).1 = 2 * posOf (l.take k) := by
    have h2 := keepZ_fst h l
    rw [ha] at h2
    have h3 := oopsL_get hkl
    rw [← h2, List.getElem?_map, List.getElem?_eq_getElem hkz] at h3
    injection h3
  rw [h1]
  congr 1
  unfold posOf
  rw [colL_eq, kz_snd ha, ← List.map_take, wsOf_same (relob_len _ _)]
theorem goes_same (ha : liveO h l = oopsL l) {x : Nat} (hx : x ∈ oopsL l) : goesM (planM h l) x = x := by
  rw [← ha] at hx
  obtain ⟨k, hk, he, _⟩ := live_kz hx
  have hg := plan_get h l hk
  have h1 := plan_same ha _ (List.mem_of_getElem? hg)
  have h2 := goesM_at (by rw [planM_fst, ← keepZ_fst]; exact keepZ_nodup h l) hg
  dsimp only at h1 h2
  rw [he] at h1 h2
  rw [h2, ← h1]
theorem where_same (G : h.Good l) (ha : liveO h l = oopsL l) {x : Nat} (hx : kindM x = 2 → h.isB x = true) : whereM (planM h l) x = x := by
  unfold whereM
  split
  · rename_i hk
    exact goes_same ha (isB_mem G (hx hk))
  · rfl
theorem dead_none (G : h.Good l) (ha : liveO h l = oopsL l) {x : Nat} (hx : kindM x = 2 → h.isB x = true) : deadB (planM h l) x = false := by
  unfold deadB
  refine decide_eq_false (fun hd => hd.2 ?_)
  rw [planM_fst, ha]
  exact isB_mem G (hx hd.1)
theorem valB_B {x : Nat} (hv : h.valB x = true) : kindM x = 2 → h.isB x = true := by
  intro hk
  unfold HM.valB objB at hv
  simpa [hk] using hv
theorem clsB_B {x : Nat} (hv : h.clsB x = true) : kindM x = 2 → h.isB x = true := by
  intro hk
  unfold HM.clsB at hv
  rw [Bool.or_eq_true] at hv
  rcases hv with hv | hv
  · have : x = 0 := by simpa using hv
    subst this
    simp [kindM] at hk
  · exact hv
theorem relob_same (G : h.Good l) (ha : liveO h l = oopsL l) {b : Ob} (hb : b ∈ l) : relob (planM h l) (voidM h l) b = b := by
  unfold relob
  have h1 := where_same G ha (clsB_B (G.sound.cls b hb))
  by_cases hp : b.x.ptrB = true
  · rw [if_pos hp, h1]
    have h2 : b.fs.map (fldM (planM h l) (voidM h l)) = b.fs := by
      conv => rhs; rw [← List.map_id b.fs]
      apply List.map_congr_left
      intro x hx
      have hv := valB_B (G.sound.flds b hb hp x hx)
      rw [fld_live (dead_none G ha hv), where_same G ha hv]
      rfl
    rw [h2]
  · rw [if_neg hp, h1]
theorem colL_same (G : h.Good l) (ha : liveO h l = oopsL l) : colL h l = l := by
  rw [colL_eq, kz_snd ha]
  conv => rhs; rw [← List.map_id l]
  apply List.map_congr_left
  intro b hb
  exact relob_same G ha hb
theorem colR_same (G : h.Good l) (ha : liveO h l = oopsL l) : colR h l = h.roots := by
  unfold colR
  conv => rhs; rw [← List.map_id h.roots]
  apply List.map_congr_left
  intro x hx
  exact where_same G ha (valB_B (G.sound.roots x hx))
theorem colH_again (G : h.Good l) : colH (colH h l) (colL h l) = colH h l := by
  have G' := col_good G
  have ha := live_again G
  unfold colH
  rw [show colL (HM.ofWords h.size (0 :: wsOf (colL h l)) (colR h l) h.last) (colL h l) = colL h l from colL_same G' ha, show colR (HM.ofWords h.size (0 :: wsOf (colL h l)) (colR h l) h.last) (colL h l) = colR h l from colR_same G' ha]
  rfl
theorem colV_again (G : h.Good l) : colV (colH h l) (colL h l) = .agg #[.int .i64 ((liveO h l).length : Nat), .int .i64 0, .int .i64 0, .int .i64 0, .int .i64 0] := by
  have G' := col_good G
  have ha := live_again G
  have hm : movedN (colH h l) (colL h l) = 0 := by
    unfold movedN
    rw [List.length_eq_zero_iff, List.filter_eq_nil_iff]
    intro p hp
    have := plan_same ha p hp
    simpa using this
  have hc : clearedN (colH h l) (colL h l) = 0 := by
    unfold clearedN
    have : ∀ z : List (Nat × Ob), (∀ p ∈ z, p.2 ∈ colL h l) → (z.map (fun p => clearedB (planM (colH h l) (colL h l)) p.2)).sum = 0 := by
      intro z
      induction z with
      | nil => intro _; rfl
      | cons p z ih =>
        intro hz
        rw [List.map_cons, List.sum_cons, ih (fun q hq => hz q (List.mem_cons_of_mem _ hq)), Nat.add_zero]
        unfold clearedB
        split
        · rename_i hpb
          rw [List.length_eq_zero_iff, List.filter_eq_nil_iff]
          intro x hx
          rw [dead_none G' ha (valB_B (G'.sound.flds p.2 (hz p (List.mem_cons_self ..)) hpb x hx))]
          decide
        · rfl
    refine this _ (fun p hp => ?_)
    obtain ⟨j, hj, _, h2, _⟩ := keepZ_mem hp
    rw [h2]
    exact List.getElem_mem hj
  have hl1 : (liveO (colH h l) (colL h l)).length = (liveO h l).length := by
    rw [ha, oopsL_len, colL_len, keepZ_len]
  have hl2 : (colL h l).length = (liveO h l).length := by rw [colL_len, keepZ_len]
  have hw : (colH h l).words.length - (1 + (wsOf (colL (colH h l) (colL h l))).length) = 0 := by
    rw [colL_same G' ha]
    show (0 :: wsOf (colL h l)).length - _ = 0
    rw [List.length_cons]
    omega
  unfold colV
  rw [hm, hc, hl1, hl2, hw, Nat.sub_self]
  rfl
end
end Go.Proofs.YtblekggklimpeaaGreatDoor
