/- The document's Names. -/
/- The document's put. -/
/- The document's Objects. -/
import Derived.Test.YtblekggklimpeaaDoorJKBuilt
set_option linter.unusedVariables false
set_option linter.unusedSimpArgs false
set_option linter.unusedSectionVars false
namespace Go.Proofs.YtblekggklimpeaaDoor
open Go.RowKit
attribute [local go_sem] Oper.semAt_some
theorem one_intsK (l : List Nat) : ∀ u ∈ ints l, u.oneCell' = true := by
  intro u hu; unfold ints at hu; obtain ⟨x, _, rfl⟩ := List.mem_map.1 hu; rfl
theorem ints_appK (a b : List Nat) : ints (a ++ b) = ints a ++ ints b := List.map_append
theorem info_intK : (Tryd.prog.info? 3).map (fun i => (i.zero, i.size, i.bytes)) = some (some (.int .i64 0), 1, 8) := by kernel_rfl
theorem ownI_new (w : World) (x : Int) : (w.alloc (.cells #[.int .i64 x] 3)).ownsRow w.heap.size 3 1 (.slice (some ⟨w.heap.size, 0, none⟩) 1 1) 1 [.int .i64 x] :=
  ⟨rfl, .inr ⟨w.heap.size, 1, #[.int .i64 x], rfl, Nat.le_refl _, heap_alloc_new w _, Nat.le_refl _, by decide, by simp, rfl⟩⟩
theorem wrS3 {a f : Nat} (h : a + 3 + f ≤ 1048576) : wrap64 ((a : Int) + 3) = (a : Int) + 3 := IntWalk.wrap64_in _ (by omega)
theorem wrS4 {a f : Nat} (h : a + 3 + f ≤ 1048576) : wrap64 ((a : Int) + 3 + (f : Int)) = (a : Int) + 3 + (f : Int) := IntWalk.wrap64_in _ (by omega)
section
variable {w : World} {h : HM} {l : List Ob} {A A' : Option Addr} {n c n' c' : Nat}
/-- What Names answers. -/
def RNamP (p : Nat) (b : Ob) (w : World) (e : Ending) (w' : World) : Prop :=
  ∃ v, e = .returned (.tuple #[v, .int .i64 (holdN p b : Nat)]) ∧ w'.ownsRow w.heap.size 3 1 v (nmsK p b).length (ints (nmsK p b)) ∧ Below w.heap.size w w'
set_option maxRecDepth 100000 in
set_option maxHeartbeats 4000000 in
theorem rnames_any (G : h.Good l) (hr : Reads w w.heap.size 1 A n (u32s h.words)) {k : Nat} (hk : k < l.length) :
    Calls Tryd.prog 62 #[StV A n c A' n' c', .int .i64 (posOf (l.take k) : Nat)] w (RNamP (posOf (l.take k)) (l[k]) w) := by
  obtain ⟨-, -, h1, h3⟩ := w0_parts G hk
  have HF := Lib.hid (fun (w' : World) (hb : Below w.heap.size w w') => rformat_any (A' := A') (n' := n') (c' := c') (c := c) G ((hr.below hb).more hb.size) hk)
  have HZ := Lib.hid (fun (w' : World) (hb : Below w.heap.size w w') => rsize_any (A' := A') (n' := n') (c' := c') (c := c) G ((hr.below hb).more hb.size) hk)
  have hwl : h.words.length ≤ 1048576 := by have := G.fit.room; have := G.fit.hi; omega
  have h3' : posOf (l.take k) + 3 + (l[k]).fs.length ≤ 1048576 := by omega
  have hB1 := (Below.refl w.heap.size w).alloc (Nat.le_refl _) (.cells #[.slice A n c, .slice A' n' c'] 32)
  have X1 := Blk.new w 32 #[.slice A n c, .slice A' n' c']
  have HB1 := Lib.hid hB1
  have HX1 := Lib.hid X1
  have HS1 := Lib.hid (World.size_alloc w (.cells #[.slice A n c, .slice A' n' c'] 32))
  obtain ⟨i0, hi0, hz0, hz1, hz2⟩ := info_parts info_intK
  generalize posOf (l.take k) = at_ at *
  have HN1 := Lib.hid (fun (hp : (l[k]).x.fmt ≠ 1) (hq : (l[k]).x.fmt ≠ 4) => nmsK_no (p := at_) (b := l[k]) hp hq)
  have HN2 := Lib.hid (fun (hp : (l[k]).x.fmt = 1 ∨ (l[k]).x.fmt = 4) => nmsK_yes (p := at_) (b := l[k]) hp)
  have hHO : holdN at_ (l[k]) = if (l[k]).x.fmt = 4 then 1 else (nmsK at_ (l[k])).length := rfl
  have HHO := Lib.hid hHO
  generalize hnl : nmsK at_ (l[k]) = nl at *
  generalize hhn : holdN at_ (l[k]) = hn at *
  have HPP : RNamP at_ (l[k]) w = fun e w' => ∃ v, e = .returned (.tuple #[v, .int .i64 (hn : Nat)]) ∧ w'.ownsRow w.heap.size 3 1 v nl.length (ints nl) ∧ Below w.heap.size w w' := by
    unfold RNamP; rw [hnl, hhn]
  rw [HPP]
  clear HPP hnl hhn hHO h1 h3 hB1 X1 hr
  generalize (l[k]).x.fmt = f at *
  generalize (l[k]).fs.length = fl at *
  clear hk G
  have hw1 : wrap64 ((at_ : Int) + 1) = (at_ : Int) + 1 := by first | exact IntWalk.wrap64_in _ (by omega) | (unfold wrap64; omega)
  unfold StV at HF HZ ⊢
  have hcase : ¬ (f = 1 ∨ f = 4) ∨ f = 1 ∨ f = 4 := by omega
  rcases hcase with hfp | rfl | rfl
  · have hn1 := HN1.out (fun e => hfp (.inl e)) (fun e => hfp (.inr e))
    have hd1 : ((f : Int) == 1) = false := by simp; omega
    have hd4 : ((f : Int) == 4) = false := by simp; omega
    have hho := HHO.out
    rw [if_neg (fun e => hfp (.inr e)), hn1] at hho
    subst hho
    subst hn1
    clear hfp HN1 HN2 HHO HZ
    go_enter Tryd.func62, Tryd.ntmps62
    go_upto_region 2 with fail
    have hb2 := HB1.out.alloc HB1.out.size (.cells #[.int .i64 ((at_ : Int) + 1)] 3)
    have HX2 := Lib.hid (HX1.out.alloc (.cells #[.int .i64 ((at_ : Int) + 1)] 3))
    have hown := ownI_new (w.alloc (.cells #[.slice A n c, .slice A' n' c'] 32)) ((at_ : Int) + 1)
    rw [World.size_alloc] at hown
    have HOW2 := Lib.hid (show ((w.alloc (.cells #[.slice A n c, .slice A' n' c'] 32)).alloc (.cells #[.int .i64 ((at_ : Int) + 1)] 3)).ownsRow w.heap.size 3 1 (.slice (some ⟨w.heap.size + 1, 0, none⟩) 1 1) 1 (ints [at_ + 1]) from own_base hown (by omega))
    have x0 := HX2.out.cell 0
    have x1 := HX2.out.cell 1
    have HFC := Lib.hid (HF.out _ hb2)
    have HB2 := Lib.hid hb2
    have hs2 : w.heap.size < ((w.alloc (.cells #[.slice A n c, .slice A' n' c'] 32)).alloc (.cells #[.int .i64 ((at_ : Int) + 1)] 3)).heap.size := by simp; omega
    clear hb2 hown HB1 HX1 HF
    generalize ((w.alloc (.cells #[.slice A n c, .slice A' n' c'] 32)).alloc (.cells #[.int .i64 ((at_ : Int) + 1)] 3)) = W2 at *
    go_wp2_with fail
    refine HFC.out.mono ?_
    rintro e W3 ⟨rfl, hb3⟩
    have HB3 := Lib.hid (below_top HB2.out hb3)
    have HOW3 := Lib.hid (own_below HOW2.out hb3)
    have HX3 := Lib.hid (HX2.out.below hb3 HX2.out.lt)
    clear hb3 HFC HB2 HOW2 HX2 x0 x1 hs2
    go_wp2_with fail
    go_ret2
    exact ⟨_, rfl, HOW3.out, HB3.out⟩
  · have hn1 := HN2.out (.inl rfl)
    have hho := HHO.out
    rw [if_neg (by decide), hn1] at hho
    subst hho
    subst hn1
    clear HN1 HN2 HHO
    go_enter Tryd.func62, Tryd.ntmps62
    go_upto_region 2 with fail
    have hb2 := HB1.out.alloc HB1.out.size (.cells #[.int .i64 ((at_ : Int) + 1)] 3)
    have HX2 := Lib.hid (HX1.out.alloc (.cells #[.int .i64 ((at_ : Int) + 1)] 3))
    have hown := ownI_new (w.alloc (.cells #[.slice A n c, .slice A' n' c'] 32)) ((at_ : Int) + 1)
    rw [World.size_alloc] at hown
    have HOW2 := Lib.hid (show ((w.alloc (.cells #[.slice A n c, .slice A' n' c'] 32)).alloc (.cells #[.int .i64 ((at_ : Int) + 1)] 3)).ownsRow w.heap.size 3 1 (.slice (some ⟨w.heap.size + 1, 0, none⟩) 1 1) 1 (ints [at_ + 1]) from own_base hown (by omega))
    have x0 := HX2.out.cell 0
    have x1 := HX2.out.cell 1
    have HFC := Lib.hid (HF.out _ hb2)
    have HB2 := Lib.hid hb2
    have hs2 : w.heap.size < ((w.alloc (.cells #[.slice A n c, .slice A' n' c'] 32)).alloc (.cells #[.int .i64 ((at_ : Int) + 1)] 3)).heap.size := by simp; omega
    clear hb2 hown HB1 HX1 HF
    generalize ((w.alloc (.cells #[.slice A n c, .slice A' n' c'] 32)).alloc (.cells #[.int .i64 ((at_ : Int) + 1)] 3)) = W2 at *
    go_wp2_with fail
    refine HFC.out.mono ?_
    rintro e W3 ⟨rfl, hb3⟩
    have HB3 := Lib.hid (below_top HB2.out hb3)
    have HOW3 := Lib.hid (own_below HOW2.out hb3)
    have HX3 := Lib.hid (HX2.out.below hb3 HX2.out.lt)
    clear hb3 HFC HB2 HOW2 HX2 x0 x1 hs2
    go_wp2_with fail
    go_loopw [6, 8] (fun lv iv wr => ∃ i : Nat, iv = .int .i64 i ∧ i ≤ fl ∧ wr.ownsRow w.heap.size 3 1 lv (i + 1) (ints (fldL at_ i)) ∧ Blk wr w.heap.size 32 #[.slice A n c, .slice A' n' c'] ∧ Below w.heap.size w wr) (fun _ iv _ => fl - (intOf iv).toNat)
    case atStart => exact ⟨0, rfl, Nat.zero_le _, HOW3.out, HX3.out, HB3.out⟩
    case round =>
      clear HB3 HOW3 HX3
      obtain ⟨i, rfl, hi, hown, hx, hb⟩ := hrel
      have HOW := Lib.hid hown
      have HX := Lib.hid hx
      have HB := Lib.hid hb
      have x0 := hx.cell 0
      have x1 := hx.cell 1
      have HSZ := Lib.hid (HZ.out wr hb)
      clear hown hx hb
      have hww := Nat.le_trans (Nat.add_le_add_left hi (at_ + 3)) h3'
      by_cases hlt : i < fl
      · have hw3 : wrap64 ((at_ : Int) + 3) = (at_ : Int) + 3 := wrS3 h3'
        have hw4 : wrap64 ((at_ : Int) + 3 + (i : Int)) = (at_ : Int) + 3 + (i : Int) := wrS4 hww
        have HSN := Lib.hid (fldL_snoc at_ i)
        have HLT := Lib.hid hlt
        have hi2 : i ≤ 1048576 := Nat.le_trans (Nat.le_add_left _ _) hww
        go_wp2_with fail
        refine HSZ.out.mono ?_
        rintro e w5 ⟨rfl, hb5⟩
        have HOW5 := Lib.hid (own_below HOW.out hb5)
        have HX5 := Lib.hid (HX.out.below hb5 HX.out.lt)
        have HB5 := Lib.hid (below_top HB.out hb5)
        clear hb5 HSZ HOW HX HB x0 x1
        have hs5 := HB5.out.size
        go_wp2_with (at_builtin; refine wpList_append_any _ rfl (.tmp 28) (.tmp 33) _ rfl w.heap.size 3 i0 _ 1 8 Tryd.underlying78 hi0 hz0 hz1 hz2 rfl (by omega) u6 (i + 1) _ rfl (HOW5.out.alloc _) (w5.heap.size + 1) (some ⟨w5.heap.size, 0, none⟩) 1 1 [.int .i64 ((at_ : Int) + 3 + (i : Int))] rfl ⟨rfl, fun _ => ⟨_, rfl, by first | exact Nat.zero_lt_one | decide | simp, cell_one_new _ _ _⟩⟩ (fun u hu => by rcases List.mem_singleton.1 hu with rfl; rfl) (by simp only [maxLen]; omega) (by omega) (by first | omega | (simp; omega)) ?_; intro v1 w6 hown6 hgrow hat6)
        have hb6 := below_grown (Nat.le_refl _) (HB5.out.alloc hs5 _) hgrow (fun q hq => (HOW5.out.lt q hq).1)
        have hx6 := HX5.out
        go_roundw
        case rel => exact ⟨i + 1, by go_num, HLT.out, by rw [HSN.out, ints_appK]; exact hown6, (HX5.out.alloc _).same (hgrow.block _ (by have := HX5.out.lt; simp; omega) (fun e => own_ne_blk HOW5.out HX5.out (by decide) (by first | exact e | exact e.symm))), hb6⟩
        case measure => have := HLT.out; simp [intOf]; omega
      · obtain rfl : i = fl := by omega
        have hlt' : decide ((i : Int) < (i : Int)) = false := by simp
        have HE := Lib.hid (And.intro HOW.out HB.out)
        clear HOW HB HX hi hlt hww
        go_wp2_with fail
        refine HSZ.out.mono ?_
        rintro e w5 ⟨rfl, hb5⟩
        have HOW5 := Lib.hid (own_below HE.out.1 hb5)
        have HB5 := Lib.hid (below_top HE.out.2 hb5)
        obtain ⟨A5, c5, hv5⟩ := own_val HOW5.out
        subst hv5
        clear hb5 HSZ HE x0 x1
        go_wp2_with fail
        go_ret2
        exact ⟨_, by rw [fldL_len]; rfl, by rw [fldL_len]; exact HOW5.out, HB5.out⟩
  · have hn1 := HN2.out (.inr rfl)
    have hho := HHO.out
    rw [if_pos rfl] at hho
    subst hho
    subst hn1
    clear HN1 HN2 HHO
    go_enter Tryd.func62, Tryd.ntmps62
    go_upto_region 2 with fail
    have hb2 := HB1.out.alloc HB1.out.size (.cells #[.int .i64 ((at_ : Int) + 1)] 3)
    have HX2 := Lib.hid (HX1.out.alloc (.cells #[.int .i64 ((at_ : Int) + 1)] 3))
    have hown := ownI_new (w.alloc (.cells #[.slice A n c, .slice A' n' c'] 32)) ((at_ : Int) + 1)
    rw [World.size_alloc] at hown
    have HOW2 := Lib.hid (show ((w.alloc (.cells #[.slice A n c, .slice A' n' c'] 32)).alloc (.cells #[.int .i64 ((at_ : Int) + 1)] 3)).ownsRow w.heap.size 3 1 (.slice (some ⟨w.heap.size + 1, 0, none⟩) 1 1) 1 (ints [at_ + 1]) from own_base hown (by omega))
    have x0 := HX2.out.cell 0
    have x1 := HX2.out.cell 1
    have HFC := Lib.hid (HF.out _ hb2)
    have HB2 := Lib.hid hb2
    have hs2 : w.heap.size < ((w.alloc (.cells #[.slice A n c, .slice A' n' c'] 32)).alloc (.cells #[.int .i64 ((at_ : Int) + 1)] 3)).heap.size := by simp; omega
    clear hb2 hown HB1 HX1 HF
    generalize ((w.alloc (.cells #[.slice A n c, .slice A' n' c'] 32)).alloc (.cells #[.int .i64 ((at_ : Int) + 1)] 3)) = W2 at *
    go_wp2_with fail
    refine HFC.out.mono ?_
    rintro e W3 ⟨rfl, hb3⟩
    have HB3 := Lib.hid (below_top HB2.out hb3)
    have HOW3 := Lib.hid (own_below HOW2.out hb3)
    have HX3 := Lib.hid (HX2.out.below hb3 HX2.out.lt)
    clear hb3 HFC HB2 HOW2 HX2 x0 x1 hs2
    go_wp2_with fail
    go_loopw [6, 8] (fun lv iv wr => ∃ i : Nat, iv = .int .i64 i ∧ i ≤ fl ∧ wr.ownsRow w.heap.size 3 1 lv (i + 1) (ints (fldL at_ i)) ∧ Blk wr w.heap.size 32 #[.slice A n c, .slice A' n' c'] ∧ Below w.heap.size w wr) (fun _ iv _ => fl - (intOf iv).toNat)
    case atStart => exact ⟨0, rfl, Nat.zero_le _, HOW3.out, HX3.out, HB3.out⟩
    case round =>
      clear HB3 HOW3 HX3
      obtain ⟨i, rfl, hi, hown, hx, hb⟩ := hrel
      have HOW := Lib.hid hown
      have HX := Lib.hid hx
      have HB := Lib.hid hb
      have x0 := hx.cell 0
      have x1 := hx.cell 1
      have HSZ := Lib.hid (HZ.out wr hb)
      clear hown hx hb
      have hww := Nat.le_trans (Nat.add_le_add_left hi (at_ + 3)) h3'
      by_cases hlt : i < fl
      · have hw3 : wrap64 ((at_ : Int) + 3) = (at_ : Int) + 3 := wrS3 h3'
        have hw4 : wrap64 ((at_ : Int) + 3 + (i : Int)) = (at_ : Int) + 3 + (i : Int) := wrS4 hww
        have HSN := Lib.hid (fldL_snoc at_ i)
        have HLT := Lib.hid hlt
        have hi2 : i ≤ 1048576 := Nat.le_trans (Nat.le_add_left _ _) hww
        go_wp2_with fail
        refine HSZ.out.mono ?_
        rintro e w5 ⟨rfl, hb5⟩
        have HOW5 := Lib.hid (own_below HOW.out hb5)
        have HX5 := Lib.hid (HX.out.below hb5 HX.out.lt)
        have HB5 := Lib.hid (below_top HB.out hb5)
        clear hb5 HSZ HOW HX HB x0 x1
        have hs5 := HB5.out.size
        go_wp2_with (at_builtin; refine wpList_append_any _ rfl (.tmp 28) (.tmp 33) _ rfl w.heap.size 3 i0 _ 1 8 Tryd.underlying78 hi0 hz0 hz1 hz2 rfl (by omega) u6 (i + 1) _ rfl (HOW5.out.alloc _) (w5.heap.size + 1) (some ⟨w5.heap.size, 0, none⟩) 1 1 [.int .i64 ((at_ : Int) + 3 + (i : Int))] rfl ⟨rfl, fun _ => ⟨_, rfl, by first | exact Nat.zero_lt_one | decide | simp, cell_one_new _ _ _⟩⟩ (fun u hu => by rcases List.mem_singleton.1 hu with rfl; rfl) (by simp only [maxLen]; omega) (by omega) (by first | omega | (simp; omega)) ?_; intro v1 w6 hown6 hgrow hat6)
        have hb6 := below_grown (Nat.le_refl _) (HB5.out.alloc hs5 _) hgrow (fun q hq => (HOW5.out.lt q hq).1)
        have hx6 := HX5.out
        go_roundw
        case rel => exact ⟨i + 1, by go_num, HLT.out, by rw [HSN.out, ints_appK]; exact hown6, (HX5.out.alloc _).same (hgrow.block _ (by have := HX5.out.lt; simp; omega) (fun e => own_ne_blk HOW5.out HX5.out (by decide) (by first | exact e | exact e.symm))), hb6⟩
        case measure => have := HLT.out; simp [intOf]; omega
      · obtain rfl : i = fl := by omega
        have hlt' : decide ((i : Int) < (i : Int)) = false := by simp
        have HE := Lib.hid (And.intro HOW.out HB.out)
        clear HOW HB HX hi hlt hww
        go_wp2_with fail
        refine HSZ.out.mono ?_
        rintro e w5 ⟨rfl, hb5⟩
        have HOW5 := Lib.hid (own_below HE.out.1 hb5)
        have HB5 := Lib.hid (below_top HE.out.2 hb5)
        obtain ⟨A5, c5, hv5⟩ := own_val HOW5.out
        subst hv5
        clear hb5 HSZ HE x0 x1
        go_wp2_with fail
        go_ret2
        exact ⟨_, rfl, by rw [fldL_len]; exact HOW5.out, HB5.out⟩
end
end Go.Proofs.YtblekggklimpeaaDoor

namespace Go.Proofs.YtblekggklimpeaaDoor
open Go.RowKit
attribute [local go_sem] Oper.semAt_some
theorem rkind_any (o : Nat) (ho : o < 4294967296) (w : World) :
    Calls Tryd.prog 27 #[.int .u32 o] w fun e w' => e = .returned (.int .i64 (kindM o)) ∧ w = w' := by
  by_cases h0 : o = 0
  · subst h0
    go_enter Tryd.func27, Tryd.ntmps27
    go_wp2_with fail
    go_ret
    exact ⟨rfl, rfl⟩
  · have hb : ((o : Int) == 0) = false := by simpa using h0
    by_cases h2 : o % 2 = 1
    · have h1 : (((o : Int) % 2) == 1) = true := by simp; omega
      have HK := Lib.hid (show kindM o = 1 by simp [kindM, h0, h2]); clear h2 h0
      go_enter Tryd.func27, Tryd.ntmps27
      go_wp2_with fail
      go_ret
      exact ⟨by rw [HK.out]; rfl, rfl⟩
    · have h1 : (((o : Int) % 2) == 1) = false := by simp; omega
      have HK := Lib.hid (show kindM o = 2 by simp [kindM, h0, h2]); clear h2 h0
      go_enter Tryd.func27, Tryd.ntmps27
      go_wp2_with fail
      go_ret
      exact ⟨by rw [HK.out]; rfl, rfl⟩
theorem own_ne_own {w : World} {B B' s s' n n' : Nat} {e e' : TypeId} {v v' : Value} {xs xs' : List Value} (h : w.ownsRow B e s v n xs) (k : w.ownsRow B' e' s' v' n' xs') (hne : e ≠ e') : ∀ q, v.ownBlock = some q → v'.ownBlock ≠ some q := by
  intro q hq
  rcases k.2 with ⟨rfl, _⟩ | ⟨g', cap, cur, rfl, _, h3, _⟩
  · intro e; cases e
  · intro e2
    injection e2 with e2
    subst e2
    exact own_ne_blk h h3 hne hq
theorem kind2 {o : Nat} (h : kindM o = 2) : o = 2 * (o / 2) ∧ o ≠ 0 := by
  unfold kindM at h
  split at h
  · cases h
  · split at h
    · cases h
    · omega
set_option maxRecDepth 100000 in
set_option maxHeartbeats 4000000 in
theorem rput_any {w : World} {B gx gs N : Nat} {vl vc : Value} {L : Wk} (K : WkAt w B gx gs N vl vc L) (hB : B ≤ w.heap.size) {o : Nat} (ho : o < 4294967296) (hk : kindM o = 2 → o / 2 < N) (by_ : Int) (hl : L.length ≤ 4194304) :
    Calls Tryd.prog 84 #[.pointer (some ⟨gx, 0, none⟩), .int .u32 o, .int .i64 by_] w (RputP B gx gs N vl vc (putW L o by_) w) := by
  have HK := Lib.hid (rkind_any o ho w)
  by_cases hk2 : kindM o = 2
  case neg =>
    have e2 : ((kindM o : Int) != 2) = true := by simp; omega
    have HF := Lib.hid (show putW L o by_ = L from putW_old (fun e => hk2 e.1))
    have HG := Lib.hid K
    clear hk2 K hk
    generalize kindM o = k at *
    go_enter Tryd.func84, Tryd.ntmps84
    go_wp2_with fail
    refine HK.out.mono ?_
    rintro e w' ⟨rfl, rfl⟩
    go_wp2_with fail
    refine bodyPost_ret (v := .tuple #[]) (by simp [results, Tryd.results84, go_sem]) rfl ?_
    exact ⟨rfl, vl, vc, by rw [HF.out]; exact HG.out, .refl _ _ _ _ _⟩
  case pos =>
  rw [hk2] at HK
  have hi := hk hk2
  have HO2 := Lib.hid (kind2 hk2).1
  have hN : N ≤ 9223372036854775807 := by
    have h1 := K.seen.len_le
    obtain ⟨cur, _, _, hm, _⟩ := K.seen
    simp only [maxLen] at hm
    omega
  have c0 := K.box.cell 0
  have c1 := K.box.cell 1
  have c2 := K.box.cell 2
  have hsc := K.seen.cell (markL_get (metO L) hi)
  have hq : ((o : Int)).tdiv 2 = ((o / 2 : Nat) : Int) := by rw [Int.tdiv_eq_ediv_of_nonneg (by omega)]; omega
  have hq2 : ((o : Int)) / 2 = ((o / 2 : Nat) : Int) := by omega
  have hw64 : wrap64 ((o / 2 : Nat) : Int) = ((o / 2 : Nat) : Int) := IntWalk.wrap64_in _ (by omega)
  have HNEW := Lib.hid (fun (hm : o ∉ metO L) => putW_new (b := by_) hk2 hm)
  have HOLD := Lib.hid (fun (hm : o ∈ metO L) => putW_old (o := o) (b := by_) (l := L) (fun e => e.2 hm))
  rw [← (kind2 hk2).1] at hsc
  clear hk hk2
  generalize o / 2 = i at *
  by_cases hm : o ∈ metO L
  · rw [decide_eq_true hm] at hsc
    have HF := Lib.hid (HOLD.out hm)
    have HG := Lib.hid K
    clear hm K HOLD HNEW
    go_enter Tryd.func84, Tryd.ntmps84
    go_wp2_with fail
    refine HK.out.mono ?_
    rintro e w' ⟨rfl, rfl⟩
    go_wp2_with fail
    refine bodyPost_ret (v := .tuple #[]) (by simp [results, Tryd.results84, go_sem]) rfl ?_
    exact ⟨rfl, vl, vc, by rw [HF.out]; exact HG.out, .refl _ _ _ _ _⟩
  · rw [decide_eq_false hm] at hsc
    have HF := Lib.hid (HNEW.out hm)
    have HG := Lib.hid K
    clear hm K HOLD HNEW
    have z2 := HG.out.seen.frozen i
    obtain ⟨i0, hi0, hz0, hz1, hz2⟩ := info_parts info_oop
    obtain ⟨j0, hj0, hy0, hy1, hy2⟩ := info_parts info_intK
    go_enter Tryd.func84, Tryd.ntmps84
    go_wp2_with fail
    refine HK.out.mono ?_
    rintro e w' ⟨rfl, rfl⟩
    go_upto_region 2 with fail
    have hs2 : ∀ q, q ≠ gs → (w.setCell ⟨gs, i, none⟩ (.bool true)).heap[q]? = w.heap[q]? := fun q hq => Below.heap_setCell w ⟨gs, i, none⟩ _ q hq
    have nGS : gs ≠ gx := HG.out.seen.ne_blk HG.out.box (by decide)
    have hNL : vl.ownBlock ≠ some gs := by obtain ⟨cur, hb, _⟩ := HG.out.seen; exact own_ne_blk HG.out.list hb (by decide)
    have hNC : vc.ownBlock ≠ some gs := by obtain ⟨cur, hb, _⟩ := HG.out.seen; exact own_ne_blk HG.out.came hb (by decide)
    have HBX := Lib.hid (HG.out.box.same (hs2 gx nGS.symm))
    have HOL := Lib.hid (own_keep HG.out.list (fun q hq => hs2 q (fun e => hNL (e ▸ hq))))
    have HOC := Lib.hid (own_keep HG.out.came (fun q hq => hs2 q (fun e => hNC (e ▸ hq))))
    have HSN := Lib.hid (show Row (w.setCell ⟨gs, i, none⟩ (.bool true)) gs 4 N (bools (markL (metO L ++ [o]) N)) by
      have := HG.out.seen.set i (.bool true)
      rw [markL_set, ← HO2.out] at this
      exact this)
    have HS2 := Lib.hid (show (w.setCell ⟨gs, i, none⟩ (.bool true)).os = w.os ∧ (w.setCell ⟨gs, i, none⟩ (.bool true)).tape = w.tape ∧ (w.setCell ⟨gs, i, none⟩ (.bool true)).output = w.output ∧ (w.setCell ⟨gs, i, none⟩ (.bool true)).heap.size = w.heap.size ∧ ∀ q, q ≠ gs → (w.setCell ⟨gs, i, none⟩ (.bool true)).heap[q]? = w.heap[q]? from ⟨rfl, rfl, rfl, by simp [World.setCell], hs2⟩)
    have HGM := Lib.hid (And.intro HG.out.hg HG.out.hs)
    have hB2 : B ≤ (w.setCell ⟨gs, i, none⟩ (.bool true)).heap.size := by rw [HS2.out.2.2.2.1]; exact hB
    clear hs2 nGS hNL hNC HG c0 c1 c2 hsc z2 hq hq2 hw64 hi HK
    generalize w.setCell ⟨gs, i, none⟩ (.bool true) = w2 at *
    have c0 := HBX.out.cell 0
    have HNL := Lib.hid (own_ne_blk HOL.out HBX.out (by decide))
    have HNC := Lib.hid (own_ne_blk HOC.out HBX.out (by decide))
    go_upto_region 3 with (at_builtin; refine wpList_append_any _ rfl (.tmp 32) (.tmp 34) _ rfl B 41 i0 _ 1 4 Tryd.underlying23 hi0 hz0 hz1 hz2 rfl (by omega) vl L.length _ rfl (own_keep HOL.out (fun q hq => Below.heap_alloc w2 (.cells #[.int .u32 (o : Int)] 41) q (HOL.out.lt q hq).2)) (w2.heap.size + 1) (some ⟨w2.heap.size, 0, none⟩) 1 1 (u32s [o]) rfl ⟨rfl, fun _ => ⟨_, rfl, by simp, cell_one_new _ _ _⟩⟩ (one_u32 _) (by simp only [maxLen]; omega) (by omega) (by simp; omega) ?_; intro v1 w3 hown3 hgrow3 hat3; obtain ⟨A3, c3, rfl⟩ := own_val hown3; have HG3 := Lib.hid (fun q (hq : q < w2.heap.size) (hn : vl.ownBlock ≠ some q) => (hgrow3.block q (by simp; omega) (fun e => hn (by first | exact e | exact e.symm))).trans (Below.heap_alloc w2 (.cells #[.int .u32 (o : Int)] 41) q hq)); have HBX3 := Lib.hid (HBX.out.same (HG3.out gx HBX.out.lt HNL.out)); have hz3 := HBX3.out.frozen 0; have hc3 := HBX3.out.cell 0)
    have HS3 := Lib.hid (show w2.heap.size ≤ w3.heap.size from Nat.le_trans (by rw [World.size_alloc]; exact Nat.le_succ _) hgrow3.size)
    have HT3 := Lib.hid (show w3.os = w2.os ∧ w3.tape = w2.tape ∧ w3.output = w2.output from ⟨hgrow3.os, hgrow3.tape, hgrow3.output⟩)
    have HV1 := Lib.hid (show (Value.slice A3 (L.length + 1) c3).ownBlock = vl.ownBlock ∨ ∃ q, (Value.slice A3 (L.length + 1) c3).ownBlock = some q ∧ w2.heap.size ≤ q from by
      rcases hat3 with e | e
      · exact .inl e
      · exact .inr ⟨_, e, by simp⟩)
    have HVC := Lib.hid (own_ne_own HOL.out HOC.out (by decide))
    have hset : ∀ q, q ≠ gx → (w3.setCell ⟨gx, 0, none⟩ (.slice A3 (L.length + 1) c3)).heap[q]? = w3.heap[q]? := fun q hq => Below.heap_setCell w3 ⟨gx, 0, none⟩ _ q hq
    have HN1 := Lib.hid (own_ne_blk hown3 HBX3.out (by decide))
    have HOL4 := Lib.hid (own_keep hown3 (fun q hq => hset q (fun e => HN1.out (e ▸ hq))))
    have HOC4 := Lib.hid (own_keep HOC.out (w' := w3.setCell ⟨gx, 0, none⟩ (.slice A3 (L.length + 1) c3)) (fun q hq => (hset q (fun e => HNC.out (e ▸ hq))).trans (HG3.out q (HOC.out.lt q hq).2 (fun e => HVC.out q e hq))))
    have HBX4 := Lib.hid (HBX3.out.set_ 0 (.slice A3 (L.length + 1) c3))
    have HG4 := Lib.hid (show ∀ q, q < w2.heap.size → q ≠ gx → vl.ownBlock ≠ some q → (w3.setCell ⟨gx, 0, none⟩ (.slice A3 (L.length + 1) c3)).heap[q]? = w2.heap[q]? from fun q h1 h2 h3 => (hset q h2).trans (HG3.out q h1 h3))
    have HT4 := Lib.hid (show (w3.setCell ⟨gx, 0, none⟩ (.slice A3 (L.length + 1) c3)).os = w2.os ∧ (w3.setCell ⟨gx, 0, none⟩ (.slice A3 (L.length + 1) c3)).tape = w2.tape ∧ (w3.setCell ⟨gx, 0, none⟩ (.slice A3 (L.length + 1) c3)).output = w2.output ∧ w2.heap.size ≤ (w3.setCell ⟨gx, 0, none⟩ (.slice A3 (L.length + 1) c3)).heap.size from ⟨HT3.out.1, HT3.out.2.1, HT3.out.2.2, by simp [World.setCell]; exact HS3.out⟩)
    clear hown3 hgrow3 hat3 HG3 HBX3 hz3 hc3 hset c0 HS3 HT3 HOC
    generalize w3.setCell ⟨gx, 0, none⟩ (.slice A3 (L.length + 1) c3) = w4 at *
    have hB4 : B ≤ w4.heap.size := Nat.le_trans hB2 HT4.out.2.2.2
    have c1 : w4.cell? ⟨gx, 1, none⟩ = some vc := HBX4.out.cell 1
    obtain ⟨Ac, cc, hvc⟩ := own_val HOC4.out
    subst hvc
    have hLl : (L.map (·.2)).length = L.length := List.length_map _
    go_wp2_with (at_builtin; refine wpList_append_any _ rfl (.tmp 42) (.tmp 44) _ rfl B 3 j0 _ 1 8 Tryd.underlying78 hj0 hy0 hy1 hy2 rfl (by omega) (.slice Ac L.length cc) L.length _ rfl (own_keep HOC4.out (fun q hq => Below.heap_alloc w4 (.cells #[.int .i64 by_] 3) q (HOC4.out.lt q hq).2)) (w4.heap.size + 1) (some ⟨w4.heap.size, 0, none⟩) 1 1 (zsK [by_]) rfl ⟨rfl, fun _ => ⟨_, rfl, by simp, cell_one_new _ _ _⟩⟩ (one_zsK _) (by simp only [maxLen]; omega) (by omega) (by simp; omega) ?_; intro v5 w5 hown5 hgrow5 hat5; obtain ⟨A5, c5, rfl⟩ := own_val hown5; have HG5 := Lib.hid (fun q (hq : q < w4.heap.size) (hn : (Value.slice Ac L.length cc).ownBlock ≠ some q) => (hgrow5.block q (by simp; omega) (fun e => hn (by first | exact e | exact e.symm))).trans (Below.heap_alloc w4 (.cells #[.int .i64 by_] 3) q hq)); have HBX5 := Lib.hid (HBX4.out.same (HG5.out gx HBX4.out.lt (own_ne_blk HOC4.out HBX4.out (by decide)))); have hz5 := HBX5.out.frozen 1; have hc5 := HBX5.out.cell 1)
    have HFIN := Lib.hid (show RputP B gx gs N vl (.slice Ac L.length cc) (L ++ [(o, by_)]) w (.returned (.tuple #[])) (w5.setCell ⟨gx, 1, none⟩ (.slice A5 (L.length + 1) c5)) from by
      have hset : ∀ q, q ≠ gx → (w5.setCell ⟨gx, 1, none⟩ (.slice A5 (L.length + 1) c5)).heap[q]? = w5.heap[q]? := fun q hq => Below.heap_setCell w5 ⟨gx, 1, none⟩ _ q hq
      have hs5 : w4.heap.size ≤ w5.heap.size := Nat.le_trans (by rw [World.size_alloc]; exact Nat.le_succ _) hgrow5.size
      have hs42 : w2.heap.size ≤ w4.heap.size := HT4.out.2.2.2
      have hs2 : w2.heap.size = w.heap.size := HS2.out.2.2.2.1
      have hgsx : gs ≠ gx := HSN.out.ne_blk HBX.out (by decide)
      have hNL : vl.ownBlock ≠ some gs := by obtain ⟨cur, hb, _⟩ := HSN.out; exact own_ne_blk HOL.out hb (by decide)
      have hsn4 : Row w4 gs 4 N (bools (markL (metO L ++ [o]) N)) := HSN.out.same (HG4.out gs HSN.out.lt hgsx hNL)
      have hNC : (Value.slice Ac L.length cc).ownBlock ≠ some gs := by obtain ⟨cur, hb, _⟩ := hsn4; exact own_ne_blk HOC4.out hb (by decide)
      have hsame : ∀ q, q < w.heap.size → q ≠ gx → q ≠ gs → vl.ownBlock ≠ some q → (Value.slice Ac L.length cc).ownBlock ≠ some q → (w5.setCell ⟨gx, 1, none⟩ (.slice A5 (L.length + 1) c5)).heap[q]? = w.heap[q]? := fun q h1 h2 h3 h4 h5 =>
        (hset q h2).trans ((HG5.out q (by omega) h5).trans ((HG4.out q (by omega) h2 h4).trans (HS2.out.2.2.2.2 q h3)))
      have hl5 : w5.ownsRow B 41 1 (.slice A3 (L.length + 1) c3) (L.length + 1) (u32s (metO L) ++ u32s [o]) := own_keep HOL4.out (fun q hq => HG5.out q (HOL4.out.lt q hq).2 (fun e => own_ne_own HOL4.out HOC4.out (by decide) q hq e))
      refine ⟨rfl, .slice A3 (L.length + 1) c3, .slice A5 (L.length + 1) c5, ⟨HBX5.out.set_ 1 _, ?_, ?_, ?_, HGM.out.1, HGM.out.2⟩, ⟨?_, ?_, ?_, ?_, hsame, ?_⟩⟩
      · rw [metO_snoc, u32s_app, List.length_append]
        exact own_keep hl5 (fun q hq => hset q (fun e => own_ne_blk hl5 HBX5.out (by decide) (e ▸ hq)))
      · rw [List.map_append, zsK_app, List.length_append]
        exact own_keep hown5 (fun q hq => hset q (fun e => own_ne_blk hown5 HBX5.out (by decide) (e ▸ hq)))
      · rw [metO_snoc]
        exact hsn4.same ((hset gs hgsx).trans (HG5.out gs hsn4.lt hNC))
      · exact hgrow5.os.trans (HT4.out.1.trans HS2.out.1)
      · exact hgrow5.tape.trans (HT4.out.2.1.trans HS2.out.2.1)
      · exact hgrow5.output.trans (HT4.out.2.2.1.trans HS2.out.2.2.1)
      · simp [World.setCell]; omega
      · intro q h1 h2 h3
        constructor
        · rcases HV1.out with e | ⟨j, e, hj⟩
          · rw [e]; exact h2
          · rw [e]; intro e2; injection e2 with e2; omega
        · rcases hat5 with e | e
          · intro e2; exact h3 (e ▸ e2)
          · intro e2; rw [e] at e2; injection e2 with e2; simp at e2; omega)
    rw [← HF.out] at HFIN
    refine bodyPost_end (v := .tuple #[]) (by simp [results, Tryd.results84, go_sem]) rfl ?_
    exact HFIN.out
end Go.Proofs.YtblekggklimpeaaDoor

namespace Go.Proofs.YtblekggklimpeaaDoor
open Go.RowKit
attribute [local go_sem] Oper.semAt_some
theorem wrK {n : Nat} (h : n ≤ 1048576) : wrap64 (n : Int) = (n : Int) := IntWalk.wrap64_in _ (by omega)
theorem wrK3 {n : Nat} (h : n ≤ 1048576) : wrap64 ((n : Int) + 3) = (n : Int) + 3 := IntWalk.wrap64_in _ (by omega)
theorem wrK4 {n : Nat} (h : n ≤ 1048576) : wrap64 (3 + (n : Int)) = 3 + (n : Int) := IntWalk.wrap64_in _ (by omega)
theorem wrK5 {a n : Nat} (h : a + 3 + n ≤ 1048576) : wrap64 ((a : Int) + (3 + (n : Int))) = (a : Int) + (3 + (n : Int)) := IntWalk.wrap64_in _ (by omega)
theorem leK {a b : Nat} (h : a + 3 ≤ b) : decide ((a : Int) + 3 ≤ (b : Int)) = true := decide_eq_true (by omega)
theorem measK {a f n : Nat} (h : a + 3 + f ≤ n) : n + 3 - ((a : Int) + (3 + (f : Int))).toNat < n + 3 - ((a : Int)).toNat := by omega
theorem posK {a f p : Nat} (h : p = a + (3 + f)) : (a : Int) + (3 + (f : Int)) = (p : Int) := by omega
theorem ltK {n : Nat} : decide ((n : Int) + 3 ≤ (n : Int)) = false := decide_eq_false (by omega)
theorem idxL_len (l : List Ob) : (idxL l).length = l.length := by unfold idxL; simp
theorem idxL_take (l : List Ob) {k : Nat} (hk : k < l.length) : (idxL l).take (k + 1) = (idxL l).take k ++ [posOf (l.take k)] := by
  rw [List.take_add_one, List.getElem?_eq_getElem (by rw [idxL_len]; exact hk)]
  unfold idxL
  simp
section
variable {w : World} {h : HM} {l : List Ob} {A A' : Option Addr} {n c n' c' : Nat}
/-- What Objects answers. -/
def IntsP (xs : List Nat) (w : World) (e : Ending) (w' : World) : Prop :=
  ∃ v, e = .returned v ∧ w'.ownsRow w.heap.size 3 1 v xs.length (ints xs) ∧ Below w.heap.size w w'
set_option maxRecDepth 100000 in
set_option maxHeartbeats 4000000 in
theorem robjects_any (G : h.Good l) (hr : Reads w w.heap.size 1 A n (u32s h.words)) :
    Calls Tryd.prog 59 #[StV A n c A' n' c'] w (IntsP (idxL l) w) := by
  have hln : n = h.words.length := by have := hr.1; rw [u32s_len] at this; omega
  subst hln
  have hwl : h.words.length ≤ 1048576 := by have := G.fit.room; have := G.fit.hi; omega
  have hBX := (Below.refl w.heap.size w).alloc (Nat.le_refl _) (.cells #[.slice A h.words.length c, .slice A' n' c'] 32)
  have HB := Lib.hid hBX
  have HX := Lib.hid (Blk.new w 32 #[.slice A h.words.length c, .slice A' n' c'])
  have HR := Lib.hid ((hr.below hBX).more hBX.size)
  have HG := Lib.hid G
  have hl2 : l.length ≤ 1048576 := by have h1 := oopsL_le G; rw [oopsL_len] at h1; exact h1
  have HEND := Lib.hid (show posOf (l.take l.length) = h.words.length by rw [List.take_length, G.laid.words, List.length_cons]; unfold posOf; omega)
  obtain ⟨i0, hi0, hz0, hz1, hz2⟩ := info_parts info_intK
  clear hBX hr G
  unfold StV
  go_enter Tryd.func59, Tryd.ntmps59
  go_wp2_with fail
  have hw1 : w.heap.size < (w.alloc (.cells #[.slice A h.words.length c, .slice A' n' c'] 32)).heap.size := by simp
  generalize w.alloc (.cells #[.slice A h.words.length c, .slice A' n' c'] 32) = W1 at *
  go_loopw [3, 4] (fun lv iv wr => ∃ k : Nat, k ≤ l.length ∧ iv = .int .i64 (posOf (l.take k) : Nat) ∧ wr.ownsRow W1.heap.size 3 1 lv k (ints ((idxL l).take k)) ∧ Below W1.heap.size W1 wr) (fun _ iv _ => h.words.length + 3 - (intOf iv).toNat)
  case atStart => exact ⟨0, by omega, rfl, ⟨rfl, .inl ⟨rfl, rfl⟩⟩, Below.refl _ _⟩
  case round =>
    obtain ⟨k, hk, rfl, hown, hb⟩ := hrel
    have HOW := Lib.hid hown
    have HBR := Lib.hid hb
    clear hown hb
    have x0 := (HX.out.below HBR.out HX.out.lt).cell 0
    by_cases hlt : k < l.length
    · obtain ⟨h0, h1, -, h3⟩ := w0_parts HG.out hlt
      have hps : posOf (l.take (k + 1)) = posOf (l.take k) + (3 + (l[k]).fs.length) := by
        unfold posOf
        rw [List.take_add_one, List.getElem?_eq_getElem hlt, wsOf_app, List.length_append, Option.toList_some, wsOf_cons, wsOf_nil, List.append_nil, Ob.ws_len]
        omega
      have HPS := Lib.hid hps
      have HIX := Lib.hid (idxL_take l hlt)
      have hpl : posOf (l.take k) < h.words.length := by omega
      obtain ⟨ad, u, rfl, hbl, hu, hc1⟩ := HR.out.at_ hpl
      rw [u32s_get hpl, h0] at hu
      injection hu with hu
      subst hu
      have HCW := Lib.hid (show ∀ w' : World, Below W1.heap.size W1 w' → w'.cell? (ad.add (posOf (l.take k))) = some (.int .u32 ((l[k]).x.w0 : Int)) from fun w' hb => (World.cell?_of_block (a := ad.add (posOf (l.take k))) (by rw [block_of_add]; exact hb.block _ hbl)).trans hc1)
      have hc := HCW.out wr HBR.out
      clear hc1
      have HM := Lib.hid (show (((l[k]).x.w0 : Int)).tmod 16777216 = ((l[k]).fs.length : Int) by rw [← h1]; exact (Int.ofNat_tmod _ _).symm)
      have hB1 : W1.heap.size ≤ wr.heap.size := HBR.out.size
      clear h0 h1 hps
      generalize (idxL l).take k = xs at *
      generalize posOf (l.take k) = at_ at *
      generalize (l[k]).x.w0 = w0 at *
      generalize (l[k]).fs.length = fl at *
      have hw3 : wrap64 ((at_ : Int) + 3) = (at_ : Int) + 3 := wrK3 (Nat.le_trans (Nat.le_of_lt hpl) hwl)
      have hw4 : wrap64 (3 + (fl : Int)) = 3 + (fl : Int) := wrK4 (Nat.le_trans (Nat.le_trans (Nat.le_add_left _ _) h3) hwl)
      have hw5 : wrap64 ((at_ : Int) + (3 + (fl : Int))) = (at_ : Int) + (3 + (fl : Int)) := wrK5 (Nat.le_trans h3 hwl)
      have hfl : fl ≤ 1048576 := Nat.le_trans (Nat.le_trans (Nat.le_add_left _ _) h3) hwl
      have hw64 := wrK hfl
      have hd : decide ((at_ : Int) + 3 ≤ (h.words.length : Int)) = true := leK (Nat.le_trans (Nat.le_add_right _ _) h3)
      have hk2 : k ≤ 1048576 := Nat.le_trans hk hl2
      have HLT := Lib.hid hlt
      have HPL := Lib.hid hpl
      have HH3 := Lib.hid h3
      clear h3 hpl hbl hfl hlt hk
      go_wp2_with (at_builtin; refine wpList_append_any _ rfl (.tmp 11) (.tmp 13) _ rfl W1.heap.size 3 i0 _ 1 8 Tryd.underlying78 hi0 hz0 hz1 hz2 rfl (by omega) u3 k _ rfl (HOW.out.alloc _) (wr.heap.size + 1) (some ⟨wr.heap.size, 0, none⟩) 1 1 (ints [at_]) rfl ⟨rfl, fun _ => ⟨_, rfl, by simp, cell_one_new _ _ _⟩⟩ (one_intsK _) (by simp only [maxLen]; omega) (by omega) (by simp; omega) ?_; intro v1 w6 hown6 hgrow hat6; have hb6 := below_grown (Nat.le_refl _) (HBR.out.alloc HBR.out.size _) hgrow (fun q hq => (HOW.out.lt q hq).1); have y0 := (HX.out.below hb6 HX.out.lt).cell 0; have hc6 := HCW.out w6 hb6; have hm := HM.out; have hpl := HPL.out)
      go_roundw
      case rel => exact ⟨k + 1, HLT.out, by rw [hw5]; exact congrArg (Value.int .i64) (posK HPS.out), by rw [HIX.out, ints_appK]; exact hown6, hb6⟩
      case measure => rw [hw5]; exact measK HH3.out
    · obtain rfl : k = l.length := by omega
      have hE := HEND.out
      rw [hE]
      rw [List.take_of_length_le (by rw [idxL_len]; exact Nat.le_refl _)] at HOW
      have hw3 := wrK3 hwl
      have hd := ltK (n := h.words.length)
      clear hlt hk hE
      go_wp2_with fail
      go_ret
      refine ⟨_, rfl, by rw [idxL_len]; exact own_base HOW.out (Nat.le_of_lt hw1), (HB.out.trans (HBR.out.mono (Nat.le_of_lt hw1)))⟩
end
end Go.Proofs.YtblekggklimpeaaDoor
