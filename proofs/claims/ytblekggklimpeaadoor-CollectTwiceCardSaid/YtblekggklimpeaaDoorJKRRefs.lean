/- The document's Instances and Refs. -/
/- The program's Instances. -/
/- The program's Refs. -/
import Derived.Test.YtblekggklimpeaaDoorJKLivesL
import Derived.Test.YtblekggklimpeaaDoorJKBoxR
import Derived.Test.YtblekggklimpeaaDoorJSoAll
import Derived.Test.YtblekggklimpeaaDoorJKRWalk
import Derived.Test.YtblekggklimpeaaDoorJUntil
import Derived.Test.YtblekggklimpeaaDoorJAll
set_option linter.unusedVariables false
set_option linter.unusedSimpArgs false
set_option linter.unusedSectionVars false
namespace Go.Proofs.YtblekggklimpeaaDoor
open Go.RowKit Go.Sort
attribute [local go_sem] Oper.semAt_some
/-- The oops of those of the first k that are picked. -/
def selL (P : Nat → Bool) (l : List Ob) (k : Nat) : List Nat := ((List.range k).filter P).map (fun i => 2 * posOf (l.take i))
theorem selL_zero (P : Nat → Bool) (l : List Ob) : selL P l 0 = [] := rfl
theorem selL_yes {P : Nat → Bool} {l : List Ob} {k : Nat} (h : P k = true) : selL P l (k + 1) = selL P l k ++ [2 * posOf (l.take k)] := by
  unfold selL
  rw [List.range_succ, List.filter_append, List.map_append, List.filter_cons, if_pos h]
  rfl
theorem selL_no {P : Nat → Bool} {l : List Ob} {k : Nat} (h : P k = false) : selL P l (k + 1) = selL P l k := by
  unfold selL
  rw [List.range_succ, List.filter_append, List.map_append, List.filter_cons, if_neg (by rw [h]; decide)]
  simp
theorem selL_len (P : Nat → Bool) (l : List Ob) (k : Nat) : (selL P l k).length ≤ k := by
  unfold selL
  rw [List.length_map]
  have := List.length_filter_le P (List.range k)
  rw [List.length_range] at this
  exact this
def instP (h : HM) (l : List Ob) (o : Nat) (k : Nat) : Bool := decide (h.words.getD (posOf (l.take k) + 1) 0 = o)
def refP (h : HM) (l : List Ob) (o : Nat) (k : Nat) : Bool := decide (o ∈ namesM h (2 * posOf (l.take k)))
theorem wrP1 {q : Nat} (h : q ≤ 1048576) : wrap64 ((q : Int) + 1) = (q : Int) + 1 := IntWalk.wrap64_in _ (by omega)
section
variable {w : World} {h : HM} {l : List Ob} {A A' : Option Addr} {n c n' c' : Nat}
set_option maxRecDepth 100000 in
set_option maxHeartbeats 8000000 in
theorem rinst_any (G : h.Good l) (hr : Reads w w.heap.size 1 A n (u32s h.words)) {o : Nat} (ho : o < 4294967296) :
    Calls Tryd.prog 41 #[StV A n c A' n' c', .int .u32 o] w (OopsP (selL (instP h l o) l l.length) w) := by
  have hln : n = h.words.length := by have := hr.1; rw [u32s_len] at this; omega
  subst hln
  have hwl : h.words.length ≤ 1048576 := by have := G.fit.room; have := G.fit.hi; omega
  have hl2 : l.length ≤ 1048576 := by have h1 := oopsL_le G; rw [oopsL_len] at h1; exact h1
  have HG := Lib.hid G
  have hX := Blk.new w 32 #[.slice A h.words.length c, .slice A' n' c']
  have hB := (Below.refl w.heap.size w).alloc (Nat.le_refl _) (.cells #[.slice A h.words.length c, .slice A' n' c'] 32)
  have HRW := Lib.hid (fun (w' : World) (hb : Below w.heap.size w w') => (hr.below hb).more hb.size)
  have HOB := Lib.hid (robjects_any (A' := A') (n' := n') (c' := c') (c := c) G ((hr.below hB).more hB.size))
  have x0 := hX.cell 0
  have x1 := hX.cell 1
  have HX := Lib.hid hX
  have HB := Lib.hid hB
  clear hX hB hr G
  unfold StV at HOB ⊢
  obtain ⟨i0, hi0, hz0, hz1, hz2⟩ := info_parts info_oop
  go_enter Tryd.func41, Tryd.ntmps41
  go_wp2_with fail
  generalize w.alloc (.cells #[.slice A h.words.length c, .slice A' n' c'] 32) = w1 at *
  refine HOB.out.mono ?_
  rintro e w2 ⟨v2, rfl, hown, hb2⟩
  have HIX := Lib.hid hown
  rw [idxL_len] at HIX
  have HX2 := Lib.hid (HX.out.below hb2 HX.out.lt)
  have HB2 := Lib.hid (below_top HB.out hb2)
  obtain ⟨Ai, ci, hvi⟩ := own_val HIX.out
  subst hvi
  clear hown hb2 HOB x0 x1 HX
  go_wp2_with fail
  go_loopw [5, 11] (fun lv iv wr => ∃ k : Nat, iv = .int .i64 k ∧ k ≤ l.length ∧ wr.ownsRow w2.heap.size 41 1 lv (selL (instP h l o) l k).length (u32s (selL (instP h l o) l k)) ∧ Below w2.heap.size w2 wr) (fun _ iv _ => l.length - (intOf iv).toNat)
  case atStart => exact ⟨0, rfl, Nat.zero_le _, ⟨rfl, .inl ⟨rfl, rfl⟩⟩, Below.refl _ _⟩
  case round =>
    obtain ⟨k, rfl, hk, how, hb⟩ := hrel
    have HOW := Lib.hid how
    have HBr := Lib.hid hb
    clear how hb
    by_cases hlt : k < l.length
    · obtain ⟨gv, cv, hvv, hrv, _, hgv⟩ := Row.of_any HIX.out (by omega)
      have hcl := (hrv.below HBr.out).cell (ints_atK (idxL_get hlt))
      have hq2 := (w0_parts HG.out hlt).2.2.2
      have hq1 : posOf (l.take k) + 1 < h.words.length := by omega
      have hq0 : posOf (l.take k) ≤ 1048576 := by omega
      obtain ⟨ad, u, rfl, _, hu, hc⟩ := (HRW.out wr (HB2.out.trans (HBr.out.mono HB2.out.size))).at_ hq1
      rw [u32s_get hq1] at hu
      injection hu with hu
      subst hu
      have x0 := (HX2.out.below HBr.out HX2.out.lt).cell 0
      have HLT := Lib.hid hlt
      have HYES := Lib.hid (fun hm => selL_yes (P := instP h l o) (l := l) (k := k) hm)
      have HNO := Lib.hid (fun hm => selL_no (P := instP h l o) (l := l) (k := k) hm)
      have HPD := Lib.hid (show instP h l o k = decide (h.words.getD (posOf (l.take k) + 1) 0 = o) from rfl)
      have hsl := selL_len (instP h l o) l k
      have hs5 := HBr.out.size
      cases hvv
      clear hrv hq2
      generalize h.words.getD (posOf (l.take k) + 1) 0 = z at *
      generalize hq1e : posOf (l.take k) + 1 = q1 at *
      generalize posOf (l.take k) = q at *
      have hqq : (q : Int) + 1 = (q1 : Int) := by omega
      clear hq1e
      generalize selL (instP h l o) l k = xs at *
      have hw2 := wrM2 hq0
      have hu2 := wrU2 hq0
      have HWU := Lib.hid (And.intro hw2 hu2)
      clear hw2 hu2
      by_cases hz : z = o
      · have hne : ((z : Int) == (o : Int)) = true := by simp; omega
        have HS := Lib.hid (HYES.out (by rw [HPD.out]; exact decide_eq_true hz))
        clear hz HYES HNO HPD
        go_upto_region 6 with fail
        obtain ⟨hw2, hu2⟩ := HWU.out
        clear hcl hc x0 hne
        go_wp2_with (at_builtin; refine wpList_append_any _ rfl (.tmp 23) (.tmp 27) _ rfl w2.heap.size 41 i0 _ 1 4 Tryd.underlying23 hi0 hz0 hz1 hz2 rfl (by omega) u5 xs.length _ rfl (HOW.out.alloc _) (wr.heap.size + 1) (some ⟨wr.heap.size, 0, none⟩) 1 1 [.int .u32 (2 * (q : Int))] rfl ⟨rfl, fun _ => ⟨_, rfl, by first | exact Nat.zero_lt_one | decide | simp, cell_one_new _ _ _⟩⟩ (fun u hu => by rcases List.mem_singleton.1 hu with rfl; rfl) (by simp only [maxLen]; omega) (by omega) (by first | omega | (simp; omega)) ?_; intro v1 w7 hown7 hgrow hat7)
        have hb7 := below_grown (Nat.le_refl _) (HBr.out.alloc hs5 _) hgrow (fun i hi => (HOW.out.lt i hi).1)
        have HE := Lib.hid (And.intro hown7 hb7)
        clear hown7 hb7 hgrow hat7
        go_roundw
        case rel => exact ⟨k + 1, by go_num, HLT.out, by rw [HS.out, u32s_app, List.length_append]; exact HE.out.1, HE.out.2⟩
        case measure => have := HLT.out; simp [intOf]; omega
      · have hne : ((z : Int) == (o : Int)) = false := by simp; omega
        have HS := Lib.hid (HNO.out (by rw [HPD.out]; exact decide_eq_false hz))
        clear hz HYES HNO HPD
        go_wp2_with fail
        go_roundw
        case rel => exact ⟨k + 1, by go_num, HLT.out, by rw [HS.out]; exact HOW.out, HBr.out⟩
        case measure => have := HLT.out; simp [intOf]; omega
    · obtain rfl : k = l.length := by omega
      clear hlt hk
      go_wp2_with fail
      go_ret
      exact ⟨_, rfl, own_base HOW.out HB2.out.size, HB2.out.trans (HBr.out.mono HB2.out.size)⟩
end
end Go.Proofs.YtblekggklimpeaaDoor

namespace Go.Proofs.YtblekggklimpeaaDoor
open Go.RowKit
attribute [local go_sem] Oper.semAt_some
set_option maxRecDepth 100000 in
set_option maxHeartbeats 4000000 in
theorem inst_any {w : World} {p : HP} {h : HM} {l : List Ob} (H : HAt w p h) (G : h.Good l) (hs : Spares w) (o : Nat) (ho : o < 4294967296) :
    Calls Tryd.prog 40 #[ptr p.g, .int .u32 o] w (OopsP (selL (instP h l o) l l.length) w) := by
  refine (callsIn_wide (n := 6)).1 ?_
  refine callsIn_of_wp_marks Tryd.func40 rfl trivial ?_ rfl
  simp only [Tryd.ntmps40, List.size_toArray, List.length_cons, List.length_nil, Nat.reduceAdd, Nat.reduceSub, Array.replicate_succ, Array.replicate_zero, List.push_toArray, List.append_toArray, List.nil_append, List.cons_append]
  have HPA := Lib.hid (fun W => all_any p.g W)
  unfold ptr at HPA ⊢
  gi_wp2_with fail
  refine ⟨trivial, (callsIn_wide.2 (HPA.out _)).mono ?_⟩
  rintro e W2 ⟨rfl, rfl⟩
  have bo := ((Blk.new w 41 #[.int .u32 (o : Int)]).alloc (.cells #[.slice none 0 0] 23)).alloc (.cells #[.pointer (some ⟨p.g, 0, none⟩)] 27)
  have bl := (Blk.new (w.alloc (.cells #[.int .u32 (o : Int)] 41)) 23 #[.slice none 0 0]).alloc (.cells #[.pointer (some ⟨p.g, 0, none⟩)] 27)
  have bh := Blk.new ((w.alloc (.cells #[.int .u32 (o : Int)] 41)).alloc (.cells #[.slice none 0 0] 23)) 27 #[.pointer (some ⟨p.g, 0, none⟩)]
  have hB0 : Below w.heap.size w (((w.alloc (.cells #[.int .u32 (o : Int)] 41)).alloc (.cells #[.slice none 0 0] 23)).alloc (.cells #[.pointer (some ⟨p.g, 0, none⟩)] 27)) := (((Below.refl _ w).alloc (Nat.le_refl _) _).alloc (by simp) _).alloc (by simp; omega) _
  have hsz : (((w.alloc (.cells #[.int .u32 (o : Int)] 41)).alloc (.cells #[.slice none 0 0] 23)).alloc (.cells #[.pointer (some ⟨p.g, 0, none⟩)] 27)).heap.size = w.heap.size + 3 := by simp
  simp only [World.size_alloc] at bl bh
  gi_wp2_with fail
  obtain ⟨W0, hW0⟩ : ∃ W0, ((w.alloc (.cells #[.int .u32 (o : Int)] 41)).alloc (.cells #[.slice none 0 0] 23)).alloc (.cells #[.pointer (some ⟨p.g, 0, none⟩)] 27) = W0 := ⟨_, rfl⟩
  rw [hW0] at bo bl bh hB0 hsz
  rw [hW0]
  clear hW0
  have HI := Lib.hid (show HAt W0 p h ∧ Spares W0 from ⟨H.below hB0, hs.below hB0⟩)
  have hlt := World.block_lt_of_cell? _ _ (hs 0 (by omega))
  simp only at hlt
  have hl2 : l.length ≤ 1048576 := by have h1 := oopsL_le G; rw [oopsL_len] at h1; exact h1
  have HCW := Lib.hid (fun k (hk : k < l.length) => cls_words G hk)
  obtain ⟨i0, hi0, hz0, hz1, hz2⟩ := info_parts info_oop
  have HS0 := Lib.hid (BoxR.start bl)
  have hne1 : w.heap.size ≠ w.heap.size + 1 := by omega
  have HBO := Lib.hid (fun (xs : List Nat) (v : Value) (W : World) (C : BoxR W0 (w.heap.size + 1) xs v W) => C.blk bo hne1)
  have HB0 := Lib.hid hB0
  refine wpIn_rangeFunc_ownH (F := Fence.wide) rfl (by omega) (gf := 97) (lb := #[.pointer (some ⟨w.heap.size + 1 + 1, 0, none⟩)]) rfl trivial (enters_of Tryd.func97 (by kernel_rfl) rfl)
    (all_stopsG HI.out.1 G HI.out.2 5 (w.heap.size + 1 + 1) (bh.cell 0) (KpR w.heap.size W0.heap.size (w.heap.size + 1)) (SafeR w.heap.size W0.heap.size (w.heap.size + 1))
      (fun A B k cs t fr h1 h2 h3 => h2.step h1 h3) (fun A B k h1 h2 => h2.below h1)
      (fun W W1 k h1 h2 h3 => SafeR.new bl (below_top h1 h2) (.inr (Nat.le_trans h1.size h3)))
      (fun W h1 => SafeR.new bl h1 (.inl hlt)))
    KpR.trans (fun W l o o' h0 h1 h2 _ => KpR.book W l o o' (by omega) h1 h2) (Below.refl _ _) (fun _ => rfl)
    (fun pre W => ∃ v, BoxR W0 (w.heap.size + 1) (selF (instP h l o) l pre) v W)
    (fun c pre W => False)
    (fun pre A B row hs hg hr => by obtain ⟨v, hv⟩ := hs; exact ⟨v, hv.own' hg hr⟩)
    (fun c pre A B row hs hg hr => hs.elim)
    ⟨_, HS0.out⟩
    (fun x a' W => ∃ Bx, W0.heap.size ≤ Bx ∧ Blk W Bx 56 (l[x.1]'x.2).x.cells ∧ a' = { tmps := #[.pointer (some ⟨p.g, 0, none⟩), .int .u32 (o : Int), undef, .pointer (some ⟨w.heap.size, 0, none⟩), .slice none 0 0, .pointer (some ⟨w.heap.size + 1, 0, none⟩), .int .u32 ((2 * posOf (l.take x.1) : Nat) : Int), .pointer (some ⟨Bx, 0, none⟩), .pointer (some ⟨p.g, 0, none⟩), .func (.func 97) #[] #[.pointer (some ⟨w.heap.size + 1 + 1, 0, none⟩)], .int .u32 ((2 * posOf (l.take x.1) : Nat) : Int), (l[x.1]'x.2).x.val, undef, undef, undef, undef, undef, undef, undef, undef, undef], defers := [] })
    (fun x a' _ X Y row hs hg hr => by
      obtain ⟨Bx, h1, h2, h3⟩ := hs
      refine ⟨Bx, h1, h2.same (hg.block Bx h2.lt (fun e => ?_)), h3⟩
      obtain ⟨_, o, ho, hc⟩ := hr Bx e.symm
      unfold Blk at h2
      rw [h2] at ho
      injection ho with ho
      subst ho
      simp [Obj.isCells] at hc)
    ?assign ?body ?done ?stop
  case assign =>
    rintro lp pre x W K ⟨v, C⟩ hK
    rw [show allV l x = #[.int .u32 ((2 * posOf (l.take x.1) : Nat) : Int), .agg #[.int .i64 ((l[x.1]'x.2).x.size : Nat), .int .i64 ((l[x.1]'x.2).x.fmt : Nat), .int .i64 ((l[x.1]'x.2).x.spare : Nat), .int .u32 ((l[x.1]'x.2).x.cls : Nat), .int .u32 ((l[x.1]'x.2).x.ser : Nat)]] from rfl]
    have HC := Lib.hid C
    have HK := Lib.hid hK
    have hsW := C.size
    clear hK C
    unfold Hd.val Hd.cells at HK
    generalize (l[x.1]'x.2).x = X at *
    generalize 2 * posOf (l.take x.1) = o at *
    gi_wp2_with fail
    have hb5 : Below W.heap.size W (W.alloc (.cells #[.int .i64 (X.size : Int), .int .i64 (X.fmt : Int), .int .i64 (X.spare : Int), .int .u32 (X.cls : Int), .int .u32 (X.ser : Int)] 56)) := (Below.refl _ _).alloc (Nat.le_refl _) _
    exact HK.out _ _ ((KeepsOthers.alloc _ _).from _) (HC.out.kp_refl hb5 _) ⟨_, HC.out.below hb5⟩ ⟨W.heap.size, hsW, Blk.new W _ _, rfl⟩
  case body =>
    rintro lp pre x a' W hl ⟨r, hr⟩ ⟨v, C⟩ ⟨Bx, hBx, bX, rfl⟩ hltx
    have cO := (HBO.out _ _ _ C).cell 0
    have cL : W.cell? ⟨w.heap.size + 1, 0, none⟩ = some v := C.box.cell 0
    have fL := C.box.frozen
    unfold Hd.cells at bX
    unfold Hd.val
    obtain ⟨d0, d1, d2, d3, d4⟩ := bX.cells5
    obtain ⟨Av, cv, rfl⟩ := own_val C.own
    have HC := Lib.hid C
    have hsl := selF_len (instP h l o) l pre
    have hsW := C.size
    have HYES := Lib.hid (fun hm => selF_yes (P := instP h l o) (l := l) (pre := pre) (x := x) hm)
    have HNO := Lib.hid (fun hm => selF_no (P := instP h l o) (l := l) (pre := pre) (x := x) hm)
    have HPD := Lib.hid (show instP h l o x.1 = decide ((l[x.1]'x.2).x.cls = o) from by unfold instP; rw [HCW.out _ x.2])
    clear C bX
    generalize selF (instP h l o) l pre = xs at *
    by_cases hcl : (l[x.1]'x.2).x.cls = o
    · have hq : (((l[x.1]'x.2).x.cls : Int) == (o : Int)) = true := by simp; omega
      have HS := Lib.hid (HYES.out (by rw [HPD.out]; exact decide_eq_true hcl))
      clear hcl HYES HNO HPD
      generalize (l[x.1]'x.2).x = X at *
      generalize 2 * posOf (l.take x.1) = y at *
      gi_wp2_with (gi_at_builtin; refine wpListIn_app_any _ rfl (.tmp 16) (.tmp 18) _ rfl W0.heap.size 41 i0 _ 1 4 Tryd.underlying23 hi0 hz0 hz1 hz2 rfl (by omega) (.slice Av xs.length cv) xs.length _ rfl (HC.out.own.alloc _) (W.heap.size + 1) (some ⟨W.heap.size, 0, none⟩) 1 1 [.int .u32 (y : Int)] rfl ⟨rfl, fun _ => ⟨_, rfl, by first | exact Nat.zero_lt_one | decide | simp, cell_one_new _ _ _⟩⟩ (fun u hu => by rcases List.mem_singleton.1 hu with rfl; rfl) (by simp only [maxLen]; omega) (by omega) (by first | omega | (simp; omega)) ?_; intro v1 w7 hown7 hgrow hat7; obtain ⟨A7, c7, rfl⟩ := own_val hown7; obtain ⟨cB7, fB7⟩ := HC.out.box_app ((Below.refl _ _).alloc (Nat.le_refl _) _) hgrow)
      obtain ⟨r1, r2, r3⟩ := HC.out.app (m0 := w.heap.size) ((Below.refl _ _).alloc (Nat.le_refl _) _) hown7 hgrow hat7 (by omega)
      exact ⟨r1, r2, _, by rw [HS.out]; exact r3⟩
    · have hq : (((l[x.1]'x.2).x.cls : Int) == (o : Int)) = false := by simp; omega
      have HS := Lib.hid (HNO.out (by rw [HPD.out]; exact decide_eq_false hcl))
      clear hcl HYES HNO HPD
      generalize (l[x.1]'x.2).x = X at *
      generalize 2 * posOf (l.take x.1) = y at *
      gi_wp2_with fail
      exact ⟨(KeepsOthers.refl _).from _, HC.out.kp_refl (Below.refl _ _) _, _, by rw [HS.out]; exact HC.out⟩
  case done =>
    rintro D xs W hD rfl ⟨v, C⟩ hK
    have cL : W.cell? ⟨w.heap.size + 1, 0, none⟩ = some v := C.box.cell 0
    have HC := Lib.hid C
    clear C
    gi_wp2_with fail
    refine ⟨by simp, .inl ⟨_, _, rfl, run_takeDeferred hK, ?_⟩⟩
    have hc := HC.out.own' (grownBy_putObj' W D (.deferred none)) (fun r e => by cases e; exact ⟨hD, _, hK, rfl⟩)
    refine ⟨v, by simp [results, Tryd.results40, go_sem], ?_⟩
    rw [selF_all] at hc
    exact ⟨v, rfl, own_base hc.own HB0.out.size, hc.toBelow HB0.out (by omega)⟩
  case stop =>
    rintro D c pre W hD hp hx hK
    exact hx.elim
end Go.Proofs.YtblekggklimpeaaDoor

namespace Go.Proofs.YtblekggklimpeaaDoor
open Go.RowKit
attribute [local go_sem] Oper.semAt_some
/-- What Refs answers. -/
def refsL (h : HM) (l : List Ob) (o : Nat) : List Nat := if h.isB o = true then selL (refP h l o) l l.length else []
theorem mem_names_k2 {h : HM} {l : List Ob} (G : h.Good l) {o x : Nat} (hi : h.isB o = true) : ((namM h x false).filter k2).contains o = decide (o ∈ namesM h x) := by
  have hk : k2 o = true := by
    obtain ⟨k, hk, rfl⟩ := isB_k G hi
    have := posOf_pos (l.take k)
    unfold k2 kindM
    rw [if_neg (by omega), if_neg (by omega)]
    rfl
  rw [Bool.eq_iff_iff]
  simp [namM, hk]
set_option maxRecDepth 100000 in
set_option maxHeartbeats 4000000 in
theorem refs_any {w : World} {p : HP} {h : HM} {l : List Ob} (H : HAt w p h) (G : h.Good l) (hs : Spares w) (o : Nat) (ho : o < 4294967296) :
    Calls Tryd.prog 39 #[ptr p.g, .int .u32 o] w (OopsE (refsL h l o) (if h.isB o = true then 0 else 3) w) := by
  have HER := Lib.hid (show ∃ er : Nat, (if h.isB o = true then 0 else 3) = er from ⟨_, rfl⟩)
  obtain ⟨er, her⟩ := HER.out
  rw [her]
  have HE0 := Lib.hid her
  clear her HER
  refine (callsIn_wide (n := 6)).1 ?_
  refine callsIn_of_wp_marks Tryd.func39 rfl trivial ?_ rfl
  simp only [Tryd.ntmps39, List.size_toArray, List.length_cons, List.length_nil, Nat.reduceAdd, Nat.reduceSub, Array.replicate_succ, Array.replicate_zero, List.push_toArray, List.append_toArray, List.nil_append, List.cons_append]
  have HPA := Lib.hid (fun W => all_any p.g W)
  have HIS := Lib.hid (fun (w' : World) (hb : Below w.heap.size w w') => is_any (H.below hb) G.fit o ho)
  have bh := (Blk.new w 27 #[.pointer (some ⟨p.g, 0, none⟩)]).alloc (.cells #[.int .u32 (o : Int)] 41)
  have bo := Blk.new (w.alloc (.cells #[.pointer (some ⟨p.g, 0, none⟩)] 27)) 41 #[.int .u32 (o : Int)]
  have hB1 : Below w.heap.size w ((w.alloc (.cells #[.pointer (some ⟨p.g, 0, none⟩)] 27)).alloc (.cells #[.int .u32 (o : Int)] 41)) := ((Below.refl _ w).alloc (Nat.le_refl _) _).alloc (by simp) _
  have hsz : ((w.alloc (.cells #[.pointer (some ⟨p.g, 0, none⟩)] 27)).alloc (.cells #[.int .u32 (o : Int)] 41)).heap.size = w.heap.size + 2 := by simp
  simp only [World.size_alloc] at bo
  unfold ptr at HPA HIS ⊢
  gi_upto_region 1 with fail
  generalize (w.alloc (.cells #[.pointer (some ⟨p.g, 0, none⟩)] 27)).alloc (.cells #[.int .u32 (o : Int)] 41) = W1 at *
  have c1 := bh.cell 0
  have c2 := bo.cell 0
  gi_wp2_with fail
  refine ⟨trivial, (callsIn_wide.2 (HIS.out _ hB1)).mono ?_⟩
  rintro e W1' ⟨rfl, rfl⟩
  by_cases hi : h.isB o = true
  rotate_left
  · have hi' : h.isB o = false := by simpa using hi
    rw [hi']
    have HR := Lib.hid (show refsL h l o = [] by unfold refsL; rw [if_neg hi])
    have HB1 := Lib.hid hB1
    have he : er = 3 := by have := HE0.out; rw [if_neg hi] at this; exact this.symm
    subst he
    clear hi hi' hB1 HE0
    gi_wp2_with fail
    exact ⟨.tuple #[.slice none 0 0, .int .i64 3], by simp [results, Tryd.results39, go_sem], _, rfl, by rw [HR.out]; exact ⟨rfl, .inl ⟨rfl, rfl⟩⟩, HB1.out⟩
  rw [hi]
  have HR := Lib.hid (show refsL h l o = selL (refP h l o) l l.length by unfold refsL; rw [if_pos hi])
  have he : er = 0 := by have := HE0.out; rw [if_pos hi] at this; exact this.symm
  subst he
  have HI := Lib.hid hi
  clear hi
  gi_wp2_with fail
  refine ⟨trivial, (callsIn_wide.2 (HPA.out _)).mono ?_⟩
  rintro e W2 ⟨rfl, rfl⟩
  have bl := (Blk.new W1 23 #[.slice none 0 0]).alloc (.cells #[.pointer (some ⟨p.g, 0, none⟩)] 27)
  have bh2 := Blk.new (W1.alloc (.cells #[.slice none 0 0] 23)) 27 #[.pointer (some ⟨p.g, 0, none⟩)]
  have hb2 : Below W1.heap.size W1 ((W1.alloc (.cells #[.slice none 0 0] 23)).alloc (.cells #[.pointer (some ⟨p.g, 0, none⟩)] 27)) := ((Below.refl _ _).alloc (Nat.le_refl _) _).alloc (by simp) _
  have hsz2 : ((W1.alloc (.cells #[.slice none 0 0] 23)).alloc (.cells #[.pointer (some ⟨p.g, 0, none⟩)] 27)).heap.size = w.heap.size + 4 := by simp; omega
  have hs1 : W1.heap.size < (W1.alloc (.cells #[.slice none 0 0] 23)).heap.size := by simp
  rw [World.size_alloc, hsz] at bh2
  rw [hsz] at bl
  have bh0 := bh.below hb2 bh.lt
  have bo0 := bo.below hb2 bo.lt
  have hB0 := below_top hB1 hb2
  clear hb2
  gi_wp2_with fail
  obtain ⟨W0, hW0⟩ : ∃ W0, (W1.alloc (.cells #[.slice none 0 0] 23)).alloc (.cells #[.pointer (some ⟨p.g, 0, none⟩)] 27) = W0 := ⟨_, rfl⟩
  rw [hW0] at bo0 bl bh0 bh2 hB0 hsz2
  rw [hW0]
  clear hW0 hs1 hsz c1 c2 bh bo hB1
  have HII := Lib.hid (show HAt W0 p h ∧ Spares W0 from ⟨H.below hB0, hs.below hB0⟩)
  have hlt := World.block_lt_of_cell? _ _ (hs 0 (by omega))
  simp only at hlt
  have hl2 : l.length ≤ 1048576 := by have h1 := oopsL_le G; rw [oopsL_len] at h1; exact h1
  have HNA := Lib.hid (fun (w' : World) (hb : Below w.heap.size w w') (x : Fin l.length) => named_any (H.below hb) G (hs.below hb) (isB_at G x.1 x.2) false)
  have HNK := Lib.hid (fun (x : Nat) => mem_names_k2 (x := x) G HI.out)
  have HNL := Lib.hid (fun (x : Fin l.length) => nam_len G (isB_at G x.1 x.2) false)
  obtain ⟨i0, hi0, hz0, hz1, hz2⟩ := info_parts info_oop
  have HS0 := Lib.hid (BoxR.start bl)
  have hne1 : w.heap.size ≠ w.heap.size + 2 := by omega
  have hne2 : w.heap.size + 1 ≠ w.heap.size + 2 := by omega
  have HBO := Lib.hid (fun (xs : List Nat) (v : Value) (W : World) (C : BoxR W0 (w.heap.size + 2) xs v W) => And.intro (C.blk bh0 hne1) (C.blk bo0 hne2))
  have HB0 := Lib.hid hB0
  have HTB := Lib.hid (fun (xs : List Nat) (v : Value) (W : World) (C : BoxR W0 (w.heap.size + 2) xs v W) => C.toBelow hB0 (by omega))
  refine wpIn_rangeFunc_ownH (F := Fence.wide) rfl (by omega) (gf := 97) (lb := #[.pointer (some ⟨w.heap.size + 2 + 1, 0, none⟩)]) rfl trivial (enters_of Tryd.func97 (by kernel_rfl) rfl)
    (all_stopsG HII.out.1 G HII.out.2 5 (w.heap.size + 2 + 1) (bh2.cell 0) (KpR w.heap.size W0.heap.size (w.heap.size + 2)) (SafeR w.heap.size W0.heap.size (w.heap.size + 2))
      (fun A B k cs t fr h1 h2 h3 => h2.step h1 h3) (fun A B k h1 h2 => h2.below h1)
      (fun W W1 k h1 h2 h3 => SafeR.new bl (below_top h1 h2) (.inr (Nat.le_trans h1.size h3)))
      (fun W h1 => SafeR.new bl h1 (.inl hlt)))
    KpR.trans (fun W l o o' h0 h1 h2 _ => KpR.book W l o o' (by omega) h1 h2) (Below.refl _ _) (fun _ => rfl)
    (fun pre W => ∃ v, BoxR W0 (w.heap.size + 2) (selF (refP h l o) l pre) v W)
    (fun c pre W => False)
    (fun pre A B row hs hg hr => by obtain ⟨v, hv⟩ := hs; exact ⟨v, hv.own' hg hr⟩)
    (fun c pre A B row hs hg hr => hs.elim)
    ⟨_, HS0.out⟩
    (fun x a' W => a' = { tmps := #[.pointer (some ⟨p.g, 0, none⟩), .int .u32 (o : Int), .pointer (some ⟨w.heap.size, 0, none⟩), .pointer (some ⟨w.heap.size + 1, 0, none⟩), .slice none 0 0, .int .i64 0, .pointer (some ⟨w.heap.size + 2, 0, none⟩), .int .u32 ((2 * posOf (l.take x.1) : Nat) : Int), .pointer (some ⟨p.g, 0, none⟩), .int .u32 (o : Int), .bool true, .bool false, .pointer (some ⟨p.g, 0, none⟩), .func (.func 97) #[] #[.pointer (some ⟨w.heap.size + 2 + 1, 0, none⟩)], .int .u32 ((2 * posOf (l.take x.1) : Nat) : Int), (l[x.1]'x.2).x.val, undef, undef, undef, undef, undef, undef, undef, undef, undef, undef], defers := [] })
    (fun x a' _ X Y row hs hg hr => hs)
    ?assign ?body ?done ?stop
  case assign =>
    rintro lp pre x W K hI hK
    rw [show allV l x = #[.int .u32 ((2 * posOf (l.take x.1) : Nat) : Int), (l[x.1]'x.2).x.val] from rfl]
    have HI0 := Lib.hid hI
    have HK := Lib.hid hK
    obtain ⟨v, C⟩ := hI
    have HC := Lib.hid C
    clear hK C
    generalize (l[x.1]'x.2).x.val = X at *
    generalize 2 * posOf (l.take x.1) = o at *
    gi_wp2_with fail
    exact HK.out _ _ ((KeepsOthers.refl _).from _) (HC.out.kp_refl (Below.refl _ _) _) HI0.out rfl
  case body =>
    rintro lp pre x a' W hl ⟨r, hr⟩ ⟨v, C⟩ rfl hltx
    apply wpIn_block
    have hC := HBO.out _ _ _ C
    obtain ⟨Av, cv, rfl⟩ := own_val C.own
    have HC := Lib.hid C
    have hsl := selF_len (refP h l o) l pre
    have hsW := C.size
    have HYES := Lib.hid (fun hm => selF_yes (P := refP h l o) (l := l) (pre := pre) (x := x) hm)
    have HNO := Lib.hid (fun hm => selF_no (P := refP h l o) (l := l) (pre := pre) (x := x) hm)
    have HPD := Lib.hid (show refP h l o x.1 = ((namM h (2 * posOf (l.take x.1)) false).filter k2).contains o from (HNK.out _).symm)
    have HND := Lib.hid (show Calls Tryd.prog 82 #[ptr p.g, .int .u32 (2 * posOf (l.take x.1) : Nat), .bool false] W.drew (NamedP (namM h (2 * posOf (l.take x.1)) false) W.drew) from HNA.out W.drew ((HTB.out _ _ _ C).trans ⟨rfl, rfl, rfl, Nat.le_refl _, fun _ _ => rfl⟩) x)
    have hnl : ((namM h (2 * posOf (l.take x.1)) false).filter k2).length ≤ 65536 := Nat.le_trans (List.length_filter_le _ _) (HNL.out x)
    clear C
    unfold NamedP ptr at HND
    generalize (namM h (2 * posOf (l.take x.1)) false).filter k2 = ns at *
    generalize selF (refP h l o) l pre = xs at *
    generalize (l[x.1]'x.2).x.val = X at *
    generalize 2 * posOf (l.take x.1) = y at *
    apply wpIn_seq
    refine wpIn_region_U 4 (fun w' => w'.cell? ⟨w.heap.size, 0, none⟩ = some (.pointer (some ⟨p.g, 0, none⟩)) ∧ w'.cell? ⟨w.heap.size + 1, 0, none⟩ = some (.int .u32 (o : Int))) (by kernel_rfl) (by kernel_rfl) ?_
    have hbd : Below W.heap.size W W.drew := ⟨rfl, rfl, rfl, Nat.le_refl _, fun _ _ => rfl⟩
    have HBD := Lib.hid hbd
    have HCL := Lib.hid hC
    have hS : W.drew.cell? ⟨w.heap.size, 0, none⟩ = some (.pointer (some ⟨p.g, 0, none⟩)) ∧ W.drew.cell? ⟨w.heap.size + 1, 0, none⟩ = some (.int .u32 (o : Int)) := ⟨(hC.1.below hbd hC.1.lt).cell 0, (hC.2.below hbd hC.2.lt).cell 0⟩
    clear hbd hC
    generalize W.drew = W7 at *
    refine U_readC 0 [2, 4] (v := (.pointer (some ⟨p.g, 0, none⟩))) rfl (by kernel_rfl) (fun _ _ _ h => h) hS (by rfl) (fun w' hw' => by obtain ⟨h0, h1⟩ := hw'; go_simp) ?_
    try simp only [Act.put, List.setIfInBounds_toArray, List.set_cons_zero, List.set_cons_succ]
    refine U_readC 1 [2, 4] (v := (.int .u32 (y : Int))) rfl (by kernel_rfl) (fun _ _ _ h => h) hS (by rfl) (fun w' hw' => by obtain ⟨h0, h1⟩ := hw'; go_simp) ?_
    try simp only [Act.put, List.setIfInBounds_toArray, List.set_cons_zero, List.set_cons_succ]
    refine U_read 3 (v := (.int .u32 (o : Int))) rfl (by kernel_rfl) (fun _ _ _ h => h) hS (by rfl) (fun w' hw' => by obtain ⟨h0, h1⟩ := hw'; go_simp) ?_
    try simp only [Act.put, List.setIfInBounds_toArray, List.set_cons_zero, List.set_cons_succ]
    refine U_one 2 (by kernel_rfl) rfl rfl (fun K hK => ?_)
    go_simp
    refine HND.out.mono ?_
    rintro e w6 ⟨g6, c6, rfl, hg6, hr6, hb6⟩
    try dsimp only
    have hS6 : w6.cell? ⟨w.heap.size, 0, none⟩ = some (.pointer (some ⟨p.g, 0, none⟩)) ∧ w6.cell? ⟨w.heap.size + 1, 0, none⟩ = some (.int .u32 (o : Int)) := ⟨((HCL.out.1.below HBD.out HCL.out.1.lt).below hb6 (Nat.lt_of_lt_of_le HCL.out.1.lt HBD.out.size)).cell 0, ((HCL.out.2.below HBD.out HCL.out.2.lt).below hb6 (Nat.lt_of_lt_of_le HCL.out.2.lt HBD.out.size)).cell 0⟩
    refine hK _ _ (fun _ => hS6) ?_
    clear hK K hS
    try simp only [Act.put, List.setIfInBounds_toArray, List.set_cons_zero, List.set_cons_succ]
    obtain ⟨A6, c6', e6, hrd6, _⟩ := own_readsN (row_own hr6 (Nat.le_refl _))
    have HCT := Lib.hid (contains_oop A6 ns.length c6' _ ns o w6 (by omega) hrd6)
    rw [← e6] at HCT
    have HC6 := Lib.hid (HC.out.below (below_top HBD.out hb6))
    have HB6 := Lib.hid (below_top HBD.out hb6)
    have hs6 : W.heap.size ≤ w6.heap.size := HB6.out.size
    clear hr6 hb6 hg6 e6 hrd6 HND
    refine U_one 4 (by kernel_rfl) rfl rfl (fun K hK => ?_)
    go_simp
    refine HCT.out.mono ?_
    rintro e w6' ⟨rfl, rfl⟩
    try dsimp only
    refine hK _ _ (fun _ => hS6) ?_
    clear hK K HCT
    try simp only [Act.put, List.setIfInBounds_toArray, List.set_cons_zero, List.set_cons_succ]
    refine U_done (by kernel_rfl) ?_ _
    simp only [Calm, Exit.then]
    have cL : w6.cell? ⟨w.heap.size + 2, 0, none⟩ = some (.slice Av xs.length cv) := HC6.out.box.cell 0
    have fL := HC6.out.box.frozen
    clear hS6
    by_cases hcl : ns.contains o = true
    · have HS := Lib.hid (HYES.out (HPD.out.trans hcl))
      rw [hcl]
      clear hcl HYES HNO HPD
      gi_wp2_with (gi_at_builtin; refine wpListIn_app_any _ rfl (.tmp 21) (.tmp 23) _ rfl W0.heap.size 41 i0 _ 1 4 Tryd.underlying23 hi0 hz0 hz1 hz2 rfl (by omega) (.slice Av xs.length cv) xs.length _ rfl (HC6.out.own.alloc _) (w6.heap.size + 1) (some ⟨w6.heap.size, 0, none⟩) 1 1 [.int .u32 (y : Int)] rfl ⟨rfl, fun _ => ⟨_, rfl, by first | exact Nat.zero_lt_one | decide | simp, cell_one_new _ _ _⟩⟩ (fun u hu => by rcases List.mem_singleton.1 hu with rfl; rfl) (by simp only [maxLen]; omega) (by omega) (by first | omega | (simp; omega)) ?_; intro v1 w7 hown7 hgrow hat7; obtain ⟨A7, c7, rfl⟩ := own_val hown7; obtain ⟨cB7, fB7⟩ := HC6.out.box_app ((Below.refl _ _).alloc (Nat.le_refl _) _) hgrow)
      obtain ⟨r1, r2, r3⟩ := HC.out.app (m0 := w.heap.size) (HB6.out.alloc hs6 _) hown7 hgrow hat7 (by omega)
      exact ⟨r1, r2, _, by rw [HS.out]; exact r3⟩
    · have hcl' : ns.contains o = false := by simpa using hcl
      have HS := Lib.hid (HNO.out (HPD.out.trans hcl'))
      rw [hcl']
      clear hcl hcl' HYES HNO HPD
      gi_wp2_with fail
      exact ⟨⟨HB6.out.size, fun k o _ ho hc => (HB6.out.block k (lt_of_get ho)).trans ho⟩, HC.out.kp_refl HB6.out _, _, by rw [HS.out]; exact HC6.out⟩
  case done =>
    rintro D xs W hD rfl ⟨v, C⟩ hK
    have cL : W.cell? ⟨w.heap.size + 2, 0, none⟩ = some v := C.box.cell 0
    have HC := Lib.hid C
    clear C
    gi_wp2_with fail
    refine ⟨by simp, .inl ⟨_, _, rfl, run_takeDeferred hK, ?_⟩⟩
    have hc := HC.out.own' (grownBy_putObj' W D (.deferred none)) (fun r e => by cases e; exact ⟨hD, _, hK, rfl⟩)
    refine ⟨.tuple #[v, .int .i64 0], by simp [results, Tryd.results39, go_sem], ?_⟩
    rw [selF_all] at hc
    exact ⟨v, rfl, by rw [HR.out]; exact own_base hc.own HB0.out.size, hc.toBelow HB0.out (by omega)⟩
  case stop =>
    rintro D c pre W hD hp hx hK
    exact hx.elim
end Go.Proofs.YtblekggklimpeaaDoor
