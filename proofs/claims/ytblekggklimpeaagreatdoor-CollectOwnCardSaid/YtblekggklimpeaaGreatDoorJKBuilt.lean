/- built of chapter 3: a case's heap. -/
/- oops, store of chapter 3. -/
/- is of chapter 3: a heap has just these words and roots. -/
/- awake of chapter 3: a small heap collected. -/
/- The document's Objects, Size, Format. -/
/- The numbers of an object's words that are oops, and those that hold. Plain data. -/
/- The document's walk in memory: its rows. -/
/- The numbers of Format. -/
/- The document's Format. -/
/- The document's Names. -/
/- The document's put. -/
import Derived.Test.YtblekggklimpeaaGreatDoorJLive
import Derived.Test.YtblekggklimpeaaGreatDoorJKCol
import Derived.Test.YtblekggklimpeaaGreatDoorJKNamed
import Derived.Deep.RegionHeld3
set_option linter.unusedVariables false
set_option linter.unusedSimpArgs false
set_option linter.unusedSectionVars false
namespace Go.Proofs.YtblekggklimpeaaGreatDoor
open Go.RowKit
/-- A case. -/
structure Cs where
  size : Int
  A : Option Addr
  n : Nat
  c : Nat
  A' : Option Addr
  n' : Nat
  c' : Nat
  ws : List Nat
  rs : List Nat
  last : Nat
def Cs.agg (k : Cs) : Value := .agg #[.int .i64 k.size, .slice k.A k.n k.c, .slice k.A' k.n' k.c', .int .u32 (k.last : Nat)]
def Cs.h (k : Cs) : HM := HM.ofWords k.size.toNat k.ws k.rs k.last
def Cs.Ok (k : Cs) : Prop := 64 ≤ k.size ∧ k.size ≤ 1048576 ∧ loadE k.size.toNat k.ws k.rs k.last = 0
/-- A case as it lies in memory. -/
structure Cs.At (k : Cs) (w : World) (B : Nat) : Prop where
  hn : k.n ≤ 9223372036854775807
  hr : Reads w B 1 k.A k.n (u32s k.ws)
  h32 : ∀ x ∈ k.ws, x < 4294967296
  hn' : k.n' ≤ 9223372036854775807
  hr' : Reads w B 1 k.A' k.n' (u32s k.rs)
  h32' : ∀ x ∈ k.rs, x < 4294967296
  hl : k.last < 4294967296
theorem Cs.At.below {k : Cs} {w w' : World} (h : k.At w w.heap.size) (hb : Below w.heap.size w w') : k.At w' w'.heap.size :=
  ⟨h.hn, (h.hr.below hb).more hb.size, h.h32, h.hn', (h.hr'.below hb).more hb.size, h.h32', h.hl⟩
/-- What built answers. -/
def BuiltP (W : World) (k : Cs) (e : Ending) (w' : World) : Prop :=
  (¬ k.Ok ∧ (∃ v, e = .returned (.tuple #[v, .bool false])) ∧ Below W.heap.size W w') ∨
    (k.Ok ∧ ∃ p g, e = .returned (.tuple #[.pointer (some ⟨g, 0, none⟩), .bool true]) ∧ Live W w' p g k.h ∧ k.h.words = k.ws ∧ k.h.roots = k.rs)
set_option maxRecDepth 100000 in
set_option maxHeartbeats 4000000 in
theorem built_any (W : World) (E : Env W) (k : Cs) (hk : k.At W W.heap.size) : Calls Tryz.prog 5 #[k.agg] W (BuiltP W k) := by
  have hb0 := (Below.refl W.heap.size W).alloc (Nat.le_refl _) (.cells #[.int .i64 k.size, .slice k.A k.n k.c, .slice k.A' k.n' k.c', .int .u32 (k.last : Nat)] 26)
  have HB0 := Lib.hid hb0
  have HSZ := Lib.hid (World.size_alloc W (.cells #[.int .i64 k.size, .slice k.A k.n k.c, .slice k.A' k.n' k.c', .int .u32 (k.last : Nat)] 26))
  have BX := Lib.hid (Blk.new W 26 #[.int .i64 k.size, .slice k.A k.n k.c, .slice k.A' k.n' k.c', .int .u32 (k.last : Nat)])
  have HE := Lib.hid (E.below hb0)
  have HEW := Lib.hid E
  have HK := Lib.hid (hk.below hb0)
  clear hb0 E hk
  unfold Cs.agg
  by_cases hsz : k.size < 64 ∨ 1048576 < k.size
  · have HN := Lib.hid (fun w => new_bad k.size hsz w)
    have HF := Lib.hid (show ¬ k.Ok from fun h => by have h1 := h.1; have h2 := h.2.1; omega)
    clear hsz
    go_enter Tryz.func5, Tryz.ntmps5
    go_wp2_with fail
    refine (HN.out _).mono ?_
    rintro e w1 ⟨rfl, rfl⟩
    go_wp2_with fail
    refine bodyPost_ret (v := .tuple #[.pointer none, .bool false]) (by simp [results, Tryz.results5, go_sem]) rfl ?_
    exact .inl ⟨HF.out, ⟨_, rfl⟩, HB0.out⟩
  · obtain ⟨s, hs⟩ := Int.eq_ofNat_of_zero_le (show 0 ≤ k.size by omega)
    have h1 : 64 ≤ s := by omega
    have h2 : s ≤ 1048576 := by omega
    have HH := Lib.hid (show k.h = HM.ofWords s k.ws k.rs k.last by unfold Cs.h; rw [hs]; rfl)
    have HOK := Lib.hid (show k.Ok ↔ loadE s k.ws k.rs k.last = 0 by
      unfold Cs.Ok
      rw [hs, show ((s : Int)).toNat = s by omega]
      constructor
      · exact fun h => h.2.2
      · exact fun h => ⟨by omega, by omega, h⟩)
    have HN := Lib.hid (fun w => new_any s h1 h2 w)
    rw [hs] at HB0 BX HE HK HSZ ⊢
    have H12 := Lib.hid (And.intro h1 h2)
    clear hs
    go_enter Tryz.func5, Tryz.ntmps5
    go_wp2_with fail
    generalize W.alloc (.cells #[.int .i64 (s : Int), .slice k.A k.n k.c, .slice k.A' k.n' k.c', .int .u32 (k.last : Nat)] 26) = W1 at *
    refine (HN.out _).mono ?_
    rintro e w1 hN
    obtain ⟨p, g, rfl, L0⟩ := Live.of_new (v := fun g => .tuple #[ptr g, .int .i64 0]) HE.out H12.out.1 H12.out.2 hN
    clear hN
    have hb1 := L0.below
    have BX1 := BX.out.below hb1 BX.out.lt
    have x0 := BX1.cell 0
    have x1 := BX1.cell 1
    have x2 := BX1.cell 2
    have x3 := BX1.cell 3
    have K1 := HK.out.below hb1
    have HLD := Lib.hid (L0.load k.A k.n k.c k.ws K1.hn K1.hr K1.h32 k.A' k.n' k.c' k.rs K1.hn' K1.hr' K1.h32' k.last K1.hl)
    rw [show (HM.new s).size = s from rfl] at HLD
    clear hb1 BX1 K1 L0
    unfold ptr
    go_wp2_with fail
    refine HLD.out.mono ?_
    rintro e w2 ⟨p2, rfl, L2, -⟩
    have HBW := Lib.hid (HB0.out.trans (L2.below.mono HB0.out.size))
    by_cases hld : loadE s k.ws k.rs k.last = 0
    · have HO := Lib.hid (HOK.out.2 hld)
      have hHH : (HM.new s).loadH k.ws k.rs k.last = k.h := by
        unfold HM.loadH
        rw [show (HM.new s).size = s from rfl, if_pos hld, HH.out]
      rw [hHH] at L2
      have HL2 := Lib.hid L2
      rw [hld]
      clear L2 HLD hHH
      go_wp2_with fail
      refine bodyPost_ret (v := .tuple #[.pointer (some ⟨g, 0, none⟩), .bool true]) (by simp [results, Tryz.results5, go_sem]) rfl ?_
      refine .inr ⟨HO.out, p2, g, rfl, ⟨HL2.out.at_, HL2.out.hg, HL2.out.good, HEW.out, fun j hj => ?_, HBW.out⟩, by rw [HH.out]; rfl, by rw [HH.out]; rfl⟩
      exact Nat.le_trans HB0.out.size (HL2.out.new j hj)
    · have HF := Lib.hid (show ¬ k.Ok from fun h => hld (HOK.out.1 h))
      have en : ((loadE s k.ws k.rs k.last : Int) == 0) = false := by simp; omega
      generalize loadE s k.ws k.rs k.last = E at *
      clear hld L2 HLD
      go_wp2_with fail
      refine bodyPost_ret (v := .tuple #[.pointer (some ⟨g, 0, none⟩), .bool false]) (by simp [results, Tryz.results5, go_sem]) rfl ?_
      exact .inl ⟨HF.out, ⟨_, rfl⟩, HBW.out⟩
end Go.Proofs.YtblekggklimpeaaGreatDoor

namespace Go.Proofs.YtblekggklimpeaaGreatDoor
open Go.RowKit

set_option maxHeartbeats 1000000 in
theorem oops_any (A A' : Option Addr) (n n' c c' : Nat) (xs ys : List Nat) (w : World) (hn : n ≤ 9223372036854775807) (hn' : n' ≤ 9223372036854775807) (hr : Reads w w.heap.size 1 A n (u32s xs)) (hr' : Reads w w.heap.size 1 A' n' (u32s ys)) :
    Calls Tryz.prog 13 #[.slice A n c, .slice A' n' c'] w (Told (.bool (sameL xs ys)) w) := by
  have hl : xs.length = n := by have := hr.1; rw [u32s_len] at this; omega
  have hl' : ys.length = n' := by have := hr'.1; rw [u32s_len] at this; omega
  have HL := Lib.hid hl; have HL' := Lib.hid hl'
  clear hl hl'
  have HR := Lib.hid hr; have HR' := Lib.hid hr'
  clear hr hr'
  by_cases hnn : n = n'
  · subst hnn
    go_enter Tryz.func13, Tryz.ntmps13
    go_wp2_with fail
    go_loopw [5] (fun i wr => ∃ k : Nat, k ≤ n ∧ i = .int .i64 k ∧ xs.take k = ys.take k ∧ Below w.heap.size w wr) (fun i _ => n - (intOf i).toNat)
    case atStart => exact ⟨0, by omega, rfl, rfl, Below.refl _ _⟩
    case round =>
      obtain ⟨k, hk, rfl, ht, hb⟩ := hrel
      have HT := Lib.hid ht; clear ht
      by_cases hlt : k < n
      · have hx : k < xs.length := by rw [HL.out]; exact hlt
        have hy : k < ys.length := by rw [HL'.out]; exact hlt
        obtain ⟨ad, u, rfl, hbl, hu, hc⟩ := (HR.out.below hb).at_ hlt
        obtain ⟨ad', u', rfl, hbl', hu', hc'⟩ := (HR'.out.below hb).at_ hlt
        rw [u32s_get hx] at hu
        rw [u32s_get hy] at hu'
        injection hu with hu
        injection hu' with hu'
        subst hu hu'
        have HX := Lib.hid hx; have HY := Lib.hid hy
        clear hx hy
        by_cases he : xs.getD k 0 = ys.getD k 0
        · have HE := Lib.hid (take_eq_succ HX.out HY.out he HT.out)
          have hv : ((xs.getD k 0 : Int) != (ys.getD k 0 : Int)) = false := by rw [he]; simp
          clear he
          generalize xs.getD k 0 = x at *
          generalize ys.getD k 0 = y at *
          go_wp2_with fail
          go_region
          all_goals go_wp2_with fail
          all_goals go_roundw
          case rel => exact ⟨k + 1, by omega, by go_num, HE.out, below_drew hb⟩
          case measure => simp [intOf]; omega
        · have HE := Lib.hid (sameL_at HX.out HY.out he)
          have hv : ((xs.getD k 0 : Int) != (ys.getD k 0 : Int)) = true := by rw [bne_iff_ne]; omega
          clear he
          generalize xs.getD k 0 = x at *
          generalize ys.getD k 0 = y at *
          go_wp2_with fail
          go_region
          all_goals go_wp2_with fail
          all_goals go_ret
          all_goals exact ⟨by rw [HE.out]; rfl, below_drew hb⟩
      · obtain rfl : k = n := by omega
        have HA := Lib.hid (sameL_all HL.out HL'.out HT.out)
        go_wp2_with fail
        go_ret
        exact ⟨by rw [HA.out]; rfl, hb⟩
  · have HF := Lib.hid (sameL_len (xs := xs) (ys := ys) (by rw [HL.out, HL'.out]; exact hnn))
    have hv : ((n : Int) != (n' : Int)) = true := by simp; omega
    clear hnn
    go_enter Tryz.func13, Tryz.ntmps13
    go_wp2_with fail
    go_ret
    exact ⟨by rw [HF.out]; rfl, Below.refl _ _⟩
/-- What a case's store is. -/
def StV (A : Option Addr) (n c : Nat) (A' : Option Addr) (n' c' : Nat) : Value := .agg #[.slice A n c, .slice A' n' c']
theorem store_any (k : Cs) (w : World) : Calls Tryz.prog 7 #[k.agg] w (Told (StV k.A k.n k.c k.A' k.n' k.c') w) := by
  have hb0 := (Below.refl w.heap.size w).alloc (Nat.le_refl _) (.cells #[.int .i64 k.size, .slice k.A k.n k.c, .slice k.A' k.n' k.c', .int .u32 (k.last : Nat)] 26)
  have BX := Lib.hid (Blk.new w 26 #[.int .i64 k.size, .slice k.A k.n k.c, .slice k.A' k.n' k.c', .int .u32 (k.last : Nat)])
  have HB := Lib.hid hb0
  clear hb0
  unfold Cs.agg StV
  go_enter Tryz.func7, Tryz.ntmps7
  go_wp2_with fail
  have hb1 := (HB.out).alloc (by simp) (.cells #[.slice k.A k.n k.c, .slice k.A' k.n' k.c'] 32)
  have BY := Blk.new (w.alloc (.cells #[.int .i64 k.size, .slice k.A k.n k.c, .slice k.A' k.n' k.c', .int .u32 (k.last : Nat)] 26)) 32 #[.slice k.A k.n k.c, .slice k.A' k.n' k.c']
  rw [World.size_alloc] at BY
  have y0 := BY.cell 0
  have y1 := BY.cell 1
  refine bodyPost_ret (v := .agg #[.slice k.A k.n k.c, .slice k.A' k.n' k.c']) (by simp [results, Tryz.results7, go_sem, y0, y1]) rfl ?_
  exact ⟨rfl, hb1⟩
end Go.Proofs.YtblekggklimpeaaGreatDoor

namespace Go.Proofs.YtblekggklimpeaaGreatDoor
open Go.RowKit
set_option maxRecDepth 100000 in
set_option maxHeartbeats 4000000 in
theorem is_yes {W w : World} {p : HP} {g : Nat} {h : HM} (L : Live W w p g h) (k : Cs) (hsz : k.size = (h.size : Int)) (hla : k.last = h.last) (A : Option Addr) (n c : Nat) (hn : n ≤ 9223372036854775807) (hr : Reads w w.heap.size 1 A n (u32s h.words))
    (A' : Option Addr) (n' c' : Nat) (hn' : n' ≤ 9223372036854775807) (hr' : Reads w w.heap.size 1 A' n' (u32s h.roots)) :
    Calls Tryz.prog 10 #[.pointer (some ⟨g, 0, none⟩), k.agg, StV A n c A' n' c'] w (Told (.bool true) w) := by
  have hf := L.fit
  have r1 := hf.room
  have r2 := hf.hi
  have hrl := hf.roots
  have hlw : n = h.words.length := by have := hr.1; rw [u32s_len] at this; omega
  have hlr : n' = h.roots.length := by have := hr'.1; rw [u32s_len] at this; omega
  subst hlw hlr
  have HSZ := Lib.hid (fun (w1 : World) (hb : Below w.heap.size w w1) => (L.after hb).size)
  have HLS := Lib.hid (fun (w1 : World) (hb : Below w.heap.size w w1) => (L.after hb).last)
  have HWD := Lib.hid (fun (w1 : World) (hb : Below w.heap.size w w1) => (L.after hb).words)
  have HRT := Lib.hid (fun (w1 : World) (hb : Below w.heap.size w w1) => (L.after hb).roots)
  have HSO := Lib.hid (fun (w2 : World) (hb : Below w.heap.size w w2) (g1 c1 : Nat) (r : Row w2 g1 43 c1 (u32s h.roots)) => oops_any (some ⟨g1, 0, none⟩) A' h.roots.length h.roots.length c1 c' h.roots h.roots w2 (by omega) (by omega)
    (by have := r.reads r.lt; rw [u32s_len] at this; exact this) ((hr'.below hb).more hb.size))
  rw [sameL_self] at HSO
  have HL1 := Lib.hid (u32s_len h.words)
  have HL2 := Lib.hid (u32s_len h.roots)
  have HRW := Lib.hid hr
  have hb4 := (Below.refl w.heap.size w).alloc (Nat.le_refl _) (.cells #[.int .i64 k.size, .slice k.A k.n k.c, .slice k.A' k.n' k.c', .int .u32 (k.last : Nat)] 26)
  have hb5 := hb4.alloc (by simp) (.cells #[.slice A h.words.length c, .slice A' h.roots.length c'] 32)
  have B4 := (Blk.new w 26 #[.int .i64 k.size, .slice k.A k.n k.c, .slice k.A' k.n' k.c', .int .u32 (k.last : Nat)]).alloc (.cells #[.slice A h.words.length c, .slice A' h.roots.length c'] 32)
  have B5 := Blk.new (w.alloc (.cells #[.int .i64 k.size, .slice k.A k.n k.c, .slice k.A' k.n' k.c', .int .u32 (k.last : Nat)] 26)) 32 #[.slice A h.words.length c, .slice A' h.roots.length c']
  rw [World.size_alloc] at B5
  unfold Cs.agg StV
  rw [hsz, hla] at B4 B5 hb4 hb5 ⊢
  have HB5 := Lib.hid hb5
  have HX4 := Lib.hid B4
  have HX5 := Lib.hid B5
  clear L hf hrl hr hr' hb4 hb5 B4 B5
  go_enter Tryz.func10, Tryz.ntmps10
  go_wp2_with fail
  generalize (w.alloc (.cells #[.int .i64 (h.size : Int), .slice k.A k.n k.c, .slice k.A' k.n' k.c', .int .u32 (h.last : Nat)] 26)).alloc (.cells #[.slice A h.words.length c, .slice A' h.roots.length c'] 32) = W5 at *
  refine (HWD.out W5 HB5.out).mono ?_
  rintro e W6 ⟨g6, c6, rfl, hr6, -, hb6⟩
  rw [HL1.out]
  have HB6 := Lib.hid (below_top HB5.out hb6)
  have HR6 := Lib.hid hr6
  have HX4 := Lib.hid (HX4.out.below hb6 HX4.out.lt)
  have HX5 := Lib.hid (HX5.out.below hb6 HX5.out.lt)
  have HC := Lib.hid (fun (w1 : World) (hb : Below W6.heap.size W6 w1) => (show w1.cell? ⟨w.heap.size, 0, none⟩ = some (.int .i64 (h.size : Int)) ∧ w1.cell? ⟨w.heap.size, 3, none⟩ = some (.int .u32 (h.last : Nat)) ∧ w1.cell? ⟨w.heap.size + 1, 0, none⟩ = some (.slice A h.words.length c) ∧ w1.cell? ⟨w.heap.size + 1, 1, none⟩ = some (.slice A' h.roots.length c')
    from ⟨(HX4.out.below hb HX4.out.lt).cell 0, (HX4.out.below hb HX4.out.lt).cell 3, (HX5.out.below hb HX5.out.lt).cell 0, (HX5.out.below hb HX5.out.lt).cell 1⟩))
  have HSZ := Lib.hid (fun (w1 : World) (hb : Below W6.heap.size W6 w1) => HSZ.out w1 (below_top HB6.out hb))
  have HLS := Lib.hid (fun (w1 : World) (hb : Below W6.heap.size W6 w1) => HLS.out w1 (below_top HB6.out hb))
  have HRT := Lib.hid (fun (w1 : World) (hb : Below W6.heap.size W6 w1) => HRT.out w1 (below_top HB6.out hb))
  have HSO := Lib.hid (fun (w2 : World) (hb : Below W6.heap.size W6 w2) (g1 c1 : Nat) (r : Row w2 g1 43 c1 (u32s h.roots)) => HSO.out w2 (below_top HB6.out hb) g1 c1 r)
  have hB0 : Below W6.heap.size W6 W6.drew := below_drew (Below.refl _ _)
  obtain ⟨c0, c1, c2, c3⟩ := HC.out W6 (Below.refl _ _)
  clear hr6 hb6
  go_wp2_with fail
  go_region_held3 (fun w' => w'.cell? ⟨w.heap.size, 0, none⟩ = some (.int .i64 (h.size : Int)) ∧ w'.cell? ⟨w.heap.size, 3, none⟩ = some (.int .u32 (h.last : Nat)) ∧ w'.cell? ⟨w.heap.size + 1, 0, none⟩ = some (.slice A h.words.length c) ∧ w'.cell? ⟨w.heap.size + 1, 1, none⟩ = some (.slice A' h.roots.length c'))
    (first | exact ⟨c0, c1, c2, c3⟩ | exact HC.out _ (by assumption) | go_keep)
    (first
      | (go_at_call 33; refine (HSZ.out _ (by assumption)).mono ?_; rintro e w' ⟨rfl, rfl⟩)
      | (go_at_call 34; refine (HLS.out _ (by assumption)).mono ?_; rintro e w' ⟨rfl, rfl⟩)
      | (go_at_call 35; refine (HRT.out _ (by assumption)).mono ?_; rintro e w3 ⟨g3, k3, rfl, rw3, -, hb3⟩; rw [HL2.out]; have hB3 := below_top (by assumption) hb3)
      | (go_at_call 13; refine (HSO.out _ (by assumption) _ _ (by assumption)).mono ?_; rintro e w4 ⟨rfl, hb4⟩; have hB4 := below_top (by assumption) hb4))
  have HB7 := Lib.hid hB4
  clear hB4 hb4 hB3 hb3 rw3 hB0 c0 c1 c2 c3
  go_wp2_with fail
  go_loopw [8] (fun i wr => ∃ j : Nat, j ≤ h.words.length ∧ i = .int .i64 j ∧ Below W6.heap.size W6 wr) (fun i _ => h.words.length - (intOf i).toNat)
  case atStart => exact ⟨0, by omega, rfl, HB7.out⟩
  case round =>
    obtain ⟨j, hj, rfl, hb⟩ := hrel
    by_cases hlt : j < h.words.length
    · have hcl := (HR6.out.below hb).cell (u32s_get hlt)
      obtain ⟨ad, u, rfl, hbl, hu, hc⟩ := (HRW.out.below (below_top HB6.out hb)).at_ hlt
      rw [u32s_get hlt] at hu
      injection hu with hu
      subst hu
      have hy0 := (HX5.out.below hb HX5.out.lt).cell 0
      have hv : ((h.words.getD j 0 : Int) != (h.words.getD j 0 : Int)) = false := by simp
      generalize h.words.getD j 0 = x at *
      go_wp2_with fail
      go_region
      all_goals go_wp2_with fail
      all_goals go_roundw
      case rel => exact ⟨j + 1, by omega, by go_num, below_drew hb⟩
      case measure => simp [intOf]; omega
    · obtain rfl : j = h.words.length := by omega
      have HBE := Lib.hid (HB6.out.trans (hb.mono HB6.out.size))
      go_wp2_with fail
      go_ret
      exact ⟨rfl, HBE.out⟩
end Go.Proofs.YtblekggklimpeaaGreatDoor

namespace Go.Proofs.YtblekggklimpeaaGreatDoor
open Go.RowKit
theorem Live.collect {W w : World} {p : HP} {g : Nat} {h : HM} {l : List Ob} (L : Live W w p g h) (G : h.Good l) : Calls Tryz.prog 19 #[.pointer (some ⟨g, 0, none⟩)] w (Done W p g (colH h l) (colV h l) w) := by
  have hh := collect_any L.at_ G L.envw.spares (fun k hk => by
    have h1 := L.envw.spares.lt
    have h2 := L.envw.pow.lt
    exact ⟨by omega, by omega⟩)
  rw [L.hg] at hh
  exact hh.mono fun _ _ H => L.of_made ⟨_, col_good G⟩ H
def ka0 : HM := HM.new 64
def ka1 : HM := ka0.AllocH 0 1 1
def ka2 : HM := ka1.AllocH 0 3 2
def ka3 : HM := ka2.AllocH 0 4 2
def ka4 : HM := ka3.AllocH 0 1 0
def ka5 : HM := ka4.putH 2 0 20
def ka6 : HM := ka5.putH 20 0 10
def ka7 : HM := ka6.putH 20 1 30
def ka8 : HM := ka7.setRootH 3 2
def ka9 : HM := ka8.setRootH 4 30
def kaL : List Ob := [⟨⟨1, 1, 0, 0, 1⟩, [20]⟩, ⟨⟨2, 3, 0, 0, 2⟩, [0, 0]⟩, ⟨⟨2, 4, 0, 0, 3⟩, [10, 30]⟩, ⟨⟨0, 1, 0, 0, 4⟩, []⟩]
theorem ka_f1 : ka0.AllocO 0 1 1 = 2 ∧ ka0.AllocE 0 1 1 = 0 := by decide +kernel
theorem ka_f2 : ka1.AllocO 0 3 2 = 10 ∧ ka1.AllocE 0 3 2 = 0 := by decide +kernel
theorem ka_f3 : ka2.AllocO 0 4 2 = 20 ∧ ka2.AllocE 0 4 2 = 0 := by decide +kernel
theorem ka_f4 : ka3.AllocO 0 1 0 = 30 ∧ ka3.AllocE 0 1 0 = 0 := by decide +kernel
theorem ka_f5 : ka4.putE 2 0 20 = 0 := by decide +kernel
theorem ka_f6 : ka5.putE 20 0 10 = 0 := by decide +kernel
theorem ka_f7 : ka6.putE 20 1 30 = 0 := by decide +kernel
theorem ka_f8 : ka7.setRootE 3 2 = 0 := by decide +kernel
theorem ka_f9 : ka8.setRootE 4 30 = 0 := by decide +kernel
theorem ka_parse : parseW ka9.words = some kaL := by kernel_rfl
theorem ka_live : liveO ka9 kaL = [2, 20, 30] := by kernel_rfl
theorem ka_len : kaL.length = 4 := rfl
theorem ka_moved : movedN ka9 kaL = 2 := by kernel_rfl
theorem ka_clear : clearedN ka9 kaL = 1 := by kernel_rfl
theorem ka_words : ka9.words.length = 18 := by kernel_rfl
theorem ka_col : (wsOf (colL ka9 kaL)).length = 12 := by kernel_rfl
theorem ka_root : (colR ka9 kaL).getD 4 0 = 20 := by kernel_rfl
theorem ka_rootN {h : HM} (e : h.roots.getD 4 0 = 20) (hl : h.roots.length = 64) : h.rootN 4 = 20 := by
  unfold HM.rootN
  rw [if_pos (by decide)]
  exact e
theorem own_readsK {w : World} {base n : Nat} {e : TypeId} {v : Value} {xs : List Value} (h : w.ownsRow base e 1 v n xs) (h0 : 0 < n) : ∃ A c, v = .slice A n c ∧ Reads w w.heap.size 1 A n xs := by
  obtain ⟨g, c, hv, hr, hl, _⟩ := Row.of_any h h0
  have := hr.reads (B := w.heap.size) hr.lt
  rw [hl] at this
  exact ⟨_, c, hv, this⟩
set_option maxRecDepth 100000 in
set_option maxHeartbeats 4000000 in
theorem awake_any (W : World) (E : Env W) : Calls Tryz.prog 6 #[] W (Told (.bool true) W) := by
  have HE := Lib.hid E; clear E
  go_enter Tryz.func6, Tryz.ntmps6
  go_wp2_with fail
  refine (new_any 64 (by decide) (by decide) _).mono ?_
  rintro e w1 hN
  obtain ⟨p, g, rfl, L0⟩ := Live.of_new (v := fun g => .tuple #[ptr g, .int .i64 0]) HE.out (by decide) (by decide) hN
  replace L0 : Live W w1 p g ka0 := L0
  clear hN
  unfold ptr
  go_wp2_with fail
  refine (L0.alloc 0 (by decide) 1 1).mono ?_
  rintro e w2 ⟨p1, rfl, L1, -⟩
  rw [ka_f1.1, ka_f1.2]
  replace L1 : Live W w2 p1 g ka1 := L1
  go_wp2_with fail
  refine (L1.alloc 0 (by decide) 3 2).mono ?_
  rintro e w3 ⟨p2, rfl, L2, -⟩
  rw [ka_f2.1, ka_f2.2]
  replace L2 : Live W w3 p2 g ka2 := L2
  go_wp2_with fail
  refine (L2.alloc 0 (by decide) 4 2).mono ?_
  rintro e w4 ⟨p3, rfl, L3, -⟩
  rw [ka_f3.1, ka_f3.2]
  replace L3 : Live W w4 p3 g ka3 := L3
  go_wp2_with fail
  refine (L3.alloc 0 (by decide) 1 0).mono ?_
  rintro e w5 ⟨p4, rfl, L4, -⟩
  rw [ka_f4.1, ka_f4.2]
  replace L4 : Live W w5 p4 g ka4 := L4
  go_wp2_with fail
  refine (L4.put 2 (by decide) 0 20 (by decide)).mono ?_
  rintro e w6 ⟨p5, rfl, L5, -⟩
  rw [ka_f5]
  replace L5 : Live W w6 p5 g ka5 := L5
  go_wp2_with fail
  refine (L5.put 20 (by decide) 0 10 (by decide)).mono ?_
  rintro e w7 ⟨p6, rfl, L6, -⟩
  rw [ka_f6]
  replace L6 : Live W w7 p6 g ka6 := L6
  go_wp2_with fail
  refine (L6.put 20 (by decide) 1 30 (by decide)).mono ?_
  rintro e w8 ⟨p7, rfl, L7, -⟩
  rw [ka_f7]
  replace L7 : Live W w8 p7 g ka7 := L7
  go_wp2_with fail
  refine (L7.setRoot 3 2 (by decide)).mono ?_
  rintro e w9 ⟨p8, rfl, L8, -⟩
  rw [ka_f8]
  replace L8 : Live W w9 p8 g ka8 := L8
  go_wp2_with fail
  refine (L8.setRoot 4 30 (by decide)).mono ?_
  rintro e wa ⟨p9, rfl, L9, -⟩
  rw [ka_f9]
  replace L9 : Live W wa p9 g ka9 := L9
  clear L0 L1 L2 L3 L4 L5 L6 L7 L8
  obtain ⟨l, G⟩ := L9.good
  have hp := G.ofWords.2
  rw [ka_parse] at hp
  injection hp with hp
  subst hp
  have h1 := ka_live
  have h2 := ka_moved
  have h3 := ka_clear
  have h4 := ka_words
  have h5 := ka_col
  have h6 := ka_root
  have h7 := ka_len
  generalize ka9 = h at *
  generalize kaL = l at *
  have hcw : (colH h l).words.length = 13 := by unfold colH HM.ofWords; simp [h5]
  have hrn : (colH h l).rootN 4 = 20 := ka_rootN h6 (col_good G).fit.roots
  have hcv : colV h l = .agg #[.int .i64 3, .int .i64 1, .int .i64 5, .int .i64 2, .int .i64 1] := by
    unfold colV
    rw [h1, h2, h3, h4, h5, h7]
    rfl
  have hg := L9.hg
  subst hg
  have HLV := Lib.hid (live_any L9.at_ G L9.envw.spares)
  unfold ptr at HLV
  rw [h1] at HLV
  have HL9 := Lib.hid L9
  have HG := Lib.hid G
  have HC := Lib.hid hcv
  have HR := Lib.hid hrn
  have HW := Lib.hid hcw
  clear h1 h2 h3 h4 h5 h6 h7 hcw hrn hcv L9 G
  go_wp2_with fail
  refine HLV.out.mono ?_
  rintro e wb ⟨v, rfl, hown, hb⟩
  obtain ⟨A, c, rfl, hrd⟩ := own_readsK hown (by decide)
  have HRD := Lib.hid hrd
  have HLb := Lib.hid (HL9.out.after hb)
  clear hrd hown hb HLV
  go_wp2_with fail
  have hba := (Below.refl wb.heap.size wb).alloc (Nat.le_refl _) (.cells #[.int .u32 2, .int .u32 20, .int .u32 30] 43)
  have HLc := Lib.hid (HLb.out.after hba)
  have HRc := Lib.hid ((HRD.out.below hba).more hba.size)
  have hk : Reads (wb.alloc (.cells #[.int .u32 2, .int .u32 20, .int .u32 30] 43)) (wb.alloc (.cells #[.int .u32 2, .int .u32 20, .int .u32 30] 43)).heap.size 1 (some ⟨wb.heap.size, 0, none⟩) 3 (u32s [2, 20, 30]) :=
    ⟨rfl, fun _ => ⟨_, rfl, by simp, fun j u hj => by
      rw [WideShapes.add_plain, Nat.zero_add, World.cell?_alloc_mark]
      simpa [u32s] using hj⟩⟩
  have HO := Lib.hid (oops_any A (some ⟨wb.heap.size, 0, none⟩) 3 3 c 3 [2, 20, 30] [2, 20, 30] _ (by decide) (by decide) HRc.out hk)
  rw [sameL_self] at HO
  clear hba hk
  generalize wb.alloc (.cells #[.int .u32 2, .int .u32 20, .int .u32 30] 43) = wc at *
  refine HO.out.mono ?_
  rintro e wd ⟨rfl, hbd⟩
  have HLd := Lib.hid (HLc.out.after hbd)
  have HCO := Lib.hid (HLd.out.collect HG.out)
  clear hbd HO HLc HRc HRD HLb
  go_wp2_with fail
  refine HCO.out.mono ?_
  rintro e we ⟨q, rfl, Le, -⟩
  rw [HC.out]
  have hbf := (Below.refl we.heap.size we).alloc (Nat.le_refl _) (.cells #[.int .i64 3, .int .i64 1, .int .i64 5, .int .i64 2, .int .i64 1] 52)
  have BX := Blk.new we 52 #[.int .i64 3, .int .i64 1, .int .i64 5, .int .i64 2, .int .i64 1]
  obtain ⟨x0, x1, x2, x3, x4⟩ := BX.cells5
  have Lf := Le.after hbf
  have HRT := Lib.hid (Lf.root 4)
  have HTP := Lib.hid Lf.top
  rw [HR.out, show rootE 4 = 0 by decide] at HRT
  rw [HW.out] at HTP
  have HLF := Lib.hid Lf
  clear Lf Le hbf BX HCO
  go_wp2_with fail
  refine HRT.out.mono ?_
  rintro e wg ⟨rfl, rfl⟩
  go_wp2_with fail
  refine HTP.out.mono ?_
  rintro e wh ⟨rfl, rfl⟩
  go_wp2_with fail
  go_ret
  exact ⟨rfl, HLF.out.below⟩
end Go.Proofs.YtblekggklimpeaaGreatDoor

namespace Go.Proofs.YtblekggklimpeaaGreatDoor
open Go.RowKit
attribute [local go_sem] Oper.semAt_some
/-- The objects' indexes. -/
def idxL (l : List Ob) : List Nat := (List.range l.length).map fun k => posOf (l.take k)
section
variable {w : World} {h : HM} {l : List Ob} {A A' : Option Addr} {n c n' c' : Nat}
theorem w0_parts (G : h.Good l) {k : Nat} (hk : k < l.length) : h.words.getD (posOf (l.take k)) 0 = (l[k]).x.w0 ∧ (l[k]).x.w0 % 16777216 = (l[k]).fs.length ∧ (l[k]).x.w0 / 16777216 % 8 = (l[k]).x.fmt ∧ posOf (l.take k) + 3 + (l[k]).fs.length ≤ h.words.length := by
  have L := G.laid
  rw [split_at l k hk] at L
  have h0 := L.w_at 0 (by omega)
  rw [Nat.add_zero, ws_0] at h0
  have K := L.ok_at
  have hu := unhd_ob K
  unfold unhd at hu
  have h1 := congrArg Hd.size hu
  have h2 := congrArg Hd.fmt hu
  exact ⟨h0, h1.trans K.size, h2, by have := L.words_len; omega⟩
theorem rsize_any (G : h.Good l) (hr : Reads w w.heap.size 1 A n (u32s h.words)) {k : Nat} (hk : k < l.length) :
    Calls Tryz.prog 64 #[StV A n c A' n' c', .int .i64 (posOf (l.take k) : Nat)] w (Told (.int .i64 ((l[k]).fs.length : Nat)) w) := by
  obtain ⟨h0, h1, _, h3⟩ := w0_parts G hk
  have hln : n = h.words.length := by have := hr.1; rw [u32s_len] at this; omega
  subst hln
  have hlt : posOf (l.take k) < h.words.length := by omega
  have hBX := (Below.refl w.heap.size w).alloc (Nat.le_refl _) (.cells #[.slice A h.words.length c, .slice A' n' c'] 32)
  obtain ⟨ad, u, rfl, hbl, hu, hc⟩ := (hr.below hBX).at_ hlt
  rw [u32s_get (by omega), h0] at hu
  injection hu with hu
  subst hu
  have hm : (((l[k]).x.w0 : Int)).tmod 16777216 = ((l[k]).fs.length : Int) := by rw [← h1]; exact (Int.ofNat_tmod _ _).symm
  have hfl : (l[k]).fs.length < 16777216 := by omega
  have HB := Lib.hid hBX
  have hw64 : wrap64 (((l[k]).fs.length : Nat) : Int) = ((l[k]).fs.length : Int) := by first | exact IntWalk.i64_in _ (by omega) | (unfold wrap64; omega)
  clear h0 h1 h3 hr G hBX hfl
  unfold StV
  generalize posOf (l.take k) = at_ at *
  generalize (l[k]).x.w0 = w0 at *
  generalize (l[k]).fs.length = fl at *
  go_enter Tryz.func64, Tryz.ntmps64
  go_wp2_with fail
  go_ret
  exact ⟨by simp only [hw64]; rfl, HB.out⟩
end
end Go.Proofs.YtblekggklimpeaaGreatDoor

namespace Go.Proofs.YtblekggklimpeaaGreatDoor
open Go.RowKit
/-- The numbers of the fields from 0 to n. -/
def fldL (p n : Nat) : List Nat := (p + 1) :: (List.range n).map (fun i => p + 3 + i)
def nmsK (p : Nat) (b : Ob) : List Nat := fldL p (if b.x.ptrB = true then b.fs.length else 0)
def holdN (p : Nat) (b : Ob) : Nat := if b.x.fmt = 4 then 1 else (nmsK p b).length
theorem fldL_len (p n : Nat) : (fldL p n).length = n + 1 := by simp [fldL]
theorem fldL_zero (p : Nat) : fldL p 0 = [p + 1] := rfl
theorem fldL_snoc (p n : Nat) : fldL p (n + 1) = fldL p n ++ [p + 3 + n] := by
  unfold fldL
  rw [List.range_succ, List.map_append]
  rfl
theorem nmsK_no {p : Nat} {b : Ob} (h1 : b.x.fmt ≠ 1) (h4 : b.x.fmt ≠ 4) : nmsK p b = [p + 1] := by
  unfold nmsK Hd.ptrB
  rw [if_neg (by simp [h1, h4])]
  rfl
theorem nmsK_yes {p : Nat} {b : Ob} (h : b.x.fmt = 1 ∨ b.x.fmt = 4) : nmsK p b = fldL p b.fs.length := by
  unfold nmsK Hd.ptrB
  rw [if_pos (by simpa using h)]
theorem nmsK_len (p : Nat) (b : Ob) : (nmsK p b).length ≤ b.fs.length + 1 := by
  unfold nmsK
  rw [fldL_len]
  split <;> omega
theorem nmsK_pos (p : Nat) (b : Ob) : 0 < (nmsK p b).length := by
  unfold nmsK
  rw [fldL_len]
  omega
theorem holdN_le (p : Nat) (b : Ob) : holdN p b ≤ (nmsK p b).length := by
  unfold holdN
  have := nmsK_pos p b
  split <;> omega
theorem nmsK_get {p : Nat} {b : Ob} {j x : Nat} (h : (nmsK p b)[j]? = some x) : p < x ∧ x < p + 3 + b.fs.length ∧ x = (if j = 0 then p + 1 else p + 2 + j) := by
  unfold nmsK fldL at h
  cases j with
  | zero => simp at h; subst h; simp; omega
  | succ j =>
    rw [List.getElem?_cons_succ, List.getElem?_map] at h
    cases hr : (List.range (if b.x.ptrB = true then b.fs.length else 0))[j]? with
    | none => rw [hr] at h; cases h
    | some y =>
      rw [hr] at h
      have hj := List.getElem?_eq_some_iff.1 hr
      obtain ⟨hj1, hj2⟩ := hj
      rw [List.length_range] at hj1
      rw [List.getElem_range] at hj2
      subst hj2
      simp at h
      subst h
      refine ⟨by omega, ?_, by simp; omega⟩
      split at hj1 <;> omega
section
variable {h : HM} {l : List Ob}
theorem range_map_getD (xs : List Nat) : (List.range xs.length).map (fun i => xs.getD i 0) = xs := by
  apply List.ext_getElem
  · simp
  · intro i h1 h2
    simp [List.getD_eq_getElem?_getD, List.getElem?_eq_getElem h2]
theorem fld_words (G : h.Good l) {k : Nat} (hk : k < l.length) {i : Nat} (hi : i < (l[k]).fs.length) : h.words.getD (posOf (l.take k) + 3 + i) 0 = (l[k]).fs.getD i 0 := by
  have L := G.laid
  rw [split_at l k hk] at L
  have h0 := L.w_at (i + 3) (by omega)
  rw [ws_f, show posOf (l.take k) + (i + 3) = posOf (l.take k) + 3 + i by omega] at h0
  exact h0
theorem cls_words (G : h.Good l) {k : Nat} (hk : k < l.length) : h.words.getD (posOf (l.take k) + 1) 0 = (l[k]).x.cls := by
  have L := G.laid
  rw [split_at l k hk] at L
  have h0 := L.w_at 1 (by omega)
  rw [ws_1] at h0
  exact h0
theorem fldL_words (G : h.Good l) {k : Nat} (hk : k < l.length) : (fldL (posOf (l.take k)) (l[k]).fs.length).map (fun i => h.words.getD i 0) = (l[k]).x.cls :: (l[k]).fs := by
  unfold fldL
  rw [List.map_cons, cls_words G hk, List.map_map]
  refine congrArg _ ?_
  conv => rhs; rw [← range_map_getD (l[k]).fs]
  apply List.map_congr_left
  intro i hi
  exact fld_words G hk (List.mem_range.1 hi)
theorem num_names (G : h.Good l) {k : Nat} (hk : k < l.length) : (nmsK (posOf (l.take k)) l[k]).map (fun i => h.words.getD i 0) = namesM h (2 * posOf (l.take k)) := by
  have L := G.laid
  rw [split_at l k hk] at L
  unfold namesM
  rw [half_pos, L.hd_at, L.fields_at]
  unfold nmsK
  split
  · exact fldL_words G hk
  · rw [fldL_zero, List.map_cons, cls_words G hk]; rfl
theorem num_held (G : h.Good l) {k : Nat} (hk : k < l.length) : ((nmsK (posOf (l.take k)) l[k]).take (holdN (posOf (l.take k)) l[k])).map (fun i => h.words.getD i 0) = heldM h (2 * posOf (l.take k)) := by
  have L := G.laid
  rw [split_at l k hk] at L
  have hn := num_names G hk
  rw [List.map_take, hn]
  unfold holdN heldM namesM
  rw [half_pos, L.hd_at, L.fields_at]
  by_cases h4 : (l[k]).x.fmt = 4
  · rw [if_pos h4]; simp [h4]
  · rw [if_neg h4, List.take_of_length_le]
    · by_cases h1 : (l[k]).x.fmt = 1
      · rw [if_pos (by unfold Hd.ptrB; simp [h1]), if_pos h1]
      · rw [if_neg (by unfold Hd.ptrB; simp [h1, h4]), if_neg h1]
    · have := congrArg List.length hn
      rw [List.length_map] at this
      rw [this]
      unfold namesM
      rw [half_pos, L.hd_at, L.fields_at]
      exact Nat.le_refl _
end
end Go.Proofs.YtblekggklimpeaaGreatDoor

namespace Go.Proofs.YtblekggklimpeaaGreatDoor
open Go.RowKit
def zsK (l : List Int) : List Value := l.map (fun i => Value.int .i64 i)
theorem zsK_app (a b : List Int) : zsK (a ++ b) = zsK a ++ zsK b := List.map_append
theorem zsK_len (a : List Int) : (zsK a).length = a.length := by simp [zsK]
theorem zsK_get {a : List Int} {i : Nat} (hi : i < a.length) : (zsK a)[i]? = some (.int .i64 (a.getD i 0)) := by
  unfold zsK
  rw [List.getElem?_map, List.getElem?_eq_getElem hi, List.getD_eq_getElem?_getD, List.getElem?_eq_getElem hi]
  rfl
theorem one_zsK (l : List Int) : ∀ u ∈ zsK l, u.oneCell' = true := by
  intro u hu; unfold zsK at hu; obtain ⟨x, _, rfl⟩ := List.mem_map.1 hu; rfl
/-- Which of the words are marked. -/
def markL (R : List Nat) (N : Nat) : List Bool := (List.range N).map (fun i => decide (2 * i ∈ R))
theorem markL_len (R : List Nat) (N : Nat) : (markL R N).length = N := by simp [markL]
theorem markL_get (R : List Nat) {N i : Nat} (hi : i < N) : (bools (markL R N))[i]? = some (.bool (decide (2 * i ∈ R))) := by
  unfold bools markL
  rw [List.getElem?_map, List.getElem?_map, List.getElem?_range hi]
  rfl
theorem markL_nil (N : Nat) : markL [] N = List.replicate N false := by
  unfold markL
  apply List.ext_getElem
  · simp
  · intro i h1 h2
    simp
theorem markL_set (R : List Nat) (N i : Nat) : (bools (markL R N)).set i (.bool true) = bools (markL (R ++ [2 * i]) N) := by
  unfold bools markL
  apply List.ext_getElem
  · simp
  · intro j h1 h2
    simp only [List.length_set, List.length_map, List.length_range] at h1
    rw [List.getElem_set]
    simp only [List.getElem_map, List.getElem_range]
    by_cases h : i = j
    · subst h
      rw [if_pos rfl]; simp
    · rw [if_neg h]
      have : ¬ j = i := fun e => h e.symm
      simp [List.mem_append, this]
      intro e; omega
/-- What a put does to memory. -/
structure WFr (gx gs : Nat) (vl vc vl' vc' : Value) (w w' : World) : Prop where
  os : w'.os = w.os
  tape : w'.tape = w.tape
  output : w'.output = w.output
  size : w.heap.size ≤ w'.heap.size
  same : ∀ k, k < w.heap.size → k ≠ gx → k ≠ gs → vl.ownBlock ≠ some k → vc.ownBlock ≠ some k → w'.heap[k]? = w.heap[k]?
  blk : ∀ k, k < w.heap.size → vl.ownBlock ≠ some k → vc.ownBlock ≠ some k → vl'.ownBlock ≠ some k ∧ vc'.ownBlock ≠ some k
section
variable {w w' w1 : World} {B gx gs N : Nat} {vl vc vl1 vc1 vl' vc' : Value} {L : Wk}
theorem WFr.refl (gx gs : Nat) (vl vc : Value) (w : World) : WFr gx gs vl vc vl vc w w := ⟨rfl, rfl, rfl, Nat.le_refl _, fun _ _ _ _ _ _ => rfl, fun _ _ h1 h2 => ⟨h1, h2⟩⟩
theorem WFr.of_below (h : Below w.heap.size w w') : WFr gx gs vl vc vl vc w w' := ⟨h.os, h.tape, h.output, h.size, fun k hk _ _ _ _ => h.block k hk, fun _ _ h1 h2 => ⟨h1, h2⟩⟩
theorem WFr.trans (h : WFr gx gs vl vc vl1 vc1 w w1) (k : WFr gx gs vl1 vc1 vl' vc' w1 w') : WFr gx gs vl vc vl' vc' w w' :=
  ⟨k.os.trans h.os, k.tape.trans h.tape, k.output.trans h.output, Nat.le_trans h.size k.size, fun q hq h1 h2 h3 h4 => by
    have hb := h.blk q hq h3 h4
    exact (k.same q (Nat.lt_of_lt_of_le hq h.size) h1 h2 hb.1 hb.2).trans (h.same q hq h1 h2 h3 h4), fun q hq h3 h4 => by
    have hb := h.blk q hq h3 h4
    exact k.blk q (Nat.lt_of_lt_of_le hq h.size) hb.1 hb.2⟩
end
end Go.Proofs.YtblekggklimpeaaGreatDoor

namespace Go.Proofs.YtblekggklimpeaaGreatDoor
open Go.RowKit
theorem fmt_nums {w0 f : Nat} (h : w0 < 536870912) (h1 : w0 / 16777216 % 8 = f) : ∃ w1 : Nat, ((w0 : Int)).tdiv 16777216 = (w1 : Int) ∧ w1 < 32 ∧ ((w1 : Int)).tmod 8 = (f : Int) ∧ f < 8 := by
  refine ⟨w0 / 16777216, (Int.ofNat_tdiv _ _).symm, Nat.div_lt_of_lt_mul (Nat.lt_of_lt_of_eq h (by decide)), ?_, ?_⟩
  · rw [← h1]; exact (Int.ofNat_tmod _ _).symm
  · have := Nat.mod_lt (w0 / 16777216) (show 8 > 0 by decide)
    exact Nat.lt_of_le_of_lt (Nat.le_of_eq h1.symm) this
theorem wr_u32 {n : Nat} (h : n < 32) : IntKind.u32.wrap (n : Int) = (n : Int) := IntWalk.u32_in _ (by omega)
theorem wr_64 {n : Nat} (h : n < 8) : wrap64 (n : Int) = (n : Int) := IntWalk.wrap64_in _ (by omega)
end Go.Proofs.YtblekggklimpeaaGreatDoor

namespace Go.Proofs.YtblekggklimpeaaGreatDoor
open Go.RowKit
attribute [local go_sem] Oper.semAt_some
section
variable {w : World} {h : HM} {l : List Ob} {A A' : Option Addr} {n c n' c' : Nat}
set_option maxHeartbeats 1000000 in
theorem rformat_any (G : h.Good l) (hr : Reads w w.heap.size 1 A n (u32s h.words)) {k : Nat} (hk : k < l.length) :
    Calls Tryz.prog 63 #[StV A n c A' n' c', .int .i64 (posOf (l.take k) : Nat)] w (Told (.int .i64 ((l[k]).x.fmt : Nat)) w) := by
  obtain ⟨h0, _, h1, h3⟩ := w0_parts G hk
  have hln : n = h.words.length := by have := hr.1; rw [u32s_len] at this; omega
  subst hln
  have hlt : posOf (l.take k) < h.words.length := by omega
  have hBX := (Below.refl w.heap.size w).alloc (Nat.le_refl _) (.cells #[.slice A h.words.length c, .slice A' n' c'] 32)
  obtain ⟨ad, u, rfl, hbl, hu, hc⟩ := (hr.below hBX).at_ hlt
  rw [u32s_get (by omega), h0] at hu
  injection hu with hu
  subst hu
  have hw0 : (l[k]).x.w0 < 536870912 := w0_lt (G.laid.ok _ (List.getElem_mem hk)).fit
  have HB := Lib.hid hBX
  clear h0 h3 hr G hBX
  unfold StV
  generalize posOf (l.take k) = at_ at *
  generalize (l[k]).x.w0 = w0 at *
  generalize (l[k]).x.fmt = f at *
  obtain ⟨w1, hm1, hq, hm2, hf8⟩ := fmt_nums hw0 h1
  have hw64 := wr_64 hf8
  have hwr := wr_u32 hq
  have hwf := wr_u32 (Nat.lt_trans hf8 (by decide))
  clear h1 hw0 hq hf8
  go_enter Tryz.func63, Tryz.ntmps63
  go_wp2_with fail
  go_ret
  exact ⟨by simp only [hw64]; rfl, HB.out⟩
end
end Go.Proofs.YtblekggklimpeaaGreatDoor

namespace Go.Proofs.YtblekggklimpeaaGreatDoor
open Go.RowKit
attribute [local go_sem] Oper.semAt_some
theorem one_intsK (l : List Nat) : ∀ u ∈ ints l, u.oneCell' = true := by
  intro u hu; unfold ints at hu; obtain ⟨x, _, rfl⟩ := List.mem_map.1 hu; rfl
theorem ints_appK (a b : List Nat) : ints (a ++ b) = ints a ++ ints b := List.map_append
theorem info_intK : (Tryz.prog.info? 3).map (fun i => (i.zero, i.size, i.bytes)) = some (some (.int .i64 0), 1, 8) := by kernel_rfl
theorem ownI_new (w : World) (x : Int) : (w.alloc (.cells #[.int .i64 x] 3)).ownsRow w.heap.size 3 1 (.slice (some ⟨w.heap.size, 0, none⟩) 1 1) 1 [.int .i64 x] :=
  ⟨rfl, .inr ⟨w.heap.size, 1, #[.int .i64 x], rfl, Nat.le_refl _, heap_alloc_new w _, Nat.le_refl _, by decide, by simp, rfl⟩⟩
theorem wrS3 {a f : Nat} (h : a + 3 + f ≤ 1048576) : wrap64 ((a : Int) + 3) = (a : Int) + 3 := IntWalk.wrap64_in _ (by omega)
theorem wrS4 {a f : Nat} (h : a + 3 + f ≤ 1048576) : wrap64 ((a : Int) + 3 + (f : Int)) = (a : Int) + 3 + (f : Int) := IntWalk.wrap64_in _ (by omega)
section
variable {w : World} {h : HM} {l : List Ob} {A A' : Option Addr} {n c n' c' : Nat}
/-- What Names answers. -/
def RNamP (p : Nat) (b : Ob) (w : World) (e : Ending) (w' : World) : Prop :=
  ∃ v, e = .returned (.tuple #[v, .int .i64 (holdN p b : Nat)]) ∧ w'.ownsRow w.heap.size 3 1 v (nmsK p b).length (ints (nmsK p b)) ∧ Below w.heap.size w w'
set_option maxRecDepth 100000 in
set_option maxHeartbeats 4000000 in
theorem rnames_any (G : h.Good l) (hr : Reads w w.heap.size 1 A n (u32s h.words)) {k : Nat} (hk : k < l.length) :
    Calls Tryz.prog 37 #[StV A n c A' n' c', .int .i64 (posOf (l.take k) : Nat)] w (RNamP (posOf (l.take k)) (l[k]) w) := by
  obtain ⟨-, -, h1, h3⟩ := w0_parts G hk
  have HF := Lib.hid (fun (w' : World) (hb : Below w.heap.size w w') => rformat_any (A' := A') (n' := n') (c' := c') (c := c) G ((hr.below hb).more hb.size) hk)
  have HZ := Lib.hid (fun (w' : World) (hb : Below w.heap.size w w') => rsize_any (A' := A') (n' := n') (c' := c') (c := c) G ((hr.below hb).more hb.size) hk)
  have hwl : h.words.length ≤ 1048576 := by have := G.fit.room; have := G.fit.hi; omega
  have h3' : posOf (l.take k) + 3 + (l[k]).fs.length ≤ 1048576 := by omega
  have hB1 := (Below.refl w.heap.size w).alloc (Nat.le_refl _) (.cells #[.slice A n c, .slice A' n' c'] 32)
  have X1 := Blk.new w 32 #[.slice A n c, .slice A' n' c']
  have HB1 := Lib.hid hB1
  have HX1 := Lib.hid X1
  have HS1 := Lib.hid (World.size_alloc w (.cells #[.slice A n c, .slice A' n' c'] 32))
  obtain ⟨i0, hi0, hz0, hz1, hz2⟩ := info_parts info_intK
  generalize posOf (l.take k) = at_ at *
  have HN1 := Lib.hid (fun (hp : (l[k]).x.fmt ≠ 1) (hq : (l[k]).x.fmt ≠ 4) => nmsK_no (p := at_) (b := l[k]) hp hq)
  have HN2 := Lib.hid (fun (hp : (l[k]).x.fmt = 1 ∨ (l[k]).x.fmt = 4) => nmsK_yes (p := at_) (b := l[k]) hp)
  have hHO : holdN at_ (l[k]) = if (l[k]).x.fmt = 4 then 1 else (nmsK at_ (l[k])).length := rfl
  have HHO := Lib.hid hHO
  generalize hnl : nmsK at_ (l[k]) = nl at *
  generalize hhn : holdN at_ (l[k]) = hn at *
  have HPP : RNamP at_ (l[k]) w = fun e w' => ∃ v, e = .returned (.tuple #[v, .int .i64 (hn : Nat)]) ∧ w'.ownsRow w.heap.size 3 1 v nl.length (ints nl) ∧ Below w.heap.size w w' := by
    unfold RNamP; rw [hnl, hhn]
  rw [HPP]
  clear HPP hnl hhn hHO h1 h3 hB1 X1 hr
  generalize (l[k]).x.fmt = f at *
  generalize (l[k]).fs.length = fl at *
  clear hk G
  have hw1 : wrap64 ((at_ : Int) + 1) = (at_ : Int) + 1 := by first | exact IntWalk.wrap64_in _ (by omega) | (unfold wrap64; omega)
  unfold StV at HF HZ ⊢
  have hcase : ¬ (f = 1 ∨ f = 4) ∨ f = 1 ∨ f = 4 := by omega
  rcases hcase with hfp | rfl | rfl
  · have hn1 := HN1.out (fun e => hfp (.inl e)) (fun e => hfp (.inr e))
    have hd1 : ((f : Int) == 1) = false := by simp; omega
    have hd4 : ((f : Int) == 4) = false := by simp; omega
    have hho := HHO.out
    rw [if_neg (fun e => hfp (.inr e)), hn1] at hho
    subst hho
    subst hn1
    clear hfp HN1 HN2 HHO HZ
    go_enter Tryz.func37, Tryz.ntmps37
    go_upto_region 2 with fail
    have hb2 := HB1.out.alloc HB1.out.size (.cells #[.int .i64 ((at_ : Int) + 1)] 3)
    have HX2 := Lib.hid (HX1.out.alloc (.cells #[.int .i64 ((at_ : Int) + 1)] 3))
    have hown := ownI_new (w.alloc (.cells #[.slice A n c, .slice A' n' c'] 32)) ((at_ : Int) + 1)
    rw [World.size_alloc] at hown
    have HOW2 := Lib.hid (show ((w.alloc (.cells #[.slice A n c, .slice A' n' c'] 32)).alloc (.cells #[.int .i64 ((at_ : Int) + 1)] 3)).ownsRow w.heap.size 3 1 (.slice (some ⟨w.heap.size + 1, 0, none⟩) 1 1) 1 (ints [at_ + 1]) from own_base hown (by omega))
    have x0 := HX2.out.cell 0
    have x1 := HX2.out.cell 1
    have HFC := Lib.hid (HF.out _ hb2)
    have HB2 := Lib.hid hb2
    have hs2 : w.heap.size < ((w.alloc (.cells #[.slice A n c, .slice A' n' c'] 32)).alloc (.cells #[.int .i64 ((at_ : Int) + 1)] 3)).heap.size := by simp; omega
    clear hb2 hown HB1 HX1 HF
    generalize ((w.alloc (.cells #[.slice A n c, .slice A' n' c'] 32)).alloc (.cells #[.int .i64 ((at_ : Int) + 1)] 3)) = W2 at *
    go_wp2_with fail
    refine HFC.out.mono ?_
    rintro e W3 ⟨rfl, hb3⟩
    have HB3 := Lib.hid (below_top HB2.out hb3)
    have HOW3 := Lib.hid (own_below HOW2.out hb3)
    have HX3 := Lib.hid (HX2.out.below hb3 HX2.out.lt)
    clear hb3 HFC HB2 HOW2 HX2 x0 x1 hs2
    go_wp2_with fail
    go_ret2
    exact ⟨_, rfl, HOW3.out, HB3.out⟩
  · have hn1 := HN2.out (.inl rfl)
    have hho := HHO.out
    rw [if_neg (by decide), hn1] at hho
    subst hho
    subst hn1
    clear HN1 HN2 HHO
    go_enter Tryz.func37, Tryz.ntmps37
    go_upto_region 2 with fail
    have hb2 := HB1.out.alloc HB1.out.size (.cells #[.int .i64 ((at_ : Int) + 1)] 3)
    have HX2 := Lib.hid (HX1.out.alloc (.cells #[.int .i64 ((at_ : Int) + 1)] 3))
    have hown := ownI_new (w.alloc (.cells #[.slice A n c, .slice A' n' c'] 32)) ((at_ : Int) + 1)
    rw [World.size_alloc] at hown
    have HOW2 := Lib.hid (show ((w.alloc (.cells #[.slice A n c, .slice A' n' c'] 32)).alloc (.cells #[.int .i64 ((at_ : Int) + 1)] 3)).ownsRow w.heap.size 3 1 (.slice (some ⟨w.heap.size + 1, 0, none⟩) 1 1) 1 (ints [at_ + 1]) from own_base hown (by omega))
    have x0 := HX2.out.cell 0
    have x1 := HX2.out.cell 1
    have HFC := Lib.hid (HF.out _ hb2)
    have HB2 := Lib.hid hb2
    have hs2 : w.heap.size < ((w.alloc (.cells #[.slice A n c, .slice A' n' c'] 32)).alloc (.cells #[.int .i64 ((at_ : Int) + 1)] 3)).heap.size := by simp; omega
    clear hb2 hown HB1 HX1 HF
    generalize ((w.alloc (.cells #[.slice A n c, .slice A' n' c'] 32)).alloc (.cells #[.int .i64 ((at_ : Int) + 1)] 3)) = W2 at *
    go_wp2_with fail
    refine HFC.out.mono ?_
    rintro e W3 ⟨rfl, hb3⟩
    have HB3 := Lib.hid (below_top HB2.out hb3)
    have HOW3 := Lib.hid (own_below HOW2.out hb3)
    have HX3 := Lib.hid (HX2.out.below hb3 HX2.out.lt)
    clear hb3 HFC HB2 HOW2 HX2 x0 x1 hs2
    go_wp2_with fail
    go_loopw [6, 8] (fun lv iv wr => ∃ i : Nat, iv = .int .i64 i ∧ i ≤ fl ∧ wr.ownsRow w.heap.size 3 1 lv (i + 1) (ints (fldL at_ i)) ∧ Blk wr w.heap.size 32 #[.slice A n c, .slice A' n' c'] ∧ Below w.heap.size w wr) (fun _ iv _ => fl - (intOf iv).toNat)
    case atStart => exact ⟨0, rfl, Nat.zero_le _, HOW3.out, HX3.out, HB3.out⟩
    case round =>
      clear HB3 HOW3 HX3
      obtain ⟨i, rfl, hi, hown, hx, hb⟩ := hrel
      have HOW := Lib.hid hown
      have HX := Lib.hid hx
      have HB := Lib.hid hb
      have x0 := hx.cell 0
      have x1 := hx.cell 1
      have HSZ := Lib.hid (HZ.out wr hb)
      clear hown hx hb
      have hww := Nat.le_trans (Nat.add_le_add_left hi (at_ + 3)) h3'
      by_cases hlt : i < fl
      · have hw3 : wrap64 ((at_ : Int) + 3) = (at_ : Int) + 3 := wrS3 h3'
        have hw4 : wrap64 ((at_ : Int) + 3 + (i : Int)) = (at_ : Int) + 3 + (i : Int) := wrS4 hww
        have HSN := Lib.hid (fldL_snoc at_ i)
        have HLT := Lib.hid hlt
        have hi2 : i ≤ 1048576 := Nat.le_trans (Nat.le_add_left _ _) hww
        go_wp2_with fail
        refine HSZ.out.mono ?_
        rintro e w5 ⟨rfl, hb5⟩
        have HOW5 := Lib.hid (own_below HOW.out hb5)
        have HX5 := Lib.hid (HX.out.below hb5 HX.out.lt)
        have HB5 := Lib.hid (below_top HB.out hb5)
        clear hb5 HSZ HOW HX HB x0 x1
        have hs5 := HB5.out.size
        go_wp2_with (at_builtin; refine wpList_append_any _ rfl (.tmp 28) (.tmp 33) _ rfl w.heap.size 3 i0 _ 1 8 Tryz.underlying76 hi0 hz0 hz1 hz2 rfl (by omega) u6 (i + 1) _ rfl (HOW5.out.alloc _) (w5.heap.size + 1) (some ⟨w5.heap.size, 0, none⟩) 1 1 [.int .i64 ((at_ : Int) + 3 + (i : Int))] rfl ⟨rfl, fun _ => ⟨_, rfl, by first | exact Nat.zero_lt_one | decide | simp, cell_one_new _ _ _⟩⟩ (fun u hu => by rcases List.mem_singleton.1 hu with rfl; rfl) (by simp only [maxLen]; omega) (by omega) (by first | omega | (simp; omega)) ?_; intro v1 w6 hown6 hgrow hat6)
        have hb6 := below_grown (Nat.le_refl _) (HB5.out.alloc hs5 _) hgrow (fun q hq => (HOW5.out.lt q hq).1)
        have hx6 := HX5.out
        go_roundw
        case rel => exact ⟨i + 1, by go_num, HLT.out, by rw [HSN.out, ints_appK]; exact hown6, (HX5.out.alloc _).same (hgrow.block _ (by have := HX5.out.lt; simp; omega) (fun e => own_ne_blk HOW5.out HX5.out (by decide) (by first | exact e | exact e.symm))), hb6⟩
        case measure => have := HLT.out; simp [intOf]; omega
      · obtain rfl : i = fl := by omega
        have hlt' : decide ((i : Int) < (i : Int)) = false := by simp
        have HE := Lib.hid (And.intro HOW.out HB.out)
        clear HOW HB HX hi hlt hww
        go_wp2_with fail
        refine HSZ.out.mono ?_
        rintro e w5 ⟨rfl, hb5⟩
        have HOW5 := Lib.hid (own_below HE.out.1 hb5)
        have HB5 := Lib.hid (below_top HE.out.2 hb5)
        obtain ⟨A5, c5, hv5⟩ := own_val HOW5.out
        subst hv5
        clear hb5 HSZ HE x0 x1
        go_wp2_with fail
        go_ret2
        exact ⟨_, by rw [fldL_len]; rfl, by rw [fldL_len]; exact HOW5.out, HB5.out⟩
  · have hn1 := HN2.out (.inr rfl)
    have hho := HHO.out
    rw [if_pos rfl] at hho
    subst hho
    subst hn1
    clear HN1 HN2 HHO
    go_enter Tryz.func37, Tryz.ntmps37
    go_upto_region 2 with fail
    have hb2 := HB1.out.alloc HB1.out.size (.cells #[.int .i64 ((at_ : Int) + 1)] 3)
    have HX2 := Lib.hid (HX1.out.alloc (.cells #[.int .i64 ((at_ : Int) + 1)] 3))
    have hown := ownI_new (w.alloc (.cells #[.slice A n c, .slice A' n' c'] 32)) ((at_ : Int) + 1)
    rw [World.size_alloc] at hown
    have HOW2 := Lib.hid (show ((w.alloc (.cells #[.slice A n c, .slice A' n' c'] 32)).alloc (.cells #[.int .i64 ((at_ : Int) + 1)] 3)).ownsRow w.heap.size 3 1 (.slice (some ⟨w.heap.size + 1, 0, none⟩) 1 1) 1 (ints [at_ + 1]) from own_base hown (by omega))
    have x0 := HX2.out.cell 0
    have x1 := HX2.out.cell 1
    have HFC := Lib.hid (HF.out _ hb2)
    have HB2 := Lib.hid hb2
    have hs2 : w.heap.size < ((w.alloc (.cells #[.slice A n c, .slice A' n' c'] 32)).alloc (.cells #[.int .i64 ((at_ : Int) + 1)] 3)).heap.size := by simp; omega
    clear hb2 hown HB1 HX1 HF
    generalize ((w.alloc (.cells #[.slice A n c, .slice A' n' c'] 32)).alloc (.cells #[.int .i64 ((at_ : Int) + 1)] 3)) = W2 at *
    go_wp2_with fail
    refine HFC.out.mono ?_
    rintro e W3 ⟨rfl, hb3⟩
    have HB3 := Lib.hid (below_top HB2.out hb3)
    have HOW3 := Lib.hid (own_below HOW2.out hb3)
    have HX3 := Lib.hid (HX2.out.below hb3 HX2.out.lt)
    clear hb3 HFC HB2 HOW2 HX2 x0 x1 hs2
    go_wp2_with fail
    go_loopw [6, 8] (fun lv iv wr => ∃ i : Nat, iv = .int .i64 i ∧ i ≤ fl ∧ wr.ownsRow w.heap.size 3 1 lv (i + 1) (ints (fldL at_ i)) ∧ Blk wr w.heap.size 32 #[.slice A n c, .slice A' n' c'] ∧ Below w.heap.size w wr) (fun _ iv _ => fl - (intOf iv).toNat)
    case atStart => exact ⟨0, rfl, Nat.zero_le _, HOW3.out, HX3.out, HB3.out⟩
    case round =>
      clear HB3 HOW3 HX3
      obtain ⟨i, rfl, hi, hown, hx, hb⟩ := hrel
      have HOW := Lib.hid hown
      have HX := Lib.hid hx
      have HB := Lib.hid hb
      have x0 := hx.cell 0
      have x1 := hx.cell 1
      have HSZ := Lib.hid (HZ.out wr hb)
      clear hown hx hb
      have hww := Nat.le_trans (Nat.add_le_add_left hi (at_ + 3)) h3'
      by_cases hlt : i < fl
      · have hw3 : wrap64 ((at_ : Int) + 3) = (at_ : Int) + 3 := wrS3 h3'
        have hw4 : wrap64 ((at_ : Int) + 3 + (i : Int)) = (at_ : Int) + 3 + (i : Int) := wrS4 hww
        have HSN := Lib.hid (fldL_snoc at_ i)
        have HLT := Lib.hid hlt
        have hi2 : i ≤ 1048576 := Nat.le_trans (Nat.le_add_left _ _) hww
        go_wp2_with fail
        refine HSZ.out.mono ?_
        rintro e w5 ⟨rfl, hb5⟩
        have HOW5 := Lib.hid (own_below HOW.out hb5)
        have HX5 := Lib.hid (HX.out.below hb5 HX.out.lt)
        have HB5 := Lib.hid (below_top HB.out hb5)
        clear hb5 HSZ HOW HX HB x0 x1
        have hs5 := HB5.out.size
        go_wp2_with (at_builtin; refine wpList_append_any _ rfl (.tmp 28) (.tmp 33) _ rfl w.heap.size 3 i0 _ 1 8 Tryz.underlying76 hi0 hz0 hz1 hz2 rfl (by omega) u6 (i + 1) _ rfl (HOW5.out.alloc _) (w5.heap.size + 1) (some ⟨w5.heap.size, 0, none⟩) 1 1 [.int .i64 ((at_ : Int) + 3 + (i : Int))] rfl ⟨rfl, fun _ => ⟨_, rfl, by first | exact Nat.zero_lt_one | decide | simp, cell_one_new _ _ _⟩⟩ (fun u hu => by rcases List.mem_singleton.1 hu with rfl; rfl) (by simp only [maxLen]; omega) (by omega) (by first | omega | (simp; omega)) ?_; intro v1 w6 hown6 hgrow hat6)
        have hb6 := below_grown (Nat.le_refl _) (HB5.out.alloc hs5 _) hgrow (fun q hq => (HOW5.out.lt q hq).1)
        have hx6 := HX5.out
        go_roundw
        case rel => exact ⟨i + 1, by go_num, HLT.out, by rw [HSN.out, ints_appK]; exact hown6, (HX5.out.alloc _).same (hgrow.block _ (by have := HX5.out.lt; simp; omega) (fun e => own_ne_blk HOW5.out HX5.out (by decide) (by first | exact e | exact e.symm))), hb6⟩
        case measure => have := HLT.out; simp [intOf]; omega
      · obtain rfl : i = fl := by omega
        have hlt' : decide ((i : Int) < (i : Int)) = false := by simp
        have HE := Lib.hid (And.intro HOW.out HB.out)
        clear HOW HB HX hi hlt hww
        go_wp2_with fail
        refine HSZ.out.mono ?_
        rintro e w5 ⟨rfl, hb5⟩
        have HOW5 := Lib.hid (own_below HE.out.1 hb5)
        have HB5 := Lib.hid (below_top HE.out.2 hb5)
        obtain ⟨A5, c5, hv5⟩ := own_val HOW5.out
        subst hv5
        clear hb5 HSZ HE x0 x1
        go_wp2_with fail
        go_ret2
        exact ⟨_, rfl, by rw [fldL_len]; exact HOW5.out, HB5.out⟩
end
end Go.Proofs.YtblekggklimpeaaGreatDoor

namespace Go.Proofs.YtblekggklimpeaaGreatDoor
open Go.RowKit
attribute [local go_sem] Oper.semAt_some
theorem rkind_any (o : Nat) (ho : o < 4294967296) (w : World) :
    Calls Tryz.prog 59 #[.int .u32 o] w fun e w' => e = .returned (.int .i64 (kindM o)) ∧ w = w' := by
  by_cases h0 : o = 0
  · subst h0
    go_enter Tryz.func59, Tryz.ntmps59
    go_wp2_with fail
    go_ret
    exact ⟨rfl, rfl⟩
  · have hb : ((o : Int) == 0) = false := by simpa using h0
    by_cases h2 : o % 2 = 1
    · have h1 : (((o : Int) % 2) == 1) = true := by simp; omega
      have HK := Lib.hid (show kindM o = 1 by simp [kindM, h0, h2]); clear h2 h0
      go_enter Tryz.func59, Tryz.ntmps59
      go_wp2_with fail
      go_ret
      exact ⟨by rw [HK.out]; rfl, rfl⟩
    · have h1 : (((o : Int) % 2) == 1) = false := by simp; omega
      have HK := Lib.hid (show kindM o = 2 by simp [kindM, h0, h2]); clear h2 h0
      go_enter Tryz.func59, Tryz.ntmps59
      go_wp2_with fail
      go_ret
      exact ⟨by rw [HK.out]; rfl, rfl⟩
theorem own_ne_own {w : World} {B B' s s' n n' : Nat} {e e' : TypeId} {v v' : Value} {xs xs' : List Value} (h : w.ownsRow B e s v n xs) (k : w.ownsRow B' e' s' v' n' xs') (hne : e ≠ e') : ∀ q, v.ownBlock = some q → v'.ownBlock ≠ some q := by
  intro q hq
  rcases k.2 with ⟨rfl, _⟩ | ⟨g', cap, cur, rfl, _, h3, _⟩
  · intro e; cases e
  · intro e2
    injection e2 with e2
    subst e2
    exact own_ne_blk h h3 hne hq
theorem kind2 {o : Nat} (h : kindM o = 2) : o = 2 * (o / 2) ∧ o ≠ 0 := by
  unfold kindM at h
  split at h
  · cases h
  · split at h
    · cases h
    · omega
end Go.Proofs.YtblekggklimpeaaGreatDoor
