/- CollectLives, walked: it answers true. -/
/- CollectCollects, walked: it answers true. -/
/- CollectWeak's closure: where an oop goes, or what root 0 is. -/
/- Right behind a collection another one finds nothing to do. Plain data. -/
/- CollectAgain, walked: it answers true. -/
/- CollectWeak, walked: it answers true. -/
/- The document's Is. -/
import Derived.Test.YtblekggklimpeaaDoorJKRWalk
import Derived.Test.YtblekggklimpeaaDoorJKIs
import Derived.Test.YtblekggklimpeaaDoorJKRCol
import Derived.Test.YtblekggklimpeaaDoorJLive
import Derived.Deep.RegionHeld3
import Derived.BigQuiet
set_option linter.unusedVariables false
set_option linter.unusedSimpArgs false
set_option linter.unusedSectionVars false
namespace Go.Proofs.YtblekggklimpeaaDoor
open Go.RowKit Go.Sort
attribute [local go_sem] Oper.semAt_some
def Cs.cells (k : Cs) : Array Value := #[.int .i64 k.size, .slice k.A k.n k.c, .slice k.A' k.n' k.c', .int .u32 (k.last : Nat)]
theorem cells4K {w : World} {g : Nat} {t : TypeId} {a b c d : Value} (h : Blk w g t #[a, b, c, d]) : w.cell? ⟨g, 0, none⟩ = some a ∧ w.cell? ⟨g, 1, none⟩ = some b ∧ w.cell? ⟨g, 2, none⟩ = some c ∧ w.cell? ⟨g, 3, none⟩ = some d := ⟨h.cell 0, h.cell 1, h.cell 2, h.cell 3⟩
theorem own_readsN {w : World} {base n : Nat} {v : Value} {xs : List Nat} {e : TypeId} (h : w.ownsRow base e 1 v n (u32s xs)) : ∃ A c, v = .slice A n c ∧ Reads w w.heap.size 1 A n (u32s xs) ∧ n ≤ 9223372036854775807 := by
  by_cases h0 : 0 < n
  · obtain ⟨A, c, hv, hr⟩ := own_readsK h h0
    refine ⟨A, c, hv, hr, ?_⟩
    rcases h.2 with ⟨rfl, h2⟩ | ⟨g, cap, cur, _, _, _, h4, h5, _⟩
    · omega
    · simp only [maxLen] at h5
      omega
  · obtain ⟨A, c, hv⟩ := own_val h
    have h1 := h.1
    refine ⟨A, c, hv, ⟨by omega, fun h2 => absurd h2 h0⟩, by omega⟩
section
variable {W : World}
set_option maxRecDepth 100000 in
set_option maxHeartbeats 8000000 in
theorem livesL_any (W : World) (E : Env W) (k : Cs) (hk : k.At W W.heap.size) : Calls Tryd.prog 3 #[k.agg] W (Told (.bool true) W) := by
  have hb1 := (Below.refl W.heap.size W).alloc (Nat.le_refl _) (.cells k.cells 26)
  have B1 := Blk.new W 26 k.cells
  have HB1 := Lib.hid hb1
  have HBX := Lib.hid B1
  have HE := Lib.hid (E.below hb1)
  have HK := Lib.hid (hk.below hb1)
  have HBU := Lib.hid (built_any _ (E.below hb1) k (hk.below hb1))
  have HAW := Lib.hid (fun (w : World) (E : Env w) => awake_any w E)
  have HST := Lib.hid (fun (w : World) => store_any k w)
  have hsz := World.size_alloc W (.cells k.cells 26)
  clear hb1 B1 E hk
  unfold Cs.cells at HB1 HBX HE HK HBU hsz
  unfold Cs.agg at HBU HST ⊢
  unfold StV at HST
  go_enter Tryd.func3, Tryd.ntmps3
  obtain ⟨x0, x1, x2, x3⟩ := cells4K HBX.out
  go_wp2_with fail
  clear x0 x1 x2 x3
  generalize W.alloc (.cells #[.int .i64 k.size, .slice k.A k.n k.c, .slice k.A' k.n' k.c', .int .u32 (k.last : Nat)] 26) = W1 at *
  refine HBU.out.mono ?_
  rintro e w1 (⟨hno, ⟨v, rfl⟩, hb⟩ | ⟨hok, p, g, rfl, L, hws, hrs⟩)
  · have HB2 := Lib.hid (below_top HB1.out hb)
    have HE2 := Lib.hid (HE.out.below hb)
    clear hb hno HBU
    go_wp2_with fail
    refine (HAW.out _ HE2.out).mono ?_
    rintro e w2 ⟨rfl, hb2⟩
    have HB3 := Lib.hid (below_top HB2.out hb2)
    clear hb2
    go_wp2_with fail
    go_ret
    exact ⟨rfl, HB3.out⟩
  · have HL := Lib.hid L
    obtain ⟨l, G⟩ := L.good
    have HG := Lib.hid G
    have HEV := Lib.hid L.envw
    have HB2 := Lib.hid (below_top HB1.out L.below)
    have HX2 := Lib.hid (HBX.out.below L.below HBX.out.lt)
    have HK2 := Lib.hid (HK.out.below L.below)
    have HWS := Lib.hid (And.intro hws hrs)
    have HOK := Lib.hid hok
    clear L G hws hrs hok HBU HB1 HBX HE HK
    go_wp2_with fail
    refine (HAW.out _ HEV.out).mono ?_
    rintro e w2 ⟨rfl, hb2⟩
    have HL3 := Lib.hid (HL.out.after hb2)
    have HB3 := Lib.hid (below_top HB2.out hb2)
    have HX3 := Lib.hid (HX2.out.below hb2 HX2.out.lt)
    have HK3 := Lib.hid (HK2.out.below hb2)
    obtain ⟨x0, x1, x2, x3⟩ := cells4K HX3.out
    clear hb2 HB2 HX2 HK2 HL HEV
    go_wp2_with fail
    refine (HST.out _).mono ?_
    rintro e w3 ⟨rfl, hb3⟩
    have HB4 := Lib.hid (below_top HB3.out hb3)
    have HL4 := Lib.hid (HL3.out.after hb3)
    have HX4 := Lib.hid (HX3.out.below hb3 HX3.out.lt)
    have HRD := Lib.hid (fun (w' : World) (hb : Below w3.heap.size w3 w') => show Reads w' w'.heap.size 1 k.A k.n (u32s k.h.words) ∧ Reads w' w'.heap.size 1 k.A' k.n' (u32s k.h.roots) from by
      have h1 := (HK3.out.below hb3).below hb
      rw [HWS.out.1, HWS.out.2]
      exact ⟨h1.hr, h1.hr'⟩)
    have hb4 : Below w3.heap.size w3 (w3.alloc (.cells #[.slice k.A k.n k.c, .slice k.A' k.n' k.c'] 32)) := (Below.refl _ _).alloc (Nat.le_refl _) _
    have HS4 := Lib.hid (Blk.new w3 32 #[.slice k.A k.n k.c, .slice k.A' k.n' k.c'])
    have HX5 := Lib.hid (HX4.out.below hb4 HX4.out.lt)
    have HB5 := Lib.hid hb4
    have HPL := Lib.hid (fun (w' : World) (hb : Below w3.heap.size w3 w') => plan_any (HL4.out.after hb).at_ HG.out (HL4.out.after hb).envw.spares)
    have HLV := Lib.hid (fun (w' : World) (hb : Below w3.heap.size w3 w') => live_any (HL4.out.after hb).at_ HG.out (HL4.out.after hb).envw.spares)
    have HRP := Lib.hid (fun (w' : World) (hb : Below w3.heap.size w3 w') => rplan_any (c := k.c) (c' := k.c') HG.out (HRD.out w' hb).1 (HRD.out w' hb).2)
    have HRL := Lib.hid (fun (w' : World) (hb : Below w3.heap.size w3 w') => rlive_any (c := k.c) (c' := k.c') HG.out (HRD.out w' hb).1 (HRD.out w' hb).2)
    have hsz1 : k.size = (k.h.size : Int) := by
      have := HOK.out.1
      show k.size = ((k.size.toNat : Nat) : Int)
      omega
    have hn1 := (HK3.out).hn
    have hn2 := (HK3.out).hn'
    have HIS := Lib.hid (fun (w' : World) (hb : Below w3.heap.size w3 w') => is_yes (HL4.out.after hb) k hsz1 rfl k.A k.n k.c hn1 (HRD.out w' hb).1 k.A' k.n' k.c' hn2 (HRD.out w' hb).2)
    rw [HL4.out.hg] at HPL HLV
    clear hb3 hb4 HB3 HX3 HK3 HL3 HX4 HRD HWS HOK hsz1 hn1 hn2 x0 x1 x2 x3 HAW HST
    unfold StV at HRP HRL HIS
    unfold Cs.agg at HIS
    unfold ptr at HPL HLV
    go_upto_region 5 with fail
    generalize hW4 : (w3.alloc (.cells #[.slice k.A k.n k.c, .slice k.A' k.n' k.c'] 32)) = w4 at *
    have HS3 := Lib.hid (show w3.heap.size < w4.heap.size by rw [← hW4]; simp)
    clear hW4
    go_wp2_with fail
    refine (HPL.out _ HB5.out).mono ?_
    rintro e w5 ⟨v5, rfl, hown5, hb5⟩
    obtain ⟨A5, g5, c5, rfl, hg5, ho5⟩ := own_two hown5
    have HO5 := Lib.hid ho5
    have HB6 := Lib.hid (below_top HB5.out hb5)
    have HS5 := Lib.hid (HS4.out.below hb5 HS4.out.lt)
    have HX6 := Lib.hid (HX5.out.below hb5 HX5.out.lt)
    have y0 := HS5.out.cell 0
    have y1 := HS5.out.cell 1
    clear hown5 hb5 ho5 HB5 HS4 HX5
    go_wp2_with fail
    refine (HRP.out _ HB6.out).mono ?_
    rintro e w6 ⟨v6, rfl, hown6, hb6⟩
    obtain ⟨A6, g6, c6, rfl, hg6, ho6⟩ := own_two hown6
    have HO6 := Lib.hid ho6
    have HO5 := Lib.hid (fun h0 => And.intro (HO5.out h0).1 ((HO5.out h0).2.same hb6.size (hb6.block _ (HO5.out h0).2.1)))
    have HB7 := Lib.hid (below_top HB6.out hb6)
    have HS6 := Lib.hid (HS5.out.below hb6 HS5.out.lt)
    have HX7 := Lib.hid (HX6.out.below hb6 HX6.out.lt)
    clear hown6 hb6 ho6 HB6 HS5 HX6 y0 y1 HPL HRP
    go_upto_region 7 with fail
    have HC := Lib.hid (fun (w' : World) (hb : Below w6.heap.size w6 w') => show w'.cell? ⟨W.heap.size, 0, none⟩ = some (.int .i64 k.size) ∧ w'.cell? ⟨W.heap.size, 1, none⟩ = some (.slice k.A k.n k.c) ∧ w'.cell? ⟨W.heap.size, 2, none⟩ = some (.slice k.A' k.n' k.c') ∧ w'.cell? ⟨W.heap.size, 3, none⟩ = some (.int .u32 (k.last : Nat)) ∧ w'.cell? ⟨w3.heap.size, 0, none⟩ = some (.slice k.A k.n k.c) ∧ w'.cell? ⟨w3.heap.size, 1, none⟩ = some (.slice k.A' k.n' k.c') from
      ⟨(HX7.out.below hb HX7.out.lt).cell 0, (HX7.out.below hb HX7.out.lt).cell 1, (HX7.out.below hb HX7.out.lt).cell 2, (HX7.out.below hb HX7.out.lt).cell 3, (HS6.out.below hb HS6.out.lt).cell 0, (HS6.out.below hb HS6.out.lt).cell 1⟩)
    obtain ⟨c0, c1, c2, c3, c4, c5'⟩ := HC.out w6 (Below.refl _ _)
    have HLV6 := Lib.hid (fun (w' : World) (hb : Below w6.heap.size w6 w') => HLV.out w' (below_top HB7.out hb))
    have HRL6 := Lib.hid (fun (w' : World) (hb : Below w6.heap.size w6 w') => HRL.out w' (below_top HB7.out hb))
    have HIS6 := Lib.hid (fun (w' : World) (hb : Below w6.heap.size w6 w') => HIS.out w' (below_top HB7.out hb))
    have HSO := Lib.hid (fun (w7 w8 : World) (hb : Below w7.heap.size w7 w8) (A7 : Option Addr) (c7 : Nat) (A8 : Option Addr) (c8 : Nat) (hn : (liveO k.h l).length ≤ 9223372036854775807) (r7 : Reads w7 w7.heap.size 1 A7 (liveO k.h l).length (u32s (liveO k.h l))) (r8 : Reads w8 w8.heap.size 1 A8 (liveO k.h l).length (u32s (liveO k.h l))) =>
      oops_any A7 A8 (liveO k.h l).length (liveO k.h l).length c7 c8 (liveO k.h l) (liveO k.h l) w8 hn hn ((r7.below hb).more hb.size) r8)
    rw [sameL_self] at HSO
    have hB0 : Below w6.heap.size w6 w6.drew := below_drew (Below.refl _ _)
    clear HLV HRL HIS
    go_region_held3 (fun w' => w'.cell? ⟨W.heap.size, 0, none⟩ = some (.int .i64 k.size) ∧ w'.cell? ⟨W.heap.size, 1, none⟩ = some (.slice k.A k.n k.c) ∧ w'.cell? ⟨W.heap.size, 2, none⟩ = some (.slice k.A' k.n' k.c') ∧ w'.cell? ⟨W.heap.size, 3, none⟩ = some (.int .u32 (k.last : Nat)) ∧ w'.cell? ⟨w3.heap.size, 0, none⟩ = some (.slice k.A k.n k.c) ∧ w'.cell? ⟨w3.heap.size, 1, none⟩ = some (.slice k.A' k.n' k.c'))
      (first | exact ⟨c0, c1, c2, c3, c4, c5'⟩ | exact HC.out _ (by assumption) | go_keep)
      (first
        | (go_at_call 18; refine (HLV6.out _ (by assumption)).mono ?_; rintro e w7 ⟨v7, rfl, ho7, hb7⟩; obtain ⟨A7, c7, rfl, hr7, hn7⟩ := own_readsN ho7; have hB7 := below_top (by assumption) hb7)
        | (go_at_call 19; refine (HRL6.out _ (by assumption)).mono ?_; rintro e w8 ⟨v8, rfl, ho8, hb8⟩; obtain ⟨A8, c8, rfl, hr8, hn8⟩ := own_readsN ho8; have hB8 := below_top (by assumption) hb8)
        | (go_at_call 17; refine (HSO.out _ _ hb8 _ _ _ _ hn7 hr7 hr8).mono ?_; rintro e w9 ⟨rfl, hb9⟩; have hB9 := below_top hB8 hb9)
        | (go_at_call 20; refine (HIS6.out _ (by assumption)).mono ?_; rintro e w10 ⟨rfl, hb10⟩; have hB10 := below_top hB9 hb10))
    have HF := Lib.hid (HB4.out.trans ((below_top HB7.out hB10).mono HB4.out.size))
    have HO5' := Lib.hid (fun h0 => And.intro (HO5.out h0).1 ((HO5.out h0).2.same hB10.size (hB10.block _ (HO5.out h0).2.1)))
    have HO6' := Lib.hid (fun h0 => And.intro (HO6.out h0).1 ((HO6.out h0).2.same hB10.size (hB10.block _ (HO6.out h0).2.1)))
    have hpn : (planM k.h l).length ≤ 9223372036854775807 := by
      have h1 := congrArg List.length (planM_fst k.h l)
      rw [List.length_map] at h1
      omega
    clear hB0 hB7 hB8 hB9 hB10 hb7 hb8 hb9 hb10 ho7 ho8 hr7 hr8 hn7 hn8 c0 c1 c2 c3 c4 c5' HO5 HO6 HLV6 HRL6 HIS6 HSO HC HB7 HS6 HX7 HL4 HG
    generalize planM k.h l = pl at *
    go_wp2_with fail
    go_loopw [8] (fun iv wr => ∃ j : Nat, iv = .int .i64 j ∧ j ≤ pl.length ∧ Below w10.heap.size w10 wr) (fun iv _ => pl.length - (intOf iv).toNat)
    case atStart => exact ⟨0, rfl, Nat.zero_le _, Below.refl _ _⟩
    case round =>
      obtain ⟨j, rfl, hj, hb⟩ := hrel
      have HB := Lib.hid hb
      clear hb
      by_cases hlt : j < pl.length
      · obtain ⟨rfl, hp5⟩ := HO5'.out (by omega)
        obtain ⟨rfl, hp6⟩ := HO6'.out (by omega)
        have hq : pl[j]? = some pl[j] := List.getElem?_eq_getElem hlt
        obtain ⟨d0, d1⟩ := (hp5.same HB.out.size (HB.out.block _ hp5.1)).2 j _ hq
        obtain ⟨e0, e1⟩ := (hp6.same HB.out.size (HB.out.block _ hp6.1)).2 j _ hq
        have HLT := Lib.hid hlt
        clear hp5 hp6 hq
        generalize (pl[j]).1 = x at *
        generalize (pl[j]).2 = y at *
        go_upto_region 12 with fail
        go_quiet (fail)
        have hbq := below_drewN (Below.refl wr.heap.size wr) nq
        have HBq := Lib.hid (below_top HB.out hbq)
        clear hbq d0 d1 e0 e1 HB
        go_wp2_with fail
        go_roundw
        case rel => exact ⟨j + 1, by go_num, HLT.out, HBq.out⟩
        case measure => have := HLT.out; simp [intOf]; omega
      · obtain rfl : j = pl.length := by omega
        clear hlt hj
        go_wp2_with fail
        go_ret
        exact ⟨rfl, HF.out.trans (HB.out.mono HF.out.size)⟩
end
end Go.Proofs.YtblekggklimpeaaDoor

namespace Go.Proofs.YtblekggklimpeaaDoor
open Go.RowKit Go.Sort
attribute [local go_sem] Oper.semAt_some
theorem own_readsV {w : World} {base n c : Nat} {A : Option Addr} {xs : List Nat} {e : TypeId} (h : w.ownsRow base e 1 (.slice A n c) n (u32s xs)) : Reads w w.heap.size 1 A n (u32s xs) ∧ n ≤ 9223372036854775807 := by
  obtain ⟨A', c', hv, hr, hn⟩ := own_readsN h
  injection hv with h1 h2 h3
  subst h1
  exact ⟨hr, hn⟩
theorem colV_ints (h : HM) (l : List Ob) : ∃ x0 x1 x2 x3 x4 : Int, colV h l = .agg #[.int .i64 x0, .int .i64 x1, .int .i64 x2, .int .i64 x3, .int .i64 x4] := ⟨_, _, _, _, _, rfl⟩
theorem cells2K {w : World} {g : Nat} {t : TypeId} {a b : Value} (h : Blk w g t #[a, b]) : w.cell? ⟨g, 0, none⟩ = some a ∧ w.cell? ⟨g, 1, none⟩ = some b := ⟨h.cell 0, h.cell 1⟩
set_option maxRecDepth 100000 in
set_option maxHeartbeats 8000000 in
theorem collectsL_any (W : World) (E : Env W) (k : Cs) (hk : k.At W W.heap.size ∧ k.n ≤ k.c) : Calls Tryd.prog 4 #[k.agg] W (Told (.bool true) W) := by
  obtain ⟨hk, hnc⟩ := hk
  have hb1 := (Below.refl W.heap.size W).alloc (Nat.le_refl _) (.cells k.cells 26)
  have B1 := Blk.new W 26 k.cells
  have HB1 := Lib.hid hb1
  have HBX := Lib.hid B1
  have HE := Lib.hid (E.below hb1)
  have HK := Lib.hid (hk.below hb1)
  have HBU := Lib.hid (built_any _ (E.below hb1) k (hk.below hb1))
  have HAW := Lib.hid (fun (w : World) (E : Env w) => awake_any w E)
  have HST := Lib.hid (fun (w : World) => store_any k w)
  have HNC := Lib.hid hnc
  have hsz := World.size_alloc W (.cells k.cells 26)
  clear hb1 B1 E hk hnc
  unfold Cs.cells at HB1 HBX HE HK HBU hsz
  unfold Cs.agg at HBU HST ⊢
  unfold StV at HST
  go_enter Tryd.func4, Tryd.ntmps4
  obtain ⟨x0, x1, x2, x3⟩ := cells4K HBX.out
  go_wp2_with fail
  clear x0 x1 x2 x3
  generalize W.alloc (.cells #[.int .i64 k.size, .slice k.A k.n k.c, .slice k.A' k.n' k.c', .int .u32 (k.last : Nat)] 26) = W1 at *
  refine HBU.out.mono ?_
  rintro e w1 (⟨hno, ⟨v, rfl⟩, hb⟩ | ⟨hok, p, g, rfl, L, hws, hrs⟩)
  · have HB2 := Lib.hid (below_top HB1.out hb)
    have HE2 := Lib.hid (HE.out.below hb)
    clear hb hno HBU
    go_wp2_with fail
    refine (HAW.out _ HE2.out).mono ?_
    rintro e w2 ⟨rfl, hb2⟩
    have HB3 := Lib.hid (below_top HB2.out hb2)
    clear hb2
    go_wp2_with fail
    go_ret
    exact ⟨rfl, HB3.out⟩
  · have HL := Lib.hid L
    obtain ⟨l, G⟩ := L.good
    have HG := Lib.hid G
    have HEV := Lib.hid L.envw
    have HB2 := Lib.hid (below_top HB1.out L.below)
    have HX2 := Lib.hid (HBX.out.below L.below HBX.out.lt)
    have HK2 := Lib.hid (HK.out.below L.below)
    have HWS := Lib.hid (And.intro hws hrs)
    have HOK := Lib.hid hok
    clear L G hws hrs hok HBU HBX HE HK
    go_wp2_with fail
    refine (HAW.out _ HEV.out).mono ?_
    rintro e w2 ⟨rfl, hb2⟩
    have HL3 := Lib.hid (HL.out.after hb2)
    have HB3 := Lib.hid (below_top HB2.out hb2)
    have HX3 := Lib.hid (HX2.out.below hb2 HX2.out.lt)
    have HK3 := Lib.hid (HK2.out.below hb2)
    obtain ⟨x0, x1, x2, x3⟩ := cells4K HX3.out
    clear hb2 HB2 HX2 HK2 HL HEV
    go_wp2_with fail
    refine (HST.out _).mono ?_
    rintro e w3 ⟨rfl, hb3⟩
    have HB4 := Lib.hid (below_top HB3.out hb3)
    have HL4 := Lib.hid (HL3.out.after hb3)
    have HX4 := Lib.hid (HX3.out.below hb3 HX3.out.lt)
    have h1 := HK3.out.below hb3
    have HRC := Lib.hid (rcol_any (A := k.A) (A' := k.A') (n := k.n) (n' := k.n') (c := k.c) (c' := k.c') HG.out (by rw [HWS.out.1]; exact h1.hr) (by rw [HWS.out.2]; exact h1.hr') HNC.out)
    unfold StV at HRC
    have hsz1 : k.size = ((colH k.h l).size : Int) := by
      have := HOK.out.1
      show k.size = ((k.size.toNat : Nat) : Int)
      omega
    have HSZ1 := Lib.hid hsz1
    clear hb3 h1 HB3 HX3 HK3 HL3 x0 x1 x2 x3 HAW HST hsz1
    go_wp2_with fail
    refine HRC.out.mono ?_
    rintro e w4 ⟨vw, vr, rfl, how, hor, hb4⟩
    obtain ⟨Aw, cw, hvw⟩ := own_val how
    obtain ⟨Ar, cr, hvr⟩ := own_val hor
    subst hvw hvr
    obtain ⟨x0, x1, x2, x3, x4, hcv⟩ := colV_ints k.h l
    rw [hcv]
    have HCV := Lib.hid hcv
    have HOW := Lib.hid how
    have HOR := Lib.hid hor
    have HB44 := Lib.hid hb4
    clear how hor hb4 HRC hcv
    go_upto_region 5 with fail
    have hb5 := ((Below.refl w4.heap.size w4).alloc (Nat.le_refl _) (.cells #[.slice Aw (colH k.h l).words.length cw, .slice Ar (colH k.h l).roots.length cr] 32)).alloc (by simp) (.cells #[.int .i64 x0, .int .i64 x1, .int .i64 x2, .int .i64 x3, .int .i64 x4] 46)
    have S5 := (Blk.new w4 32 #[.slice Aw (colH k.h l).words.length cw, .slice Ar (colH k.h l).roots.length cr]).alloc (.cells #[.int .i64 x0, .int .i64 x1, .int .i64 x2, .int .i64 x3, .int .i64 x4] 46)
    have C5 := Blk.new (w4.alloc (.cells #[.slice Aw (colH k.h l).words.length cw, .slice Ar (colH k.h l).roots.length cr] 32)) 46 #[.int .i64 x0, .int .i64 x1, .int .i64 x2, .int .i64 x3, .int .i64 x4]
    rw [World.size_alloc] at C5
    have HS5 := Lib.hid S5
    have HC5 := Lib.hid C5
    have HB35 := Lib.hid (below_top HB44.out hb5)
    have HOW5 := Lib.hid (own_below HOW.out hb5)
    have HOR5 := Lib.hid (own_below HOR.out hb5)
    have HX5 := Lib.hid (HX4.out.below HB35.out HX4.out.lt)
    have HL5 := Lib.hid (HL4.out.after HB35.out)
    have hbs : w3.heap.size ≤ w4.heap.size := HB44.out.size
    have HPW := Lib.hid (show ∀ j, p.has j → W.heap.size < j ∧ j < w3.heap.size from fun j hj => ⟨by have := HL4.out.new j hj; omega, HL4.out.at_.lt hj⟩)
    clear hb5 S5 C5 HOW HOR HX4 HB44
    generalize ((w4.alloc (.cells #[.slice Aw (colH k.h l).words.length cw, .slice Ar (colH k.h l).roots.length cr] 32)).alloc (.cells #[.int .i64 x0, .int .i64 x1, .int .i64 x2, .int .i64 x3, .int .i64 x4] 46)) = w5 at *
    generalize hb5e : w4.heap.size = b5 at *
    have HC := Lib.hid (show ∀ w' : World, (∀ j, j = W.heap.size ∨ j = b5 ∨ j = b5 + 1 → w'.heap[j]? = w5.heap[j]?) → w'.cell? ⟨W.heap.size, 0, none⟩ = some (.int .i64 k.size) ∧ w'.cell? ⟨W.heap.size, 1, none⟩ = some (.slice k.A k.n k.c) ∧ w'.cell? ⟨W.heap.size, 2, none⟩ = some (.slice k.A' k.n' k.c') ∧ w'.cell? ⟨W.heap.size, 3, none⟩ = some (.int .u32 (k.last : Nat)) ∧ w'.cell? ⟨b5, 0, none⟩ = some (.slice Aw (colH k.h l).words.length cw) ∧ w'.cell? ⟨b5, 1, none⟩ = some (.slice Ar (colH k.h l).roots.length cr) ∧ w'.cell? ⟨b5 + 1, 0, none⟩ = some (.int .i64 x0) ∧ w'.cell? ⟨b5 + 1, 1, none⟩ = some (.int .i64 x1) ∧ w'.cell? ⟨b5 + 1, 2, none⟩ = some (.int .i64 x2) ∧ w'.cell? ⟨b5 + 1, 3, none⟩ = some (.int .i64 x3) ∧ w'.cell? ⟨b5 + 1, 4, none⟩ = some (.int .i64 x4) from fun w' hs => by
      have h1 := HX5.out.same (hs _ (.inl rfl))
      have h2 := HS5.out.same (hs _ (.inr (.inl rfl)))
      have h3 := HC5.out.same (hs _ (.inr (.inr rfl)))
      exact ⟨h1.cell 0, h1.cell 1, h1.cell 2, h1.cell 3, h2.cell 0, h2.cell 1, h3.cell 0, h3.cell 1, h3.cell 2, h3.cell 3, h3.cell 4⟩)
    have hS0 := HC.out w5 (fun _ _ => rfl)
    have hSd := HC.out w5.drew (fun _ _ => rfl)
    have HCO := Lib.hid (show Calls Tryd.prog 22 #[.pointer (some ⟨g, 0, none⟩)] w5.drew (Done W1 p g (colH k.h l) (.agg #[.int .i64 x0, .int .i64 x1, .int .i64 x2, .int .i64 x3, .int .i64 x4]) w5.drew) from by
      have := (HL5.out.after (below_drew (Below.refl _ _))).collect HG.out
      rw [HCV.out] at this
      exact this)
    have HIS := Lib.hid (fun (w6 : World) (p' : HP) (L6 : Live W1 w6 p' g (colH k.h l)) (st : Step p p' w5.drew w6) => by
      have ho : w6.ownsRow w3.heap.size 24 1 (.slice Aw (colH k.h l).words.length cw) (colH k.h l).words.length (u32s (colH k.h l).words) := own_keep HOW5.out (fun q hq => st.block q (HOW5.out.lt q hq).2 (fun e => by have h1 := HPW.out q e; have h2 := (HOW5.out.lt q hq).1; omega))
      have hr : w6.ownsRow w3.heap.size 41 1 (.slice Ar (colH k.h l).roots.length cr) (colH k.h l).roots.length (u32s (colH k.h l).roots) := own_keep HOR5.out (fun q hq => st.block q (HOR5.out.lt q hq).2 (fun e => by have h1 := HPW.out q e; have h2 := (HOR5.out.lt q hq).1; omega))
      have hw := own_readsV ho
      have hr' := own_readsV hr
      exact is_yes L6 k HSZ1.out rfl Aw (colH k.h l).words.length cw hw.2 hw.1 Ar (colH k.h l).roots.length cr hr'.2 hr'.1)
    have hjl : ∀ j, j = W.heap.size ∨ j = b5 ∨ j = b5 + 1 → j < w5.drew.heap.size := fun j hj => by
      rcases hj with rfl | rfl | rfl
      · exact HX5.out.lt
      · exact HS5.out.lt
      · exact HC5.out.lt
    have HSA := Lib.hid (fun (w6 : World) (p' : HP) (st : Step p p' w5.drew w6) (w7 : World) (hb : Below w6.heap.size w6 w7) => HC.out w7 (fun j hj => (hb.block j (Nat.lt_of_lt_of_le (hjl j hj) st.size)).trans <| st.block j (hjl j hj) (fun e => by have := HPW.out j e; omega)))
    unfold StV Cs.agg at HIS
    clear HC hjl
    go_region_held3 (fun w' => w'.cell? ⟨W.heap.size, 0, none⟩ = some (.int .i64 k.size) ∧ w'.cell? ⟨W.heap.size, 1, none⟩ = some (.slice k.A k.n k.c) ∧ w'.cell? ⟨W.heap.size, 2, none⟩ = some (.slice k.A' k.n' k.c') ∧ w'.cell? ⟨W.heap.size, 3, none⟩ = some (.int .u32 (k.last : Nat)) ∧ w'.cell? ⟨b5, 0, none⟩ = some (.slice Aw (colH k.h l).words.length cw) ∧ w'.cell? ⟨b5, 1, none⟩ = some (.slice Ar (colH k.h l).roots.length cr) ∧ w'.cell? ⟨b5 + 1, 0, none⟩ = some (.int .i64 x0) ∧ w'.cell? ⟨b5 + 1, 1, none⟩ = some (.int .i64 x1) ∧ w'.cell? ⟨b5 + 1, 2, none⟩ = some (.int .i64 x2) ∧ w'.cell? ⟨b5 + 1, 3, none⟩ = some (.int .i64 x3) ∧ w'.cell? ⟨b5 + 1, 4, none⟩ = some (.int .i64 x4))
      (first | exact hS0 | exact hSd | exact hS6 | exact hS7 | go_keep)
      (first
        | (go_at_call 22; refine HCO.out.mono ?_; rintro e w6 ⟨p', rfl, hL6, hst6⟩; have hS6 := HSA.out w6 p' hst6 w6 (Below.refl _ _))
        | (go_at_call 20; refine (HIS.out w6 p' hL6 hst6).mono ?_; rintro e w7 ⟨rfl, hb7⟩; have hS7 := HSA.out w6 p' hst6 w7 hb7))
    have HF := Lib.hid (HB1.out.trans ((hL6.below.trans (hb7.mono hL6.below.size)).mono (show W.heap.size ≤ W1.heap.size by omega)))
    clear hS0 hSd hS6 hS7
    go_wp2_with fail
    go_ret
    exact ⟨rfl, HF.out⟩
end Go.Proofs.YtblekggklimpeaaDoor

namespace Go.Proofs.YtblekggklimpeaaDoor
open Go.RowKit Go.Sort
attribute [local go_sem] Oper.semAt_some
/-- Where an oop goes: a row of pairs gone through, or something else. -/
def toK (pl : List (Nat × Nat)) (void x : Nat) : Nat := if x ∈ pl.map (·.1) then goesM pl x else void
theorem goesM_skip {pl : List (Nat × Nat)} {k : Nat} (hk : k < pl.length) {x : Nat} (hn : x ∉ (pl.take k).map (·.1)) (he : (pl[k]).1 = x) : goesM pl x = (pl[k]).2 := by
  have e : pl = pl.take k ++ pl[k] :: pl.drop (k + 1) := by
    conv => lhs; rw [← List.take_append_drop k pl, List.drop_eq_getElem_cons hk]
  unfold goesM
  have h0 : (pl.take k).find? (fun p => p.1 == x) = none := by
    rw [List.find?_eq_none]
    intro p hp hpe
    exact hn (List.mem_map.2 ⟨p, hp, by simpa using hpe⟩)
  conv => lhs; rw [e]
  rw [List.find?_append, h0, Option.none_or, List.find?_cons, he]
  simp
set_option maxRecDepth 100000 in
set_option maxHeartbeats 4000000 in
theorem weak1_any {w : World} {b7 b8 gp cp void : Nat} {Ap : Option Addr} {pl : List (Nat × Nat)} (HP : Blk w b7 34 #[.slice Ap pl.length cp]) (HV : Blk w b8 41 #[.int .u32 (void : Int)]) (ho : 0 < pl.length → Ap = some ⟨gp, 0, none⟩ ∧ PlA w gp pl) (hn : pl.length ≤ 9223372036854775807) (x : Nat) (hx : x < 4294967296) :
    Calls Tryd.prog 24 #[.int .u32 (x : Int), .pointer (some ⟨b7, 0, none⟩), .pointer (some ⟨b8, 0, none⟩)] w (Told (.int .u32 (toK pl void x : Nat)) w) := by
  have x0 := HP.cell 0
  have HVV := Lib.hid HV
  have HO := Lib.hid ho
  clear HP HV ho
  go_enter Tryd.func24, Tryd.ntmps24
  go_wp2_with fail
  clear x0
  go_loopw [9] (fun iv wr => ∃ j : Nat, iv = .int .i64 j ∧ j ≤ pl.length ∧ x ∉ (pl.take j).map (·.1) ∧ Below w.heap.size w wr) (fun iv _ => pl.length - (intOf iv).toNat)
  case atStart => exact ⟨0, rfl, Nat.zero_le _, by simp, Below.refl _ _⟩
  case round =>
    obtain ⟨j, rfl, hj, hnm, hb⟩ := hrel
    have HB := Lib.hid hb
    have HNM := Lib.hid hnm
    clear hb hnm
    by_cases hlt : j < pl.length
    · obtain ⟨rfl, hp5⟩ := HO.out (by omega)
      have hq : pl[j]? = some pl[j] := List.getElem?_eq_getElem hlt
      obtain ⟨d0, d1⟩ := (hp5.same HB.out.size (HB.out.block _ hp5.1)).2 j _ hq
      have HLT := Lib.hid hlt
      have HGO := Lib.hid (fun he => goesM_skip hlt HNM.out (x := x) he)
      have HTK := Lib.hid (show (pl.take (j + 1)).map (·.1) = (pl.take j).map (·.1) ++ [(pl[j]).1] by rw [List.take_add_one, hq, List.map_append]; rfl)
      have HMEM := Lib.hid (show (pl[j]).1 ∈ pl.map (·.1) from List.mem_map.2 ⟨_, List.getElem_mem hlt, rfl⟩)
      clear hp5 hq
      generalize (pl[j]).1 = y at *
      generalize (pl[j]).2 = z at *
      go_upto_region 4 with fail
      have hba := HB.out.alloc HB.out.size (.cells #[.int .u32 (y : Int), .int .u32 (z : Int)] 43)
      have HBa := Lib.hid hba
      have y0 := (Blk.new wr 43 #[.int .u32 (y : Int), .int .u32 (z : Int)]).cell 0
      have y1 := (Blk.new wr 43 #[.int .u32 (y : Int), .int .u32 (z : Int)]).cell 1
      clear hba d0 d1 HB
      generalize wr.alloc (.cells #[.int .u32 (y : Int), .int .u32 (z : Int)] 43) = w13 at *
      by_cases hyx : y = x
      · have hne : ((y : Int) == (x : Int)) = true := by simp; omega
        have HE := Lib.hid (show toK pl void x = z by unfold toK; rw [← hyx, if_pos HMEM.out, hyx, HGO.out hyx])
        clear hyx
        go_wp2_with fail
        go_ret
        exact ⟨by rw [HE.out]; rfl, HBa.out⟩
      · have hne : ((y : Int) == (x : Int)) = false := by simp; omega
        have HNX := Lib.hid (show x ∉ (pl.take (j + 1)).map (·.1) by
          rw [HTK.out, List.mem_append, List.mem_singleton]
          rintro (h | h)
          · exact HNM.out h
          · exact hyx h.symm)
        clear hyx
        go_wp2_with fail
        go_roundw
        case rel => exact ⟨j + 1, by go_num, HLT.out, HNX.out, HBa.out⟩
        case measure => have := HLT.out; simp [intOf]; omega
    · obtain rfl : j = pl.length := by omega
      have HE := Lib.hid (show toK pl void x = void by
        unfold toK
        have := HNM.out
        rw [List.take_length] at this
        rw [if_neg this])
      have v0 := (HVV.out.below HB.out HVV.out.lt).cell 0
      clear hlt hj
      go_wp2_with fail
      go_ret
      exact ⟨by rw [HE.out]; rfl, HB.out⟩
end Go.Proofs.YtblekggklimpeaaDoor

namespace Go.Proofs.YtblekggklimpeaaDoor
open Go.RowKit
section
variable {h : HM} {l : List Ob}
theorem colL_get {k : Nat} (hk : k < (keepZ h l).length) : (colL h l)[k]'(by rw [colL_len]; exact hk) = relob (planM h l) (voidM h l) ((keepZ h l)[k]).2 := by
  unfold colL
  rw [List.getElem_map]
theorem held_new (G : h.Good l) {k : Nat} (hk : k < (colL h l).length) : heldM (colH h l) (2 * posOf ((colL h l).take k)) = ((colL h l)[k]).x.cls :: (if ((colL h l)[k]).x.fmt = 1 then ((colL h l)[k]).fs else []) := by
  have L := col_laid G
  rw [split_at (colL h l) k hk] at L
  unfold heldM
  rw [half_pos]
  have e1 := L.hd_at
  have e2 := L.fields_at
  rw [e1, e2]
theorem live_kz {o : Nat} (ho : o ∈ liveO h l) : ∃ k, ∃ hk : k < (keepZ h l).length, ((keepZ h l)[k]).1 = o ∧ goesM (planM h l) o = 2 * posOf ((colL h l).take k) := by
  rw [← keepZ_fst] at ho
  obtain ⟨p, hp, rfl⟩ := List.mem_map.1 ho
  obtain ⟨k, hk, rfl⟩ := List.getElem_of_mem hp
  exact ⟨k, hk, rfl, goesM_at (by rw [planM_fst, ← keepZ_fst]; exact keepZ_nodup h l) (plan_get h l hk)⟩
theorem again_met (G : h.Good l) : ∀ o ∈ metO (walkM (heldM h) h.roots), o ∈ liveO h l ∧ goesM (planM h l) o ∈ metO (walkM (heldM (colH h l)) (colH h l).roots) := by
  have G' := col_good G
  refine walkM_all (P := fun o => o ∈ liveO h l ∧ goesM (planM h l) o ∈ metO (walkM (heldM (colH h l)) (colH h l).roots)) (fun x hx hk => ?_) (fun o ho x hx hk => ?_)
  · have hl := live_of_root G hx hk
    refine ⟨hl, walk_root ?_ (isB_kind (col_isB G hl))⟩
    show goesM (planM h l) x ∈ colR h l
    unfold colR
    refine List.mem_map.2 ⟨x, hx, ?_⟩
    unfold whereM
    rw [if_pos hk]
  · obtain ⟨k, hkz, he, hg⟩ := live_kz ho.1
    have hp := List.getElem_mem hkz
    rw [← he] at hx
    have hxl := live_of_held G hp hx hk
    have hkl : k < (colL h l).length := by rw [colL_len]; exact hkz
    have hw : whereM (planM h l) x = goesM (planM h l) x := by unfold whereM; rw [if_pos hk]
    have hfl : fldM (planM h l) (voidM h l) x = goesM (planM h l) x := by
      rw [← hw]
      refine fld_live ?_
      unfold deadB
      exact decide_eq_false (fun hd => hd.2 (by rw [planM_fst]; exact hxl))
    refine ⟨hxl, walk_shut G' G'.sound.roots ho.2 ?_ (isB_kind (col_isB G hxl))⟩
    rw [hg, held_new G hkl, colL_get hkz]
    rw [keepZ_held G hp] at hx
    generalize ((keepZ h l)[k]).2 = b at *
    rcases List.mem_cons.1 hx with rfl | hx
    · refine List.mem_cons.2 (.inl ?_)
      exact hw.symm
    · refine List.mem_cons.2 (.inr ?_)
      by_cases h1 : b.x.fmt = 1
      · rw [if_pos h1] at hx
        have hp1 : b.x.ptrB = true := by unfold Hd.ptrB; simp [h1]
        unfold relob
        simp only [hp1, if_true, h1]
        exact List.mem_map.2 ⟨x, hx, hfl⟩
      · rw [if_neg h1] at hx
        cases hx
theorem live_again (G : h.Good l) : liveO (colH h l) (colL h l) = oopsL (colL h l) := by
  unfold liveO
  rw [List.filter_eq_self]
  intro o ho
  unfold oopsL at ho
  obtain ⟨k, hk, rfl⟩ := List.mem_map.1 ho
  have hk := List.mem_range.1 hk
  have hkz : k < (keepZ h l).length := by rw [← colL_len]; exact hk
  have hl : ((keepZ h l)[k]).1 ∈ liveO h l := by rw [← keepZ_fst]; exact List.mem_map.2 ⟨_, List.getElem_mem hkz, rfl⟩
  have hg := goesM_at (by rw [planM_fst, ← keepZ_fst]; exact keepZ_nodup h l) (plan_get h l hkz)
  have := (again_met G _ ((mem_liveO G).1 hl)).2
  rw [hg] at this
  simpa using this
/-- A heap in which all is live. -/
theorem kz_all (ha : liveO h l = oopsL l) : keepZ h l = (oopsL l).zip l := by
  unfold keepZ
  rw [List.filter_eq_self]
  rintro ⟨o, b⟩ hp
  have h1 : o ∈ oopsL l := (List.of_mem_zip hp).1
  rw [← ha] at h1
  unfold liveO at h1
  exact (List.mem_filter.1 h1).2
theorem kz_snd (ha : liveO h l = oopsL l) : (keepZ h l).map (·.2) = l := by
  rw [kz_all ha]
  exact List.map_snd_zip (by rw [oopsL_len]; exact Nat.le_refl _)
theorem plan_same (ha : liveO h l = oopsL l) : ∀ p ∈ planM h l, p.1 = p.2 := by
  intro p hp
  obtain ⟨k, hk, rfl⟩ := List.getElem_of_mem hp
  have hkz : k < (keepZ h l).length := by have := planF_len 1 (keepZ h l); unfold planM at hk; omega
  have hg := plan_get h l hkz
  rw [List.getElem?_eq_getElem hk] at hg
  injection hg with hg
  rw [hg]
  dsimp only
  have hkl : k < l.length := by have := congrArg List.length (kz_snd ha); rw [List.length_map] at this; omega
  have h1 : ((keepZ h l)[k]).1 = 2 * posOf (l.take k) := by
    have h2 := keepZ_fst h l
    rw [ha] at h2
    have h3 := oopsL_get hkl
    rw [← h2, List.getElem?_map, List.getElem?_eq_getElem hkz] at h3
    injection h3
  rw [h1]
  congr 1
  unfold posOf
  rw [colL_eq, kz_snd ha, ← List.map_take, wsOf_same (relob_len _ _)]
theorem goes_same (ha : liveO h l = oopsL l) {x : Nat} (hx : x ∈ oopsL l) : goesM (planM h l) x = x := by
  rw [← ha] at hx
  obtain ⟨k, hk, he, _⟩ := live_kz hx
  have hg := plan_get h l hk
  have h1 := plan_same ha _ (List.mem_of_getElem? hg)
  have h2 := goesM_at (by rw [planM_fst, ← keepZ_fst]; exact keepZ_nodup h l) hg
  dsimp only at h1 h2
  rw [he] at h1 h2
  rw [h2, ← h1]
theorem where_same (G : h.Good l) (ha : liveO h l = oopsL l) {x : Nat} (hx : kindM x = 2 → h.isB x = true) : whereM (planM h l) x = x := by
  unfold whereM
  split
  · rename_i hk
    exact goes_same ha (isB_mem G (hx hk))
  · rfl
theorem dead_none (G : h.Good l) (ha : liveO h l = oopsL l) {x : Nat} (hx : kindM x = 2 → h.isB x = true) : deadB (planM h l) x = false := by
  unfold deadB
  refine decide_eq_false (fun hd => hd.2 ?_)
  rw [planM_fst, ha]
  exact isB_mem G (hx hd.1)
theorem valB_B {x : Nat} (hv : h.valB x = true) : kindM x = 2 → h.isB x = true := by
  intro hk
  unfold HM.valB objB at hv
  simpa [hk] using hv
theorem clsB_B {x : Nat} (hv : h.clsB x = true) : kindM x = 2 → h.isB x = true := by
  intro hk
  unfold HM.clsB at hv
  rw [Bool.or_eq_true] at hv
  rcases hv with hv | hv
  · have : x = 0 := by simpa using hv
    subst this
    simp [kindM] at hk
  · exact hv
theorem relob_same (G : h.Good l) (ha : liveO h l = oopsL l) {b : Ob} (hb : b ∈ l) : relob (planM h l) (voidM h l) b = b := by
  unfold relob
  have h1 := where_same G ha (clsB_B (G.sound.cls b hb))
  by_cases hp : b.x.ptrB = true
  · rw [if_pos hp, h1]
    have h2 : b.fs.map (fldM (planM h l) (voidM h l)) = b.fs := by
      conv => rhs; rw [← List.map_id b.fs]
      apply List.map_congr_left
      intro x hx
      have hv := valB_B (G.sound.flds b hb hp x hx)
      rw [fld_live (dead_none G ha hv), where_same G ha hv]
      rfl
    rw [h2]
  · rw [if_neg hp, h1]
theorem colL_same (G : h.Good l) (ha : liveO h l = oopsL l) : colL h l = l := by
  rw [colL_eq, kz_snd ha]
  conv => rhs; rw [← List.map_id l]
  apply List.map_congr_left
  intro b hb
  exact relob_same G ha hb
theorem colR_same (G : h.Good l) (ha : liveO h l = oopsL l) : colR h l = h.roots := by
  unfold colR
  conv => rhs; rw [← List.map_id h.roots]
  apply List.map_congr_left
  intro x hx
  exact where_same G ha (valB_B (G.sound.roots x hx))
theorem colH_again (G : h.Good l) : colH (colH h l) (colL h l) = colH h l := by
  have G' := col_good G
  have ha := live_again G
  unfold colH
  rw [show colL (HM.ofWords h.size (0 :: wsOf (colL h l)) (colR h l) h.last) (colL h l) = colL h l from colL_same G' ha, show colR (HM.ofWords h.size (0 :: wsOf (colL h l)) (colR h l) h.last) (colL h l) = colR h l from colR_same G' ha]
  rfl
theorem colV_again (G : h.Good l) : colV (colH h l) (colL h l) = .agg #[.int .i64 ((liveO h l).length : Nat), .int .i64 0, .int .i64 0, .int .i64 0, .int .i64 0] := by
  have G' := col_good G
  have ha := live_again G
  have hm : movedN (colH h l) (colL h l) = 0 := by
    unfold movedN
    rw [List.length_eq_zero_iff, List.filter_eq_nil_iff]
    intro p hp
    have := plan_same ha p hp
    simpa using this
  have hc : clearedN (colH h l) (colL h l) = 0 := by
    unfold clearedN
    have : ∀ z : List (Nat × Ob), (∀ p ∈ z, p.2 ∈ colL h l) → (z.map (fun p => clearedB (planM (colH h l) (colL h l)) p.2)).sum = 0 := by
      intro z
      induction z with
      | nil => intro _; rfl
      | cons p z ih =>
        intro hz
        rw [List.map_cons, List.sum_cons, ih (fun q hq => hz q (List.mem_cons_of_mem _ hq)), Nat.add_zero]
        unfold clearedB
        split
        · rename_i hpb
          rw [List.length_eq_zero_iff, List.filter_eq_nil_iff]
          intro x hx
          rw [dead_none G' ha (valB_B (G'.sound.flds p.2 (hz p (List.mem_cons_self ..)) hpb x hx))]
          decide
        · rfl
    refine this _ (fun p hp => ?_)
    obtain ⟨j, hj, _, h2, _⟩ := keepZ_mem hp
    rw [h2]
    exact List.getElem_mem hj
  have hl1 : (liveO (colH h l) (colL h l)).length = (liveO h l).length := by
    rw [ha, oopsL_len, colL_len, keepZ_len]
  have hl2 : (colL h l).length = (liveO h l).length := by rw [colL_len, keepZ_len]
  have hw : (colH h l).words.length - (1 + (wsOf (colL (colH h l) (colL h l))).length) = 0 := by
    rw [colL_same G' ha]
    show (0 :: wsOf (colL h l)).length - _ = 0
    rw [List.length_cons]
    omega
  unfold colV
  rw [hm, hc, hl1, hl2, hw, Nat.sub_self]
  rfl
end
end Go.Proofs.YtblekggklimpeaaDoor

namespace Go.Proofs.YtblekggklimpeaaDoor
open Go.RowKit Go.Sort
attribute [local go_sem] Oper.semAt_some
/-- A heap beside another one that is worked on. -/
theorem Live.beside {W w w' : World} {p q q' : HP} {g : Nat} {h : HM} (L : Live W w p g h) (s : Step q q' w w') (hd : ∀ j, p.has j → ¬ q.has j) (hq : ∀ j, q.has j → W.heap.size ≤ j) : Live W w' p g h :=
  ⟨L.at_.same (fun j hj => s.block j (L.at_.lt hj) (hd j hj)), L.hg, L.good, L.env, L.new, L.below.trans ⟨s.os, s.tape, s.output, s.size, fun j hj => s.block j (by have := L.below.size; omega) (fun e => by have := hq j e; omega)⟩⟩
set_option maxRecDepth 100000 in
set_option maxHeartbeats 8000000 in
theorem againL_any (W : World) (E : Env W) (k : Cs) (hk : k.At W W.heap.size) : Calls Tryd.prog 7 #[k.agg] W (Told (.bool true) W) := by
  have hb1 := (Below.refl W.heap.size W).alloc (Nat.le_refl _) (.cells k.cells 26)
  have B1 := Blk.new W 26 k.cells
  have HB1 := Lib.hid hb1
  have HBX := Lib.hid B1
  have HE := Lib.hid (E.below hb1)
  have HK := Lib.hid (hk.below hb1)
  have HBU := Lib.hid (built_any _ (E.below hb1) k (hk.below hb1))
  have HAW := Lib.hid (fun (w : World) (E : Env w) => awake_any w E)
  have hsz := World.size_alloc W (.cells k.cells 26)
  clear hb1 B1 E hk
  unfold Cs.cells at HB1 HBX HE HK HBU hsz
  unfold Cs.agg at HBU ⊢
  go_enter Tryd.func7, Tryd.ntmps7
  obtain ⟨x0, x1, x2, x3⟩ := cells4K HBX.out
  go_wp2_with fail
  clear x0 x1 x2 x3
  generalize W.alloc (.cells #[.int .i64 k.size, .slice k.A k.n k.c, .slice k.A' k.n' k.c', .int .u32 (k.last : Nat)] 26) = W1 at *
  refine HBU.out.mono ?_
  rintro e w1 (⟨hno, ⟨v, rfl⟩, hb⟩ | ⟨hok, p, g, rfl, L, hws, hrs⟩)
  · have HB2 := Lib.hid (below_top HB1.out hb)
    have HE2 := Lib.hid (HE.out.below hb)
    clear hb hno HBU
    go_wp2_with fail
    refine (HAW.out _ HE2.out).mono ?_
    rintro e w2 ⟨rfl, hb2⟩
    have HB3 := Lib.hid (below_top HB2.out hb2)
    clear hb2
    go_wp2_with fail
    go_ret
    exact ⟨rfl, HB3.out⟩
  · have HL := Lib.hid L
    obtain ⟨l, G⟩ := L.good
    have HG := Lib.hid G
    have HEV := Lib.hid L.envw
    have HB2 := Lib.hid (below_top HB1.out L.below)
    have HX2 := Lib.hid (HBX.out.below L.below HBX.out.lt)
    have HK2 := Lib.hid (HK.out.below L.below)
    have HWS := Lib.hid (And.intro hws hrs)
    have HOK := Lib.hid hok
    clear L G hws hrs hok HBU HBX HE HK
    go_wp2_with fail
    refine (HAW.out _ HEV.out).mono ?_
    rintro e w2 ⟨rfl, hb2⟩
    have HL3 := Lib.hid (HL.out.after hb2)
    have HB3 := Lib.hid (below_top HB2.out hb2)
    have HX3 := Lib.hid (HX2.out.below hb2 HX2.out.lt)
    obtain ⟨n, hn⟩ := Int.eq_ofNat_of_zero_le (show 0 ≤ k.size by have := HOK.out.1; omega)
    have hn1 : 64 ≤ n := by have := HOK.out.1; omega
    have hn2 : n ≤ 1048576 := by have := HOK.out.2.1; omega
    have HCO := Lib.hid (HL3.out.collect HG.out)
    have HSZ := Lib.hid (show (HM.new n).size = (colH k.h l).size from by
      show n = k.size.toNat
      omega)
    clear hb2 HB2 HX2 HK2 HL HEV HOK HWS
    go_wp2_with fail
    refine HCO.out.mono ?_
    rintro e w3 ⟨p3, rfl, hL3, hst3⟩
    have HX3' := Lib.hid (HX3.out.same (hst3.block _ HX3.out.lt (fun e => by have := HL3.out.new _ e; omega)))
    have HL4 := Lib.hid hL3
    have HP3 := Lib.hid (show ∀ j, p3.has j → W1.heap.size ≤ j ∧ j < w3.heap.size from fun j hj => ⟨hL3.new j hj, hL3.at_.lt hj⟩)
    obtain ⟨x0, x1, x2, x3, x4, hcv⟩ := colV_ints k.h l
    have hx0 : x0 = ((liveO k.h l).length : Nat) := by
      have h1 : colV k.h l = .agg #[.int .i64 ((liveO k.h l).length : Nat), .int .i64 x1, .int .i64 x2, .int .i64 x3, .int .i64 x4] := by
        have h2 := hcv
        unfold colV at h2 ⊢
        injection h2 with h2
        have h3 := congrArg (fun a : Array Value => a.toList) h2
        simp only [List.cons.injEq, Value.int.injEq, true_and, and_true] at h3
        obtain ⟨_, h4, h5, h6, h7⟩ := h3
        rw [h4, h5, h6, h7]
      rw [hcv] at h1
      injection h1 with h1
      have h3 := congrArg (fun a : Array Value => a.toList) h1
      simp only [List.cons.injEq, Value.int.injEq, true_and, and_true] at h3
      exact h3
    rw [hcv]
    have HX0 := Lib.hid hx0
    clear hL3 hst3 HL3 HX3 HCO hx0 hcv
    go_upto_region 5 with fail
    rw [hn] at HX3'
    have hb5 := (Below.refl w3.heap.size w3).alloc (Nat.le_refl _) (.cells #[.int .i64 x0, .int .i64 x1, .int .i64 x2, .int .i64 x3, .int .i64 x4] 46)
    have HY5 := Lib.hid (Blk.new w3 46 #[.int .i64 x0, .int .i64 x1, .int .i64 x2, .int .i64 x3, .int .i64 x4])
    have HX5 := Lib.hid (HX3'.out.below hb5 HX3'.out.lt)
    have HL5 := Lib.hid (HL4.out.after hb5)
    clear hn hb5 HL4 HX3'
    generalize w3.alloc (.cells #[.int .i64 x0, .int .i64 x1, .int .i64 x2, .int .i64 x3, .int .i64 x4] 46) = w5 at *
    generalize w3.heap.size = b5 at *
    have HG1 := Lib.hid (col_good HG.out)
    have HA1 := Lib.hid (live_again HG.out)
    have HH1 := Lib.hid (colH_again HG.out)
    have HV1 := Lib.hid (colV_again HG.out)
    rw [← HX0.out] at HV1
    have HU1 := Lib.hid (u32s_len (colH k.h l).words)
    have HU2 := Lib.hid (u32s_len (colH k.h l).roots)
    generalize colH k.h l = h1 at *
    generalize colL k.h l = l1 at *
    clear HX0
    go_wp2_with fail
    refine HL5.out.words.mono ?_
    rintro e w6 ⟨g6, c6, rfl, hr6, -, hb6⟩
    rw [HU1.out]
    have HR6 := Lib.hid hr6
    have HX6 := Lib.hid (HX5.out.below hb6 HX5.out.lt)
    have HY6 := Lib.hid (HY5.out.below hb6 HY5.out.lt)
    have HL6 := Lib.hid (HL5.out.after hb6)
    clear hr6 hb6 HX5 HY5 HL5
    go_wp2_with fail
    refine HL6.out.roots.mono ?_
    rintro e w7 ⟨g7, c7, rfl, hr7, -, hb7⟩
    rw [HU2.out]
    have HR7 := Lib.hid (And.intro (HR6.out.below hb7) hr7)
    have HX7 := Lib.hid (HX6.out.below hb7 HX6.out.lt)
    have HY7 := Lib.hid (HY6.out.below hb7 HY6.out.lt)
    have HL7 := Lib.hid (HL6.out.after hb7)
    have y0 := HX7.out.cell 0
    clear hr7 hb7 HX6 HY6 HL6 HR6
    go_wp2_with fail
    refine (new_any n hn1 hn2 _).mono ?_
    rintro e w8 hN
    obtain ⟨q, gq, rfl, Lq⟩ := Live.of_new (v := fun g => .tuple #[ptr g, .int .i64 0]) HL7.out.envw hn1 hn2 hN
    have hb8 := Lq.below
    have HR8 := Lib.hid (And.intro (HR7.out.1.below hb8) (HR7.out.2.below hb8))
    have HX8 := Lib.hid (HX7.out.below hb8 HX7.out.lt)
    have HY8 := Lib.hid (HY7.out.below hb8 HY7.out.lt)
    have HL8 := Lib.hid (HL7.out.after hb8)
    have HLA := Lib.hid (HL8.out.last)
    have f1 := HG1.out.fit.room
    have f2 := HG1.out.fit.hi
    have f3 := HG1.out.fit.roots
    have hld := HG1.out.load_self HSZ.out
    have HLD := Lib.hid (Lq.load (some ⟨g6, 0, none⟩) h1.words.length c6 h1.words (by omega) (by have := HR8.out.1.reads HR8.out.1.lt; rw [u32s_len] at this; exact this) HG1.out.fit.w32 (some ⟨g7, 0, none⟩) h1.roots.length c7 h1.roots (by omega) (by have := HR8.out.2.reads HR8.out.2.lt; rw [u32s_len] at this; exact this) HG1.out.fit.r32 h1.last HG1.out.fit.l32)
    rw [hld.1, hld.2] at HLD
    have HQ8 := Lib.hid (show (∀ j, q.has j → w7.heap.size ≤ j) ∧ (∀ j, p3.has j → j < b5) ∧ b5 < w7.heap.size ∧ W.heap.size < b5 from ⟨Lq.new, fun j hj => (HP3.out j hj).2, HY7.out.lt, by have h1 := HL7.out.new _ (show p3.has p3.g from .inl rfl); have h2 := HP3.out p3.g (.inl rfl); omega⟩)
    have HSZ8 := Lib.hid hb8.size
    clear hN hb8 Lq hld y0 HX7 HY7 HL7 HR7 f1 f2 f3
    unfold ptr
    go_wp2_with fail
    refine HLA.out.mono ?_
    rintro e w9 ⟨rfl, rfl⟩
    go_wp2_with fail
    refine HLD.out.mono ?_
    rintro e w9 ⟨q2, rfl, Lq2, stq⟩
    have HQ9 := Lib.hid (show (∀ j, q2.has j → w7.heap.size ≤ j) from fun j hj => by
      rcases stq.rows j hj with h | h
      · exact HQ8.out.1 j h
      · have h2 := HY8.out.lt
        have h3 := HQ8.out.2.2.1
        have h4 := HQ8.out.1
        have h5 := Lq2.below.size
        have h6 := stq.size
        have h7 : w7.heap.size ≤ w8.heap.size := HSZ8.out
        omega)
    have HL9 := Lib.hid (HL8.out.beside stq (fun j hj hq => by have h1 := HQ8.out.2.1 j hj; have h2 := HQ8.out.1 j hq; have h3 := HQ8.out.2.2.1; omega) (fun j hq => by have h1 := HQ8.out.1 j hq; have h2 := HQ8.out.2.2.1; have h3 := HP3.out p3.g (.inl rfl); omega))
    have HX9 := Lib.hid (HX8.out.same (stq.block _ HX8.out.lt (fun e => by have h1 := HQ8.out.1 _ e; have h2 := HQ8.out.2.2; omega)))
    have HY9 := Lib.hid (HY8.out.same (stq.block _ HY8.out.lt (fun e => by have h1 := HQ8.out.1 _ e; have h2 := HQ8.out.2.2.1; omega)))
    have HLQ := Lib.hid Lq2
    have HSM := Lib.hid (HL9.out.same Lq2)
    rw [sameH_self] at HSM
    clear Lq2 stq HLD HLA HR8 HX8 HY8 HL8
    go_wp2_with fail
    refine HSM.out.mono ?_
    rintro e w10 ⟨rfl, hb10⟩
    have HL10 := Lib.hid (HL9.out.after hb10)
    have HQ10 := Lib.hid (HLQ.out.after hb10)
    have HX10 := Lib.hid (HX9.out.below hb10 HX9.out.lt)
    have HY10 := Lib.hid (HY9.out.below hb10 HY9.out.lt)
    have HPL := Lib.hid (plan_any HL10.out.at_ HG1.out HL10.out.envw.spares)
    rw [HL10.out.hg] at HPL
    unfold ptr at HPL
    clear hb10 HSM HL9 HLQ HX9 HY9
    go_wp2_with fail
    refine HPL.out.mono ?_
    rintro e w11 ⟨v11, rfl, hown11, hb11⟩
    obtain ⟨A5, g5, c5, rfl, hg5, ho5⟩ := own_two hown11
    have HO5 := Lib.hid ho5
    have HL11 := Lib.hid (HL10.out.after hb11)
    have HQ11 := Lib.hid (HQ10.out.after hb11)
    have HX11 := Lib.hid (HX10.out.below hb11 HX10.out.lt)
    have HY11 := Lib.hid (HY10.out.below hb11 HY10.out.lt)
    have HPS := Lib.hid (plan_same HA1.out)
    have hpn : (planM h1 l1).length ≤ 9223372036854775807 := by
      have h1' := congrArg List.length (planM_fst h1 l1)
      rw [List.length_map] at h1'
      have h2 : (liveO h1 l1).length ≤ (oopsL l1).length := List.length_filter_le _ _
      have h3 := oopsL_le HG1.out
      omega
    clear hown11 hb11 ho5 hg5 HPL HL10 HQ10 HX10 HY10
    generalize planM h1 l1 = pl at *
    go_wp2_with fail
    go_loopw [61] (fun iv wr => ∃ j : Nat, iv = .int .i64 j ∧ j ≤ pl.length ∧ Below w11.heap.size w11 wr) (fun iv _ => pl.length - (intOf iv).toNat)
    case atStart => exact ⟨0, rfl, Nat.zero_le _, Below.refl _ _⟩
    case round =>
      obtain ⟨j, rfl, hj, hb⟩ := hrel
      have HB := Lib.hid hb
      clear hb
      by_cases hlt : j < pl.length
      · obtain ⟨rfl, hp5⟩ := HO5.out (by omega)
        have hq : pl[j]? = some pl[j] := List.getElem?_eq_getElem hlt
        obtain ⟨d0, d1⟩ := (hp5.same HB.out.size (HB.out.block _ hp5.1)).2 j _ hq
        have he := HPS.out _ (List.getElem_mem hlt)
        rw [← he] at d1
        have HLT := Lib.hid hlt
        clear hp5 hq he
        generalize (pl[j]).1 = x at *
        have hne : ((x : Int) != (x : Int)) = false := by simp
        go_upto_region 12 with fail
        have hba := HB.out.alloc HB.out.size (.cells #[.int .u32 (x : Int), .int .u32 (x : Int)] 43)
        have HBa := Lib.hid hba
        have y0 := (Blk.new wr 43 #[.int .u32 (x : Int), .int .u32 (x : Int)]).cell 0
        have y1 := (Blk.new wr 43 #[.int .u32 (x : Int), .int .u32 (x : Int)]).cell 1
        clear hba d0 d1 HB
        generalize wr.alloc (.cells #[.int .u32 (x : Int), .int .u32 (x : Int)] 43) = w13 at *
        go_wp2_with fail
        go_roundw
        case rel => exact ⟨j + 1, by go_num, HLT.out, HBa.out⟩
        case measure => have := HLT.out; simp [intOf]; omega
      · obtain rfl : j = pl.length := by omega
        have HLr := Lib.hid (HL11.out.after HB.out)
        have HQr := Lib.hid (HQ11.out.after HB.out)
        have HYr := Lib.hid (HY11.out.below HB.out HY11.out.lt)
        have HCO := Lib.hid (HLr.out.collect HG1.out)
        rw [HH1.out, HV1.out] at HCO
        clear hlt hj HB HL11 HQ11 HX11 HY11 HO5
        go_wp2_with fail
        refine HCO.out.mono ?_
        rintro e w12 ⟨p4, rfl, hL12, hst⟩
        have HL12 := Lib.hid hL12
        have HAq := Lib.hid (HQr.out.at_.same (fun j hj => hst.block j (HQr.out.at_.lt hj) (fun e => by have h1 := HQ9.out j hj; have h2 := HQ8.out.2.1 j e; have h3 := HQ8.out.2.2.1; omega)))
        have HYs := Lib.hid (HYr.out.same (hst.block _ HYr.out.lt (fun e => by have h2 := HQ8.out.2.1 _ e; omega)))
        clear hL12 hst HCO
        go_upto_region 16 with fail
        have hba := (Below.refl w12.heap.size w12).alloc (Nat.le_refl _) (.cells #[.int .i64 x0, .int .i64 0, .int .i64 0, .int .i64 0, .int .i64 0] 46)
        have Y2 := Blk.new w12 46 #[.int .i64 x0, .int .i64 0, .int .i64 0, .int .i64 0, .int .i64 0]
        have y0 := Y2.cell 0
        have y1 := Y2.cell 1
        have y2 := Y2.cell 2
        have y3 := Y2.cell 3
        have y4 := Y2.cell 4
        have k0 := (HYs.out.below hba HYs.out.lt).cell 0
        have HLs := Lib.hid (HL12.out.after hba)
        have HSM := Lib.hid (show Calls Tryd.prog 38 #[.pointer (some ⟨g, 0, none⟩), .pointer (some ⟨gq, 0, none⟩)] (w12.alloc (.cells #[.int .i64 x0, .int .i64 0, .int .i64 0, .int .i64 0, .int .i64 0] 46)) (Told (.bool true) (w12.alloc (.cells #[.int .i64 x0, .int .i64 0, .int .i64 0, .int .i64 0, .int .i64 0] 46))) from by
          have hh := Same_any HLs.out.at_ (HAq.out.below hba) HG1.out.fit HG1.out.fit
          rw [HLs.out.hg, HQr.out.hg, sameH_self] at hh
          exact hh.mono fun e w' ⟨he, m, hm⟩ => ⟨he, hm ▸ below_drewN (Below.refl _ _) m⟩)
        clear hba Y2 HYs HYr
        generalize w12.alloc (.cells #[.int .i64 x0, .int .i64 0, .int .i64 0, .int .i64 0, .int .i64 0] 46) = w14 at *
        go_wp2_with fail
        refine HSM.out.mono ?_
        rintro e w15 ⟨rfl, hb15⟩
        have HF := Lib.hid (HB1.out.trans ((HLs.out.below.trans (hb15.mono HLs.out.below.size)).mono (show W.heap.size ≤ W1.heap.size by omega)))
        clear hb15 y0 y1 y2 y3 y4 k0
        go_wp2_with fail
        go_ret
        exact ⟨rfl, HF.out⟩
end Go.Proofs.YtblekggklimpeaaDoor

namespace Go.Proofs.YtblekggklimpeaaDoor
open Go.RowKit Go.Sort
attribute [local go_sem] Oper.semAt_some
theorem Live.rebase {W w1 w : World} {p : HP} {g : Nat} {h : HM} (L : Live w1 w p g h) (hb : Below W.heap.size W w1) (E : Env W) : Live W w p g h :=
  ⟨L.at_, L.hg, L.good, E, fun j hj => Nat.le_trans hb.size (L.new j hj), hb.trans (L.below.mono hb.size)⟩
theorem fld_to {pl : List (Nat × Nat)} {void x : Nat} : fldM pl void x = if kindM x = 2 then toK pl void x else x := by
  unfold fldM toK whereM
  by_cases hk : kindM x = 2
  · by_cases hm : x ∈ pl.map (·.1)
    · rw [if_neg (fun e => e.2 hm), if_pos hk, if_pos hk, if_pos hm]
    · rw [if_pos ⟨hk, hm⟩, if_pos hk, if_neg hm]
  · rw [if_neg (fun e => hk e.1), if_neg hk, if_neg hk]
theorem isB_obj {h : HM} {l : List Ob} (G : h.Good l) {j : Nat} (hj : j < l.length) : h.isB (2 * posOf (l.take j)) = true := (G.laid.isB_iff _).2 ⟨l.take j, l[j], l.drop (j + 1), split_at l j hj, rfl⟩
theorem get_obj {W w : World} {p : HP} {g : Nat} {h : HM} {l : List Ob} (L : Live W w p g h) (G : h.Good l) {j : Nat} (hj : j < l.length) (hp : (l[j]).x.ptrB = true) {i : Nat} (hi : i < (l[j]).fs.length) :
    Calls Tryd.prog 26 #[.pointer (some ⟨g, 0, none⟩), .int .u32 (2 * posOf (l.take j) : Nat), .int .i64 i] w (Told (.tuple #[.int .u32 ((l[j]).fs.getD i 0 : Nat), .int .i64 0]) w) := by
  have L' := G.laid
  rw [split_at l j hj] at L'
  have hf : h.fields (2 * posOf (l.take j)) = (l[j]).fs := L'.fields_at
  have hh : h.hd (2 * posOf (l.take j) / 2) = (l[j]).x := by rw [half_pos]; exact L'.hd_at
  have := kget_any L.at_ G L.envw.spares (isB_obj G hj) (by rw [hh]; exact hp) i (by rw [hf]; exact hi)
  rw [hf, L.hg] at this
  exact this
theorem head_obj {W w : World} {p : HP} {g : Nat} {h : HM} {l : List Ob} (L : Live W w p g h) (G : h.Good l) {j : Nat} (hj : j < l.length) :
    Calls Tryd.prog 25 #[.pointer (some ⟨g, 0, none⟩), .int .u32 (2 * posOf (l.take j) : Nat)] w (Told (.tuple #[(l[j]).x.val, .int .i64 0]) w) := by
  have hi := isB_obj G hj
  have L' := G.laid
  rw [split_at l j hj] at L'
  have hh : h.hd (2 * posOf (l.take j) / 2) = (l[j]).x := by rw [half_pos]; exact L'.hd_at
  have := L.header (2 * posOf (l.take j)) (isB_u32 G hi)
  have e1 : h.hdO (2 * posOf (l.take j)) = (l[j]).x := by unfold HM.hdO; rw [if_pos hi]; exact hh
  have e2 : h.isE (2 * posOf (l.take j)) = 0 := by unfold HM.isE; simp [hi]
  rw [e1, e2] at this
  exact this
set_option maxRecDepth 100000 in
set_option maxHeartbeats 8000000 in
theorem weakL_any (W : World) (E : Env W) (k : Cs) (hk : k.At W W.heap.size) : Calls Tryd.prog 5 #[k.agg] W (Told (.bool true) W) := by
  have hb1 := (Below.refl W.heap.size W).alloc (Nat.le_refl _) (.cells k.cells 26)
  have B1 := Blk.new W 26 k.cells
  have HB1 := Lib.hid hb1
  have HBX := Lib.hid B1
  have HE := Lib.hid (E.below hb1)
  have HK := Lib.hid (hk.below hb1)
  have HBU := Lib.hid (fun (w : World) (E : Env w) (hk : k.At w w.heap.size) => built_any w E k hk)
  have HAW := Lib.hid (fun (w : World) (E : Env w) => awake_any w E)
  have hsz := World.size_alloc W (.cells k.cells 26)
  clear hb1 B1 E hk
  unfold Cs.cells at HB1 HBX HE HK HBU hsz
  unfold Cs.agg at HBU ⊢
  go_enter Tryd.func5, Tryd.ntmps5
  obtain ⟨x0, x1, x2, x3⟩ := cells4K HBX.out
  go_wp2_with fail
  clear x0 x1 x2 x3
  generalize W.alloc (.cells #[.int .i64 k.size, .slice k.A k.n k.c, .slice k.A' k.n' k.c', .int .u32 (k.last : Nat)] 26) = W1 at *
  refine (HBU.out W1 HE.out HK.out).mono ?_
  rintro e w1 (⟨hno, ⟨v, rfl⟩, hb⟩ | ⟨hok, p, g, rfl, L, hws, hrs⟩)
  · have HB2 := Lib.hid (below_top HB1.out hb)
    have HE2 := Lib.hid (HE.out.below hb)
    have HK2 := Lib.hid (HK.out.below hb)
    have HX2 := Lib.hid (HBX.out.below hb HBX.out.lt)
    obtain ⟨x0, x1, x2, x3⟩ := cells4K HX2.out
    clear hb hno
    go_wp2_with fail
    refine (HBU.out w1 HE2.out HK2.out).mono ?_
    rintro e w2 hbu
    obtain ⟨v2, bv, rfl, hb2⟩ : ∃ v2 bv, e = .returned (.tuple #[v2, .bool bv]) ∧ Below w1.heap.size w1 w2 := by
      rcases hbu with ⟨_, ⟨v, rfl⟩, hb⟩ | ⟨_, p, g, rfl, L, _⟩
      · exact ⟨_, _, rfl, hb⟩
      · exact ⟨_, _, rfl, L.below⟩
    have HB3 := Lib.hid (below_top HB2.out hb2)
    have HE3 := Lib.hid (HE2.out.below hb2)
    clear hbu hb2 x0 x1 x2 x3 HBU
    go_wp2_with fail
    refine (HAW.out _ HE3.out).mono ?_
    rintro e w3 ⟨rfl, hb3⟩
    have HB4 := Lib.hid (below_top HB3.out hb3)
    clear hb3
    go_wp2_with fail
    go_ret
    exact ⟨rfl, HB4.out⟩
  · have HL := Lib.hid L
    obtain ⟨l, G⟩ := L.good
    have HG := Lib.hid G
    have HB2 := Lib.hid (below_top HB1.out L.below)
    have HX2 := Lib.hid (HBX.out.below L.below HBX.out.lt)
    have HK2 := Lib.hid (HK.out.below L.below)
    have HOK := Lib.hid hok
    have HBB := Lib.hid (HBU.out w1 L.envw (HK.out.below L.below))
    obtain ⟨x0, x1, x2, x3⟩ := cells4K HX2.out
    clear L G hws hrs hok HBU HBX HK
    go_wp2_with fail
    refine HBB.out.mono ?_
    rintro e w2 (⟨hno, _⟩ | ⟨_, q, gq, rfl, Lq, _, _⟩)
    · exact absurd HOK.out hno
    have HQ2 := Lib.hid (Lq.rebase HL.out.below HE.out)
    have HD := Lib.hid (show ∀ j, p.has j → j < w1.heap.size from fun j hj => HL.out.at_.lt hj)
    have HDq := Lib.hid (show ∀ j, q.has j → w1.heap.size ≤ j from fun j hj => Lq.new j hj)
    have HL2 := Lib.hid (HL.out.after Lq.below)
    have HB3 := Lib.hid (below_top HB2.out Lq.below)
    have HEV := Lib.hid HL2.out.envw
    clear Lq HBB x0 x1 x2 x3 HX2 HK2 HL HOK
    go_wp2_with fail
    refine (HAW.out _ HEV.out).mono ?_
    rintro e w3 ⟨rfl, hb3⟩
    have HL3 := Lib.hid (HL2.out.after hb3)
    have HQ3 := Lib.hid (HQ2.out.after hb3)
    have HPL := Lib.hid (plan_any HQ3.out.at_ HG.out HQ3.out.envw.spares)
    rw [HQ3.out.hg] at HPL
    unfold ptr at HPL
    clear hb3 HL2 HQ2 HEV HAW
    go_wp2_with fail
    refine HPL.out.mono ?_
    rintro e w4 ⟨v4, rfl, hown4, hb4⟩
    obtain ⟨Ap, gp, cp, rfl, hgp, hop⟩ := own_two hown4
    have HOP := Lib.hid hop
    have HGP := Lib.hid hgp
    have hb5 := hb4.alloc hb4.size (.cells #[.slice Ap (planM k.h l).length cp] 34)
    have HP5 := Lib.hid (Blk.new w4 34 #[.slice Ap (planM k.h l).length cp])
    have HL5 := Lib.hid (HL3.out.after hb5)
    have HQ5 := Lib.hid (HQ3.out.after hb5)
    have HO5 := Lib.hid (fun h0 => And.intro (HOP.out h0).1 ((HOP.out h0).2.same (w' := w4.alloc (.cells #[.slice Ap (planM k.h l).length cp] 34)) (by simp) (Below.heap_alloc _ _ _ (HOP.out h0).2.1)))
    have hbz4 := hb4.size
    have HZ3 := Lib.hid (show w1.heap.size ≤ w3.heap.size from by have h1 := HQ3.out.at_.lt (show q.has q.g from .inl rfl); have h2 := HDq.out q.g (.inl rfl); omega)
    clear hown4 hb4 hop hgp HPL HL3 HQ3 HOP hb5
    go_upto_region 6 with fail
    generalize w4.alloc (.cells #[.slice Ap (planM k.h l).length cp] 34) = w5 at *
    generalize w4.heap.size = b7 at *
    have HCO := Lib.hid (HL5.out.collect HG.out)
    go_wp2_with fail
    refine HCO.out.mono ?_
    rintro e w6 ⟨p', rfl, hL6, hst⟩
    have HL6 := Lib.hid hL6
    have HQ6 := Lib.hid (HQ5.out.beside hst (fun j hj hp => by have h1 := HD.out j hp; have h2 := HDq.out j hj; omega) (fun j hp => HL5.out.new j hp))
    have HP6 := Lib.hid (HP5.out.same (hst.block _ HP5.out.lt (fun e => by have h1 := HD.out _ e; have h2 := HZ3.out; omega)))
    have HO6 := Lib.hid (fun h0 => And.intro (HO5.out h0).1 ((HO5.out h0).2.same hst.size (hst.block _ (HO5.out h0).2.1 (fun e => by have h1 := HD.out _ e; have h2 := HZ3.out; have h3 := HGP.out; omega))))
    have HRT := Lib.hid (hL6.root 0)
    have hvd : (colH k.h l).rootN 0 = voidM k.h l ∧ rootE 0 = 0 := by
      have h64 := HG.out.fit.roots
      constructor
      · have e : (colH k.h l).roots.getD 0 0 = voidM k.h l := by
          show (colR k.h l).getD 0 0 = _
          unfold colR voidM
          rw [List.getD_eq_getElem?_getD, List.getElem?_map, List.getElem?_eq_getElem (by omega), List.getD_eq_getElem?_getD, List.getElem?_eq_getElem (by omega)]
          rfl
        unfold HM.rootN
        rw [if_pos (by decide)]
        exact e
      · rfl
    rw [hvd.1, hvd.2] at HRT
    clear hL6 hst hvd HCO HL5 HQ5 HP5 HO5
    go_wp2_with fail
    refine HRT.out.mono ?_
    rintro e w7 ⟨rfl, rfl⟩
    go_upto_region 9 with fail
    have hb8 : Below w6.heap.size w6 (w6.alloc (.cells #[.int .u32 (voidM k.h l : Int)] 41)) := (Below.refl _ _).alloc (Nat.le_refl _) _
    have HV8 := Lib.hid (Blk.new w6 41 #[.int .u32 (voidM k.h l : Int)])
    have HL8 := Lib.hid (HL6.out.after hb8)
    have HQ8 := Lib.hid (HQ6.out.after hb8)
    have HP8 := Lib.hid (HP6.out.below hb8 HP6.out.lt)
    have HO8 := Lib.hid (fun h0 => And.intro (HO6.out h0).1 ((HO6.out h0).2.same hb8.size (hb8.block _ (HO6.out h0).2.1)))
    clear hb8 HL6 HQ6 HP6 HO6 HRT
    generalize w6.alloc (.cells #[.int .u32 (voidM k.h l : Int)] 41) = w8 at *
    generalize w6.heap.size = b8 at *
    have HPK := Lib.hid (show (planM k.h l).length = (keepZ k.h l).length from planF_len 1 (keepZ k.h l))
    have hpn : (planM k.h l).length ≤ 1048576 := by
      have h1' := congrArg List.length (planM_fst k.h l)
      rw [List.length_map] at h1'
      have h2 : (liveO k.h l).length ≤ (oopsL l).length := List.length_filter_le _ _
      have h3 := oopsL_le HG.out
      omega
    have HWK := Lib.hid (fun (w' : World) (hb : Below w8.heap.size w8 w') (x : Nat) (hx : x < 4294967296) => weak1_any (pl := planM k.h l) (HP8.out.below hb HP8.out.lt) (HV8.out.below hb HV8.out.lt) (fun h0 => ⟨(HO8.out h0).1, (HO8.out h0).2.same hb.size (hb.block _ (HO8.out h0).2.1)⟩) (by omega) x hx)
    have p0 := HP8.out.cell 0
    go_wp2_with fail
    clear p0
    go_loopw [53] (fun iv wr => ∃ j : Nat, iv = .int .i64 j ∧ j ≤ (planM k.h l).length ∧ Below w8.heap.size w8 wr) (fun iv _ => (planM k.h l).length - (intOf iv).toNat)
    case atStart => exact ⟨0, rfl, Nat.zero_le _, Below.refl _ _⟩
    case round =>
      obtain ⟨j, rfl, hj, hb⟩ := hrel
      have HB := Lib.hid hb
      clear hb
      by_cases hlt : j < (planM k.h l).length
      · have hkz : j < (keepZ k.h l).length := by rw [← HPK.out]; exact hlt
        obtain ⟨jj, hjj, hp1, hp2, hp3⟩ := keepZ_mem (List.getElem_mem hkz)
        obtain ⟨rfl, hpa⟩ := HO8.out (by omega)
        obtain ⟨d0, d1⟩ := (hpa.same HB.out.size (HB.out.block _ hpa.1)).2 j _ (plan_get k.h l hkz)
        dsimp only at d0 d1
        rw [hp1] at d0
        have hcl : j < (colL k.h l).length := by rw [colL_len]; exact hkz
        have hcb := colL_get hkz
        rw [hp2] at hcb
        have HHD := Lib.hid (fun (w' : World) (hb : Below w8.heap.size w8 w') => head_obj (HQ8.out.after hb) HG.out hjj)
        have HGO := Lib.hid (fun (w' : World) (hb : Below w8.heap.size w8 w') (hp : (l[jj]).x.ptrB = true) (i : Nat) (hi : i < (l[jj]).fs.length) => get_obj (HQ8.out.after hb) HG.out hjj hp hi)
        have HGN := Lib.hid (fun (w' : World) (hb : Below w8.heap.size w8 w') (hp : (l[jj]).x.ptrB = true) (i : Nat) (hi : i < (l[jj]).fs.length) => show Calls Tryd.prog 26 #[.pointer (some ⟨g, 0, none⟩), .int .u32 (2 * posOf ((colL k.h l).take j) : Nat), .int .i64 i] w' (Told (.tuple #[.int .u32 (fldM (planM k.h l) (voidM k.h l) ((l[jj]).fs.getD i 0) : Nat), .int .i64 0]) w') from by
          have hx : ((colL k.h l)[j]).x.ptrB = true := by rw [hcb]; unfold relob Hd.ptrB; unfold Hd.ptrB at hp; exact hp
          have hl : ((colL k.h l)[j]).fs.length = (l[jj]).fs.length := by rw [hcb, relob_len]
          have := get_obj (HL8.out.after hb) (col_good HG.out) hcl hx (i := i) (by rw [hl]; exact hi)
          have hv : ((colL k.h l)[j]).fs.getD i 0 = fldM (planM k.h l) (voidM k.h l) ((l[jj]).fs.getD i 0) := by
            rw [hcb]
            unfold relob
            simp only [hp, if_true]
            rw [List.getD_eq_getElem?_getD, List.getElem?_map, List.getElem?_eq_getElem hi, List.getD_eq_getElem?_getD, List.getElem?_eq_getElem hi]
            rfl
          rw [hv] at this
          exact this)
        have K := HG.out.laid.ok _ (List.getElem_mem hjj)
        have H32 := Lib.hid K.f32
        have hsz2 := K.size
        have hln : (l[jj]).fs.length ≤ 65535 := by
          have h1 := K.may
          unfold Hd.may at h1
          simp at h1
          omega
        have HLT := Lib.hid hlt
        clear hpa hp1 hp2 hp3 hkz hcl hcb K hj
        generalize 2 * posOf (l.take jj) = o at *
        generalize 2 * posOf ((colL k.h l).take j) = o2 at *
        generalize l[jj] = b at *
        obtain ⟨⟨n, t, sp, cc, r⟩, fs⟩ := b
        simp only at hsz2 hln
        subst hsz2
        unfold Hd.val at HHD
        go_upto_region 12 with fail
        have hba := HB.out.alloc HB.out.size (.cells #[.int .u32 (o : Int), .int .u32 (o2 : Int)] 43)
        have HBa := Lib.hid hba
        have HM := Lib.hid (Blk.new wr 43 #[.int .u32 (o : Int), .int .u32 (o2 : Int)])
        clear hba d0 d1 HB
        generalize wr.alloc (.cells #[.int .u32 (o : Int), .int .u32 (o2 : Int)] 43) = w11 at *
        generalize wr.heap.size = b12 at *
        have m0 := HM.out.cell 0
        have HHD11 := Lib.hid (HHD.out w11 HBa.out)
        clear HHD
        go_wp2_with fail
        refine HHD11.out.mono ?_
        rintro e w12 ⟨rfl, hb12⟩
        go_upto_region 13 with fail
        have hbh := hb12.alloc hb12.size (.cells #[.int .i64 (fs.length : Int), .int .i64 (t : Int), .int .i64 (sp : Int), .int .u32 (cc : Int), .int .u32 (r : Int)] 56)
        have HB13 := Lib.hid (below_top HBa.out hbh)
        have HM13 := Lib.hid (HM.out.below hbh HM.out.lt)
        have HX13 := Lib.hid (Blk.new w12 56 #[.int .i64 (fs.length : Int), .int .i64 (t : Int), .int .i64 (sp : Int), .int .u32 (cc : Int), .int .u32 (r : Int)])
        clear hbh hb12 m0 HM HBa HHD11
        generalize w12.alloc (.cells #[.int .i64 (fs.length : Int), .int .i64 (t : Int), .int .i64 (sp : Int), .int .u32 (cc : Int), .int .u32 (r : Int)] 56) = w13 at *
        generalize w12.heap.size = b13 at *
        have h0 := HX13.out.cell 0
        have h1 := HX13.out.cell 1
        by_cases ht : t = 4
        · have HPT := Lib.hid (show Hd.ptrB ⟨fs.length, t, sp, cc, r⟩ = true from by unfold Hd.ptrB; simp [ht])
          have hne4 : ((t : Int) != 4) = false := by simp; omega
          clear ht
          go_wp2_with fail
          go_loopw [15] (fun iv wr => ∃ i : Nat, iv = .int .i64 i ∧ i ≤ fs.length ∧ Below w13.heap.size w13 wr) (fun iv _ => fs.length - (intOf iv).toNat)
          case atStart => exact ⟨0, rfl, Nat.zero_le _, Below.refl _ _⟩
          case round =>
            clear h0 h1
            obtain ⟨i, rfl, hi, hbi⟩ := hrel
            have HBi := Lib.hid hbi
            have HBw := Lib.hid (below_top HB13.out hbi)
            clear hbi
            have h0 := (HX13.out.below HBi.out HX13.out.lt).cell 0
            by_cases hli : i < fs.length
            · have HGa := Lib.hid (HGO.out wr HBw.out HPT.out i hli)
              have HGb := Lib.hid (fun w' hb => HGN.out w' hb HPT.out i hli)
              have hx32 : fs.getD i 0 < 4294967296 := getD_u32 H32.out i
              have HKD := Lib.hid (fun w' => rkind_any _ hx32 w')
              have HWx := Lib.hid (fun w' hb => HWK.out w' hb _ hx32)
              have HFT := Lib.hid (fld_to (pl := planM k.h l) (void := voidM k.h l) (x := fs.getD i 0))
              have HLTi := Lib.hid hli
              try dsimp only at HGa HGb
              generalize fs.getD i 0 = x at *
              have m0 := (HM13.out.below HBi.out HM13.out.lt).cell 0
              generalize toK (planM k.h l) (voidM k.h l) x = z at *
              generalize fldM (planM k.h l) (voidM k.h l) x = fv at *
              go_wp2_with fail
              refine HGa.out.mono ?_
              rintro e wa ⟨rfl, hba⟩
              have HBa := Lib.hid (below_top HBi.out hba)
              have HBwa := Lib.hid (below_top HBw.out hba)
              have m1 := (HM13.out.below HBa.out HM13.out.lt).cell 1
              clear hba m0 h0 HGa
              go_wp2_with fail
              refine (HGb.out wa HBwa.out).mono ?_
              rintro e wb ⟨rfl, hbb⟩
              have HBb := Lib.hid (below_top HBa.out hbb)
              have HBwb := Lib.hid (below_top HBwa.out hbb)
              clear hbb m1 HGb HBi HBw HBwa
              go_wp2_with fail
              refine (HKD.out _).mono ?_
              rintro e wk ⟨rfl, rfl⟩
              by_cases hk : kindM x = 2
              · rw [hk]
                have hfe := HFT.out
                rw [if_pos hk] at hfe
                subst hfe
                clear hk HKD
                go_wp2_with fail
                refine (HWx.out wb HBwb.out).mono ?_
                rintro e wc ⟨rfl, hbc⟩
                have HBc := Lib.hid (below_top HBb.out hbc)
                have hne : ((fv : Int) != (fv : Int)) = false := by simp
                clear hbc HWx
                go_wp2_with fail
                go_roundw
                case rel => exact ⟨i + 1, by go_num, HLTi.out, HBc.out⟩
                case measure => have := HLTi.out; simp [intOf]; omega
              · have hk0 : ((kindM x : Int) == 2) = false := by simp; omega
                have hfe := HFT.out
                rw [if_neg hk] at hfe
                subst hfe
                have hne : ((fv : Int) != (fv : Int)) = false := by simp
                clear hk HKD
                generalize kindM fv = kd at *
                go_wp2_with fail
                go_roundw
                case rel => exact ⟨i + 1, by go_num, HLTi.out, HBb.out⟩
                case measure => have := HLTi.out; simp [intOf]; omega
            · obtain rfl : i = fs.length := by omega
              clear hli hi
              go_wp2_with fail
              go_roundw
              case rel => exact ⟨j + 1, by go_num, HLT.out, HBw.out⟩
              case measure => have := HLT.out; simp [intOf]; omega
        · have hne : ((t : Int) != 4) = true := by simp; omega
          go_wp2_with fail
          go_roundw
          case rel => exact ⟨j + 1, by go_num, HLT.out, HB13.out⟩
          case measure => have := HLT.out; simp [intOf]; omega
      · obtain rfl : j = (planM k.h l).length := by omega
        have HF := Lib.hid (HB1.out.trans ((HL8.out.after HB.out).below.mono (show W.heap.size ≤ W1.heap.size by omega)))
        clear hlt hj
        go_wp2_with fail
        go_ret
        exact ⟨rfl, HF.out⟩
end Go.Proofs.YtblekggklimpeaaDoor

namespace Go.Proofs.YtblekggklimpeaaDoor
open Go.RowKit Go.Sort
attribute [local go_sem] Oper.semAt_some
theorem isB_kindK {h : HM} {l : List Ob} (G : h.Good l) {o : Nat} (hi : h.isB o = true) : kindM o = 2 := isB_kind hi
section
variable {w : World} {h : HM} {l : List Ob} {A A' : Option Addr} {n c n' c' : Nat}
set_option maxRecDepth 100000 in
set_option maxHeartbeats 4000000 in
theorem ris_any (G : h.Good l) (hr : Reads w w.heap.size 1 A n (u32s h.words)) {o : Nat} (ho : o < 4294967296) :
    Calls Tryd.prog 42 #[StV A n c A' n' c', .int .u32 o] w (Told (.bool (h.isB o)) w) := by
  have hX := Blk.new w 32 #[.slice A n c, .slice A' n' c']
  have hB := (Below.refl w.heap.size w).alloc (Nat.le_refl _) (.cells #[.slice A n c, .slice A' n' c'] 32)
  have HOB := Lib.hid (robjects_any (A' := A') (n' := n') (c' := c') (c := c) G ((hr.below hB).more hB.size))
  have HKD := Lib.hid (fun w' => rkind_any o ho w')
  have x0 := hX.cell 0
  have x1 := hX.cell 1
  have HB := Lib.hid hB
  have hl2 : l.length ≤ 1048576 := by have h1 := oopsL_le G; rw [oopsL_len] at h1; exact h1
  have HG := Lib.hid G
  clear hX hB hr G
  unfold StV at HOB ⊢
  by_cases hk : kindM o = 2
  · have HK2 := Lib.hid hk
    rw [hk] at HKD
    have hq : ((o : Int)).tdiv 2 = ((o / 2 : Nat) : Int) := by rw [Int.tdiv_eq_ediv_of_nonneg (by omega)]; omega
    have hq2 : ((o : Int)) / 2 = ((o / 2 : Nat) : Int) := by omega
    have hwi : IntKind.i64.wrap ((o / 2 : Nat) : Int) = ((o / 2 : Nat) : Int) := IntWalk.i64_in _ (by omega)
    have HO2 := Lib.hid (kind2 hk).1
    have HQQ := Lib.hid (And.intro hq (And.intro hq2 hwi))
    clear hk hq hq2 hwi
    generalize o / 2 = i at *
    go_enter Tryd.func42, Tryd.ntmps42
    go_wp2_with fail
    generalize w.alloc (.cells #[.slice A n c, .slice A' n' c'] 32) = w1 at *
    refine (HKD.out _).mono ?_
    rintro e w1' ⟨rfl, rfl⟩
    go_wp2_with fail
    refine HOB.out.mono ?_
    rintro e w2 ⟨v2, rfl, hown, hb2⟩
    have HOW := Lib.hid hown
    have HB2 := Lib.hid (below_top HB.out hb2)
    obtain ⟨Ai, ci, hvi⟩ := own_val hown
    subst hvi
    rw [idxL_len] at *
    clear hown hb2 HOB x0 x1 HKD
    go_wp2_with fail
    go_loopw [13] (fun jv wr => ∃ j : Nat, jv = .int .i64 j ∧ j ≤ l.length ∧ (∀ q, q < j → posOf (l.take q) ≠ i) ∧ wr = w2) (fun jv _ => l.length - (intOf jv).toNat)
    case atStart => exact ⟨0, rfl, Nat.zero_le _, fun q hq => absurd hq (Nat.not_lt_zero _), rfl⟩
    case round =>
      obtain ⟨j, rfl, hj, hno, hww⟩ := hrel
      have HNO := Lib.hid hno
      have HWW := Lib.hid hww
      clear hno hww
      by_cases hlt : j < l.length
      · obtain ⟨gv, cv, hvv, hrv, _, hgv⟩ := Row.of_any HOW.out (by omega)
        have hcl := hrv.cell (ints_atK (idxL_get hlt))
        rw [← HWW.out] at hcl
        have HLT := Lib.hid hlt
        have HYES := Lib.hid (fun (e : posOf (l.take j) = i) => show h.isB o = true from by
          have := (HG.out.laid.isB_iff (2 * posOf (l.take j))).2 ⟨l.take j, l[j], l.drop (j + 1), split_at l j hlt, rfl⟩
          rw [e, ← HO2.out] at this
          exact this)
        have HNX := Lib.hid (fun (e : posOf (l.take j) ≠ i) => show ∀ q, q < j + 1 → posOf (l.take q) ≠ i from fun q hq => by
          by_cases h : q = j
          · rw [h]; exact e
          · exact HNO.out q (by omega))
        cases hvv
        clear hrv
        generalize posOf (l.take j) = x at *
        obtain ⟨hq, hq2, hwi⟩ := HQQ.out
        by_cases hx : x = i
        · have hy := HYES.out hx
          rw [hy]
          subst hx
          clear hy
          go_wp2_with fail
          go_ret
          exact ⟨rfl, by rw [HWW.out]; exact HB2.out⟩
        · have hne : ((x : Int) == (i : Int)) = false := by simp; omega
          have HN := Lib.hid (HNX.out hx)
          clear hx
          go_wp2_with fail
          go_roundw
          case rel => exact ⟨j + 1, by go_num, HLT.out, HN.out, HWW.out⟩
          case measure => have := HLT.out; simp [intOf]; omega
      · obtain rfl : j = l.length := by omega
        have hf : h.isB o = false := by
          cases hi : h.isB o
          · rfl
          · obtain ⟨k, hk, he⟩ := isB_k HG.out hi
            have h1 := HNO.out k hk
            have h2 := HO2.out
            omega
        have HFF := Lib.hid hf
        clear hf hlt hj
        go_wp2_with fail
        go_ret
        exact ⟨by rw [HFF.out]; rfl, by rw [HWW.out]; exact HB2.out⟩
  · have hf : h.isB o = false := by
      cases hi : h.isB o
      · rfl
      · exact absurd (isB_kind hi) hk
    rw [hf]
    have e2 : ((kindM o : Int) != 2) = true := by simp; omega
    clear hk hf
    generalize kindM o = k at *
    go_enter Tryd.func42, Tryd.ntmps42
    go_wp2_with fail
    generalize w.alloc (.cells #[.slice A n c, .slice A' n' c'] 32) = w1 at *
    refine (HKD.out _).mono ?_
    rintro e w1' ⟨rfl, rfl⟩
    go_wp2_with fail
    go_ret
    exact ⟨rfl, HB.out⟩
end
end Go.Proofs.YtblekggklimpeaaDoor
