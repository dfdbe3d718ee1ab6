/- CollectLives, walked: it answers true. -/
/- CollectCollects, walked: it answers true. -/
/- alike's memory: two tables and two growing rows of the call's own; its plain meaning. -/
/- alike's closure: a pair of oops. -/
/- CollectWeak's closure: where an oop goes, or what root 0 is. -/
import Derived.Test.YtblekggklimpeaaDoorJKRWalk
import Derived.Test.YtblekggklimpeaaDoorJKBuilt
import Derived.Test.YtblekggklimpeaaDoorJKRCol
import Derived.Test.YtblekggklimpeaaDoorJKNamed
import Derived.Test.YtblekggklimpeaaDoorJKRNames
import Derived.Test.YtblekggklimpeaaDoorJUntil
import Derived.Test.YtblekggklimpeaaDoorJMem
import Derived.Deep.RegionHeld3
import Derived.BigQuiet
set_option linter.unusedVariables false
set_option linter.unusedSimpArgs false
set_option linter.unusedSectionVars false
namespace Go.Proofs.YtblekggklimpeaaDoor
open Go.RowKit Go.Sort
attribute [local go_sem] Oper.semAt_some
def Cs.cells (k : Cs) : Array Value := #[.int .i64 k.size, .slice k.A k.n k.c, .slice k.A' k.n' k.c', .int .u32 (k.last : Nat)]
theorem cells4K {w : World} {g : Nat} {t : TypeId} {a b c d : Value} (h : Blk w g t #[a, b, c, d]) : w.cell? ⟨g, 0, none⟩ = some a ∧ w.cell? ⟨g, 1, none⟩ = some b ∧ w.cell? ⟨g, 2, none⟩ = some c ∧ w.cell? ⟨g, 3, none⟩ = some d := ⟨h.cell 0, h.cell 1, h.cell 2, h.cell 3⟩
theorem own_readsN {w : World} {base n : Nat} {v : Value} {xs : List Nat} {e : TypeId} (h : w.ownsRow base e 1 v n (u32s xs)) : ∃ A c, v = .slice A n c ∧ Reads w w.heap.size 1 A n (u32s xs) ∧ n ≤ 9223372036854775807 := by
  by_cases h0 : 0 < n
  · obtain ⟨A, c, hv, hr⟩ := own_readsK h h0
    refine ⟨A, c, hv, hr, ?_⟩
    rcases h.2 with ⟨rfl, h2⟩ | ⟨g, cap, cur, _, _, _, h4, h5, _⟩
    · omega
    · simp only [maxLen] at h5
      omega
  · obtain ⟨A, c, hv⟩ := own_val h
    have h1 := h.1
    refine ⟨A, c, hv, ⟨by omega, fun h2 => absurd h2 h0⟩, by omega⟩
section
variable {W : World}
set_option maxRecDepth 100000 in
set_option maxHeartbeats 8000000 in
theorem livesL_any (W : World) (E : Env W) (k : Cs) (hk : k.At W W.heap.size) : Calls Tryd.prog 3 #[k.agg] W (Told (.bool true) W) := by
  have hb1 := (Below.refl W.heap.size W).alloc (Nat.le_refl _) (.cells k.cells 26)
  have B1 := Blk.new W 26 k.cells
  have HB1 := Lib.hid hb1
  have HBX := Lib.hid B1
  have HE := Lib.hid (E.below hb1)
  have HK := Lib.hid (hk.below hb1)
  have HBU := Lib.hid (built_any _ (E.below hb1) k (hk.below hb1))
  have HAW := Lib.hid (fun (w : World) (E : Env w) => awake_any w E)
  have HST := Lib.hid (fun (w : World) => store_any k w)
  have hsz := World.size_alloc W (.cells k.cells 26)
  clear hb1 B1 E hk
  unfold Cs.cells at HB1 HBX HE HK HBU hsz
  unfold Cs.agg at HBU HST ⊢
  unfold StV at HST
  go_enter Tryd.func3, Tryd.ntmps3
  obtain ⟨x0, x1, x2, x3⟩ := cells4K HBX.out
  go_wp2_with fail
  clear x0 x1 x2 x3
  generalize W.alloc (.cells #[.int .i64 k.size, .slice k.A k.n k.c, .slice k.A' k.n' k.c', .int .u32 (k.last : Nat)] 26) = W1 at *
  refine HBU.out.mono ?_
  rintro e w1 (⟨hno, ⟨v, rfl⟩, hb⟩ | ⟨hok, p, g, rfl, L, hws, hrs⟩)
  · have HB2 := Lib.hid (below_top HB1.out hb)
    have HE2 := Lib.hid (HE.out.below hb)
    clear hb hno HBU
    go_wp2_with fail
    refine (HAW.out _ HE2.out).mono ?_
    rintro e w2 ⟨rfl, hb2⟩
    have HB3 := Lib.hid (below_top HB2.out hb2)
    clear hb2
    go_wp2_with fail
    go_ret
    exact ⟨rfl, HB3.out⟩
  · have HL := Lib.hid L
    obtain ⟨l, G⟩ := L.good
    have HG := Lib.hid G
    have HEV := Lib.hid L.envw
    have HB2 := Lib.hid (below_top HB1.out L.below)
    have HX2 := Lib.hid (HBX.out.below L.below HBX.out.lt)
    have HK2 := Lib.hid (HK.out.below L.below)
    have HWS := Lib.hid (And.intro hws hrs)
    have HOK := Lib.hid hok
    clear L G hws hrs hok HBU HB1 HBX HE HK
    go_wp2_with fail
    refine (HAW.out _ HEV.out).mono ?_
    rintro e w2 ⟨rfl, hb2⟩
    have HL3 := Lib.hid (HL.out.after hb2)
    have HB3 := Lib.hid (below_top HB2.out hb2)
    have HX3 := Lib.hid (HX2.out.below hb2 HX2.out.lt)
    have HK3 := Lib.hid (HK2.out.below hb2)
    obtain ⟨x0, x1, x2, x3⟩ := cells4K HX3.out
    clear hb2 HB2 HX2 HK2 HL HEV
    go_wp2_with fail
    refine (HST.out _).mono ?_
    rintro e w3 ⟨rfl, hb3⟩
    have HB4 := Lib.hid (below_top HB3.out hb3)
    have HL4 := Lib.hid (HL3.out.after hb3)
    have HX4 := Lib.hid (HX3.out.below hb3 HX3.out.lt)
    have HRD := Lib.hid (fun (w' : World) (hb : Below w3.heap.size w3 w') => show Reads w' w'.heap.size 1 k.A k.n (u32s k.h.words) ∧ Reads w' w'.heap.size 1 k.A' k.n' (u32s k.h.roots) from by
      have h1 := (HK3.out.below hb3).below hb
      rw [HWS.out.1, HWS.out.2]
      exact ⟨h1.hr, h1.hr'⟩)
    have hb4 : Below w3.heap.size w3 (w3.alloc (.cells #[.slice k.A k.n k.c, .slice k.A' k.n' k.c'] 32)) := (Below.refl _ _).alloc (Nat.le_refl _) _
    have HS4 := Lib.hid (Blk.new w3 32 #[.slice k.A k.n k.c, .slice k.A' k.n' k.c'])
    have HX5 := Lib.hid (HX4.out.below hb4 HX4.out.lt)
    have HB5 := Lib.hid hb4
    have HPL := Lib.hid (fun (w' : World) (hb : Below w3.heap.size w3 w') => plan_any (HL4.out.after hb).at_ HG.out (HL4.out.after hb).envw.spares)
    have HLV := Lib.hid (fun (w' : World) (hb : Below w3.heap.size w3 w') => live_any (HL4.out.after hb).at_ HG.out (HL4.out.after hb).envw.spares)
    have HRP := Lib.hid (fun (w' : World) (hb : Below w3.heap.size w3 w') => rplan_any (c := k.c) (c' := k.c') HG.out (HRD.out w' hb).1 (HRD.out w' hb).2)
    have HRL := Lib.hid (fun (w' : World) (hb : Below w3.heap.size w3 w') => rlive_any (c := k.c) (c' := k.c') HG.out (HRD.out w' hb).1 (HRD.out w' hb).2)
    have hsz1 : k.size = (k.h.size : Int) := by
      have := HOK.out.1
      show k.size = ((k.size.toNat : Nat) : Int)
      omega
    have hn1 := (HK3.out).hn
    have hn2 := (HK3.out).hn'
    have HIS := Lib.hid (fun (w' : World) (hb : Below w3.heap.size w3 w') => is_yes (HL4.out.after hb) k hsz1 rfl k.A k.n k.c hn1 (HRD.out w' hb).1 k.A' k.n' k.c' hn2 (HRD.out w' hb).2)
    rw [HL4.out.hg] at HPL HLV
    clear hb3 hb4 HB3 HX3 HK3 HL3 HX4 HRD HWS HOK hsz1 hn1 hn2 x0 x1 x2 x3 HAW HST
    unfold StV at HRP HRL HIS
    unfold Cs.agg at HIS
    unfold ptr at HPL HLV
    go_upto_region 5 with fail
    generalize hW4 : (w3.alloc (.cells #[.slice k.A k.n k.c, .slice k.A' k.n' k.c'] 32)) = w4 at *
    have HS3 := Lib.hid (show w3.heap.size < w4.heap.size by rw [← hW4]; simp)
    clear hW4
    go_wp2_with fail
    refine (HPL.out _ HB5.out).mono ?_
    rintro e w5 ⟨v5, rfl, hown5, hb5⟩
    obtain ⟨A5, g5, c5, rfl, hg5, ho5⟩ := own_two hown5
    have HO5 := Lib.hid ho5
    have HB6 := Lib.hid (below_top HB5.out hb5)
    have HS5 := Lib.hid (HS4.out.below hb5 HS4.out.lt)
    have HX6 := Lib.hid (HX5.out.below hb5 HX5.out.lt)
    have y0 := HS5.out.cell 0
    have y1 := HS5.out.cell 1
    clear hown5 hb5 ho5 HB5 HS4 HX5
    go_wp2_with fail
    refine (HRP.out _ HB6.out).mono ?_
    rintro e w6 ⟨v6, rfl, hown6, hb6⟩
    obtain ⟨A6, g6, c6, rfl, hg6, ho6⟩ := own_two hown6
    have HO6 := Lib.hid ho6
    have HO5 := Lib.hid (fun h0 => And.intro (HO5.out h0).1 ((HO5.out h0).2.same hb6.size (hb6.block _ (HO5.out h0).2.1)))
    have HB7 := Lib.hid (below_top HB6.out hb6)
    have HS6 := Lib.hid (HS5.out.below hb6 HS5.out.lt)
    have HX7 := Lib.hid (HX6.out.below hb6 HX6.out.lt)
    clear hown6 hb6 ho6 HB6 HS5 HX6 y0 y1 HPL HRP
    go_upto_region 7 with fail
    have HC := Lib.hid (fun (w' : World) (hb : Below w6.heap.size w6 w') => show w'.cell? ⟨W.heap.size, 0, none⟩ = some (.int .i64 k.size) ∧ w'.cell? ⟨W.heap.size, 1, none⟩ = some (.slice k.A k.n k.c) ∧ w'.cell? ⟨W.heap.size, 2, none⟩ = some (.slice k.A' k.n' k.c') ∧ w'.cell? ⟨W.heap.size, 3, none⟩ = some (.int .u32 (k.last : Nat)) ∧ w'.cell? ⟨w3.heap.size, 0, none⟩ = some (.slice k.A k.n k.c) ∧ w'.cell? ⟨w3.heap.size, 1, none⟩ = some (.slice k.A' k.n' k.c') from
      ⟨(HX7.out.below hb HX7.out.lt).cell 0, (HX7.out.below hb HX7.out.lt).cell 1, (HX7.out.below hb HX7.out.lt).cell 2, (HX7.out.below hb HX7.out.lt).cell 3, (HS6.out.below hb HS6.out.lt).cell 0, (HS6.out.below hb HS6.out.lt).cell 1⟩)
    obtain ⟨c0, c1, c2, c3, c4, c5'⟩ := HC.out w6 (Below.refl _ _)
    have HLV6 := Lib.hid (fun (w' : World) (hb : Below w6.heap.size w6 w') => HLV.out w' (below_top HB7.out hb))
    have HRL6 := Lib.hid (fun (w' : World) (hb : Below w6.heap.size w6 w') => HRL.out w' (below_top HB7.out hb))
    have HIS6 := Lib.hid (fun (w' : World) (hb : Below w6.heap.size w6 w') => HIS.out w' (below_top HB7.out hb))
    have HSO := Lib.hid (fun (w7 w8 : World) (hb : Below w7.heap.size w7 w8) (A7 : Option Addr) (c7 : Nat) (A8 : Option Addr) (c8 : Nat) (hn : (liveO k.h l).length ≤ 9223372036854775807) (r7 : Reads w7 w7.heap.size 1 A7 (liveO k.h l).length (u32s (liveO k.h l))) (r8 : Reads w8 w8.heap.size 1 A8 (liveO k.h l).length (u32s (liveO k.h l))) =>
      oops_any A7 A8 (liveO k.h l).length (liveO k.h l).length c7 c8 (liveO k.h l) (liveO k.h l) w8 hn hn ((r7.below hb).more hb.size) r8)
    rw [sameL_self] at HSO
    have hB0 : Below w6.heap.size w6 w6.drew := below_drew (Below.refl _ _)
    clear HLV HRL HIS
    go_region_held3 (fun w' => w'.cell? ⟨W.heap.size, 0, none⟩ = some (.int .i64 k.size) ∧ w'.cell? ⟨W.heap.size, 1, none⟩ = some (.slice k.A k.n k.c) ∧ w'.cell? ⟨W.heap.size, 2, none⟩ = some (.slice k.A' k.n' k.c') ∧ w'.cell? ⟨W.heap.size, 3, none⟩ = some (.int .u32 (k.last : Nat)) ∧ w'.cell? ⟨w3.heap.size, 0, none⟩ = some (.slice k.A k.n k.c) ∧ w'.cell? ⟨w3.heap.size, 1, none⟩ = some (.slice k.A' k.n' k.c'))
      (first | exact ⟨c0, c1, c2, c3, c4, c5'⟩ | exact HC.out _ (by assumption) | go_keep)
      (first
        | (go_at_call 18; refine (HLV6.out _ (by assumption)).mono ?_; rintro e w7 ⟨v7, rfl, ho7, hb7⟩; obtain ⟨A7, c7, rfl, hr7, hn7⟩ := own_readsN ho7; have hB7 := below_top (by assumption) hb7)
        | (go_at_call 19; refine (HRL6.out _ (by assumption)).mono ?_; rintro e w8 ⟨v8, rfl, ho8, hb8⟩; obtain ⟨A8, c8, rfl, hr8, hn8⟩ := own_readsN ho8; have hB8 := below_top (by assumption) hb8)
        | (go_at_call 17; refine (HSO.out _ _ hb8 _ _ _ _ hn7 hr7 hr8).mono ?_; rintro e w9 ⟨rfl, hb9⟩; have hB9 := below_top hB8 hb9)
        | (go_at_call 20; refine (HIS6.out _ (by assumption)).mono ?_; rintro e w10 ⟨rfl, hb10⟩; have hB10 := below_top hB9 hb10))
    have HF := Lib.hid (HB4.out.trans ((below_top HB7.out hB10).mono HB4.out.size))
    have HO5' := Lib.hid (fun h0 => And.intro (HO5.out h0).1 ((HO5.out h0).2.same hB10.size (hB10.block _ (HO5.out h0).2.1)))
    have HO6' := Lib.hid (fun h0 => And.intro (HO6.out h0).1 ((HO6.out h0).2.same hB10.size (hB10.block _ (HO6.out h0).2.1)))
    have hpn : (planM k.h l).length ≤ 9223372036854775807 := by
      have h1 := congrArg List.length (planM_fst k.h l)
      rw [List.length_map] at h1
      omega
    clear hB0 hB7 hB8 hB9 hB10 hb7 hb8 hb9 hb10 ho7 ho8 hr7 hr8 hn7 hn8 c0 c1 c2 c3 c4 c5' HO5 HO6 HLV6 HRL6 HIS6 HSO HC HB7 HS6 HX7 HL4 HG
    generalize planM k.h l = pl at *
    go_wp2_with fail
    go_loopw [8] (fun iv wr => ∃ j : Nat, iv = .int .i64 j ∧ j ≤ pl.length ∧ Below w10.heap.size w10 wr) (fun iv _ => pl.length - (intOf iv).toNat)
    case atStart => exact ⟨0, rfl, Nat.zero_le _, Below.refl _ _⟩
    case round =>
      obtain ⟨j, rfl, hj, hb⟩ := hrel
      have HB := Lib.hid hb
      clear hb
      by_cases hlt : j < pl.length
      · obtain ⟨rfl, hp5⟩ := HO5'.out (by omega)
        obtain ⟨rfl, hp6⟩ := HO6'.out (by omega)
        have hq : pl[j]? = some pl[j] := List.getElem?_eq_getElem hlt
        obtain ⟨d0, d1⟩ := (hp5.same HB.out.size (HB.out.block _ hp5.1)).2 j _ hq
        obtain ⟨e0, e1⟩ := (hp6.same HB.out.size (HB.out.block _ hp6.1)).2 j _ hq
        have HLT := Lib.hid hlt
        clear hp5 hp6 hq
        generalize (pl[j]).1 = x at *
        generalize (pl[j]).2 = y at *
        go_upto_region 12 with fail
        go_quiet (fail)
        have hbq := below_drewN (Below.refl wr.heap.size wr) nq
        have HBq := Lib.hid (below_top HB.out hbq)
        clear hbq d0 d1 e0 e1 HB
        go_wp2_with fail
        go_roundw
        case rel => exact ⟨j + 1, by go_num, HLT.out, HBq.out⟩
        case measure => have := HLT.out; simp [intOf]; omega
      · obtain rfl : j = pl.length := by omega
        clear hlt hj
        go_wp2_with fail
        go_ret
        exact ⟨rfl, HF.out.trans (HB.out.mono HF.out.size)⟩
end
end Go.Proofs.YtblekggklimpeaaDoor

namespace Go.Proofs.YtblekggklimpeaaDoor
open Go.RowKit Go.Sort
attribute [local go_sem] Oper.semAt_some
theorem own_readsV {w : World} {base n c : Nat} {A : Option Addr} {xs : List Nat} {e : TypeId} (h : w.ownsRow base e 1 (.slice A n c) n (u32s xs)) : Reads w w.heap.size 1 A n (u32s xs) ∧ n ≤ 9223372036854775807 := by
  obtain ⟨A', c', hv, hr, hn⟩ := own_readsN h
  injection hv with h1 h2 h3
  subst h1
  exact ⟨hr, hn⟩
theorem colV_ints (h : HM) (l : List Ob) : ∃ x0 x1 x2 x3 x4 : Int, colV h l = .agg #[.int .i64 x0, .int .i64 x1, .int .i64 x2, .int .i64 x3, .int .i64 x4] := ⟨_, _, _, _, _, rfl⟩
theorem cells2K {w : World} {g : Nat} {t : TypeId} {a b : Value} (h : Blk w g t #[a, b]) : w.cell? ⟨g, 0, none⟩ = some a ∧ w.cell? ⟨g, 1, none⟩ = some b := ⟨h.cell 0, h.cell 1⟩
set_option maxRecDepth 100000 in
set_option maxHeartbeats 8000000 in
theorem collectsL_any (W : World) (E : Env W) (k : Cs) (hk : k.At W W.heap.size ∧ k.n ≤ k.c) : Calls Tryd.prog 4 #[k.agg] W (Told (.bool true) W) := by
  obtain ⟨hk, hnc⟩ := hk
  have hb1 := (Below.refl W.heap.size W).alloc (Nat.le_refl _) (.cells k.cells 26)
  have B1 := Blk.new W 26 k.cells
  have HB1 := Lib.hid hb1
  have HBX := Lib.hid B1
  have HE := Lib.hid (E.below hb1)
  have HK := Lib.hid (hk.below hb1)
  have HBU := Lib.hid (built_any _ (E.below hb1) k (hk.below hb1))
  have HAW := Lib.hid (fun (w : World) (E : Env w) => awake_any w E)
  have HST := Lib.hid (fun (w : World) => store_any k w)
  have HNC := Lib.hid hnc
  have hsz := World.size_alloc W (.cells k.cells 26)
  clear hb1 B1 E hk hnc
  unfold Cs.cells at HB1 HBX HE HK HBU hsz
  unfold Cs.agg at HBU HST ⊢
  unfold StV at HST
  go_enter Tryd.func4, Tryd.ntmps4
  obtain ⟨x0, x1, x2, x3⟩ := cells4K HBX.out
  go_wp2_with fail
  clear x0 x1 x2 x3
  generalize W.alloc (.cells #[.int .i64 k.size, .slice k.A k.n k.c, .slice k.A' k.n' k.c', .int .u32 (k.last : Nat)] 26) = W1 at *
  refine HBU.out.mono ?_
  rintro e w1 (⟨hno, ⟨v, rfl⟩, hb⟩ | ⟨hok, p, g, rfl, L, hws, hrs⟩)
  · have HB2 := Lib.hid (below_top HB1.out hb)
    have HE2 := Lib.hid (HE.out.below hb)
    clear hb hno HBU
    go_wp2_with fail
    refine (HAW.out _ HE2.out).mono ?_
    rintro e w2 ⟨rfl, hb2⟩
    have HB3 := Lib.hid (below_top HB2.out hb2)
    clear hb2
    go_wp2_with fail
    go_ret
    exact ⟨rfl, HB3.out⟩
  · have HL := Lib.hid L
    obtain ⟨l, G⟩ := L.good
    have HG := Lib.hid G
    have HEV := Lib.hid L.envw
    have HB2 := Lib.hid (below_top HB1.out L.below)
    have HX2 := Lib.hid (HBX.out.below L.below HBX.out.lt)
    have HK2 := Lib.hid (HK.out.below L.below)
    have HWS := Lib.hid (And.intro hws hrs)
    have HOK := Lib.hid hok
    clear L G hws hrs hok HBU HBX HE HK
    go_wp2_with fail
    refine (HAW.out _ HEV.out).mono ?_
    rintro e w2 ⟨rfl, hb2⟩
    have HL3 := Lib.hid (HL.out.after hb2)
    have HB3 := Lib.hid (below_top HB2.out hb2)
    have HX3 := Lib.hid (HX2.out.below hb2 HX2.out.lt)
    have HK3 := Lib.hid (HK2.out.below hb2)
    obtain ⟨x0, x1, x2, x3⟩ := cells4K HX3.out
    clear hb2 HB2 HX2 HK2 HL HEV
    go_wp2_with fail
    refine (HST.out _).mono ?_
    rintro e w3 ⟨rfl, hb3⟩
    have HB4 := Lib.hid (below_top HB3.out hb3)
    have HL4 := Lib.hid (HL3.out.after hb3)
    have HX4 := Lib.hid (HX3.out.below hb3 HX3.out.lt)
    have h1 := HK3.out.below hb3
    have HRC := Lib.hid (rcol_any (A := k.A) (A' := k.A') (n := k.n) (n' := k.n') (c := k.c) (c' := k.c') HG.out (by rw [HWS.out.1]; exact h1.hr) (by rw [HWS.out.2]; exact h1.hr') HNC.out)
    unfold StV at HRC
    have hsz1 : k.size = ((colH k.h l).size : Int) := by
      have := HOK.out.1
      show k.size = ((k.size.toNat : Nat) : Int)
      omega
    have HSZ1 := Lib.hid hsz1
    clear hb3 h1 HB3 HX3 HK3 HL3 x0 x1 x2 x3 HAW HST hsz1
    go_wp2_with fail
    refine HRC.out.mono ?_
    rintro e w4 ⟨vw, vr, rfl, how, hor, hb4⟩
    obtain ⟨Aw, cw, hvw⟩ := own_val how
    obtain ⟨Ar, cr, hvr⟩ := own_val hor
    subst hvw hvr
    obtain ⟨x0, x1, x2, x3, x4, hcv⟩ := colV_ints k.h l
    rw [hcv]
    have HCV := Lib.hid hcv
    have HOW := Lib.hid how
    have HOR := Lib.hid hor
    have HB44 := Lib.hid hb4
    clear how hor hb4 HRC hcv
    go_upto_region 5 with fail
    have hb5 := ((Below.refl w4.heap.size w4).alloc (Nat.le_refl _) (.cells #[.slice Aw (colH k.h l).words.length cw, .slice Ar (colH k.h l).roots.length cr] 32)).alloc (by simp) (.cells #[.int .i64 x0, .int .i64 x1, .int .i64 x2, .int .i64 x3, .int .i64 x4] 46)
    have S5 := (Blk.new w4 32 #[.slice Aw (colH k.h l).words.length cw, .slice Ar (colH k.h l).roots.length cr]).alloc (.cells #[.int .i64 x0, .int .i64 x1, .int .i64 x2, .int .i64 x3, .int .i64 x4] 46)
    have C5 := Blk.new (w4.alloc (.cells #[.slice Aw (colH k.h l).words.length cw, .slice Ar (colH k.h l).roots.length cr] 32)) 46 #[.int .i64 x0, .int .i64 x1, .int .i64 x2, .int .i64 x3, .int .i64 x4]
    rw [World.size_alloc] at C5
    have HS5 := Lib.hid S5
    have HC5 := Lib.hid C5
    have HB35 := Lib.hid (below_top HB44.out hb5)
    have HOW5 := Lib.hid (own_below HOW.out hb5)
    have HOR5 := Lib.hid (own_below HOR.out hb5)
    have HX5 := Lib.hid (HX4.out.below HB35.out HX4.out.lt)
    have HL5 := Lib.hid (HL4.out.after HB35.out)
    have hbs : w3.heap.size ≤ w4.heap.size := HB44.out.size
    have HPW := Lib.hid (show ∀ j, p.has j → W.heap.size < j ∧ j < w3.heap.size from fun j hj => ⟨by have := HL4.out.new j hj; omega, HL4.out.at_.lt hj⟩)
    clear hb5 S5 C5 HOW HOR HX4 HB44
    generalize ((w4.alloc (.cells #[.slice Aw (colH k.h l).words.length cw, .slice Ar (colH k.h l).roots.length cr] 32)).alloc (.cells #[.int .i64 x0, .int .i64 x1, .int .i64 x2, .int .i64 x3, .int .i64 x4] 46)) = w5 at *
    generalize hb5e : w4.heap.size = b5 at *
    have HC := Lib.hid (show ∀ w' : World, (∀ j, j = W.heap.size ∨ j = b5 ∨ j = b5 + 1 → w'.heap[j]? = w5.heap[j]?) → w'.cell? ⟨W.heap.size, 0, none⟩ = some (.int .i64 k.size) ∧ w'.cell? ⟨W.heap.size, 1, none⟩ = some (.slice k.A k.n k.c) ∧ w'.cell? ⟨W.heap.size, 2, none⟩ = some (.slice k.A' k.n' k.c') ∧ w'.cell? ⟨W.heap.size, 3, none⟩ = some (.int .u32 (k.last : Nat)) ∧ w'.cell? ⟨b5, 0, none⟩ = some (.slice Aw (colH k.h l).words.length cw) ∧ w'.cell? ⟨b5, 1, none⟩ = some (.slice Ar (colH k.h l).roots.length cr) ∧ w'.cell? ⟨b5 + 1, 0, none⟩ = some (.int .i64 x0) ∧ w'.cell? ⟨b5 + 1, 1, none⟩ = some (.int .i64 x1) ∧ w'.cell? ⟨b5 + 1, 2, none⟩ = some (.int .i64 x2) ∧ w'.cell? ⟨b5 + 1, 3, none⟩ = some (.int .i64 x3) ∧ w'.cell? ⟨b5 + 1, 4, none⟩ = some (.int .i64 x4) from fun w' hs => by
      have h1 := HX5.out.same (hs _ (.inl rfl))
      have h2 := HS5.out.same (hs _ (.inr (.inl rfl)))
      have h3 := HC5.out.same (hs _ (.inr (.inr rfl)))
      exact ⟨h1.cell 0, h1.cell 1, h1.cell 2, h1.cell 3, h2.cell 0, h2.cell 1, h3.cell 0, h3.cell 1, h3.cell 2, h3.cell 3, h3.cell 4⟩)
    have hS0 := HC.out w5 (fun _ _ => rfl)
    have hSd := HC.out w5.drew (fun _ _ => rfl)
    have HCO := Lib.hid (show Calls Tryd.prog 22 #[.pointer (some ⟨g, 0, none⟩)] w5.drew (Done W1 p g (colH k.h l) (.agg #[.int .i64 x0, .int .i64 x1, .int .i64 x2, .int .i64 x3, .int .i64 x4]) w5.drew) from by
      have := (HL5.out.after (below_drew (Below.refl _ _))).collect HG.out
      rw [HCV.out] at this
      exact this)
    have HIS := Lib.hid (fun (w6 : World) (p' : HP) (L6 : Live W1 w6 p' g (colH k.h l)) (st : Step p p' w5.drew w6) => by
      have ho : w6.ownsRow w3.heap.size 24 1 (.slice Aw (colH k.h l).words.length cw) (colH k.h l).words.length (u32s (colH k.h l).words) := own_keep HOW5.out (fun q hq => st.block q (HOW5.out.lt q hq).2 (fun e => by have h1 := HPW.out q e; have h2 := (HOW5.out.lt q hq).1; omega))
      have hr : w6.ownsRow w3.heap.size 41 1 (.slice Ar (colH k.h l).roots.length cr) (colH k.h l).roots.length (u32s (colH k.h l).roots) := own_keep HOR5.out (fun q hq => st.block q (HOR5.out.lt q hq).2 (fun e => by have h1 := HPW.out q e; have h2 := (HOR5.out.lt q hq).1; omega))
      have hw := own_readsV ho
      have hr' := own_readsV hr
      exact is_yes L6 k HSZ1.out rfl Aw (colH k.h l).words.length cw hw.2 hw.1 Ar (colH k.h l).roots.length cr hr'.2 hr'.1)
    have hjl : ∀ j, j = W.heap.size ∨ j = b5 ∨ j = b5 + 1 → j < w5.drew.heap.size := fun j hj => by
      rcases hj with rfl | rfl | rfl
      · exact HX5.out.lt
      · exact HS5.out.lt
      · exact HC5.out.lt
    have HSA := Lib.hid (fun (w6 : World) (p' : HP) (st : Step p p' w5.drew w6) (w7 : World) (hb : Below w6.heap.size w6 w7) => HC.out w7 (fun j hj => (hb.block j (Nat.lt_of_lt_of_le (hjl j hj) st.size)).trans <| st.block j (hjl j hj) (fun e => by have := HPW.out j e; omega)))
    unfold StV Cs.agg at HIS
    clear HC hjl
    go_region_held3 (fun w' => w'.cell? ⟨W.heap.size, 0, none⟩ = some (.int .i64 k.size) ∧ w'.cell? ⟨W.heap.size, 1, none⟩ = some (.slice k.A k.n k.c) ∧ w'.cell? ⟨W.heap.size, 2, none⟩ = some (.slice k.A' k.n' k.c') ∧ w'.cell? ⟨W.heap.size, 3, none⟩ = some (.int .u32 (k.last : Nat)) ∧ w'.cell? ⟨b5, 0, none⟩ = some (.slice Aw (colH k.h l).words.length cw) ∧ w'.cell? ⟨b5, 1, none⟩ = some (.slice Ar (colH k.h l).roots.length cr) ∧ w'.cell? ⟨b5 + 1, 0, none⟩ = some (.int .i64 x0) ∧ w'.cell? ⟨b5 + 1, 1, none⟩ = some (.int .i64 x1) ∧ w'.cell? ⟨b5 + 1, 2, none⟩ = some (.int .i64 x2) ∧ w'.cell? ⟨b5 + 1, 3, none⟩ = some (.int .i64 x3) ∧ w'.cell? ⟨b5 + 1, 4, none⟩ = some (.int .i64 x4))
      (first | exact hS0 | exact hSd | exact hS6 | exact hS7 | go_keep)
      (first
        | (go_at_call 22; refine HCO.out.mono ?_; rintro e w6 ⟨p', rfl, hL6, hst6⟩; have hS6 := HSA.out w6 p' hst6 w6 (Below.refl _ _))
        | (go_at_call 20; refine (HIS.out w6 p' hL6 hst6).mono ?_; rintro e w7 ⟨rfl, hb7⟩; have hS7 := HSA.out w6 p' hst6 w7 hb7))
    have HF := Lib.hid (HB1.out.trans ((hL6.below.trans (hb7.mono hL6.below.size)).mono (show W.heap.size ≤ W1.heap.size by omega)))
    clear hS0 hSd hS6 hS7
    go_wp2_with fail
    go_ret
    exact ⟨rfl, HF.out⟩
end Go.Proofs.YtblekggklimpeaaDoor

namespace Go.Proofs.YtblekggklimpeaaDoor
open Go.RowKit
/-- The objects met, in their order; one more. -/
def addX (X : List Nat) (p : Nat) : List Nat := if kindM p = 2 ∧ p ∉ X then X ++ [p] else X
/-- The table of where each goes, and of what is taken. -/
def toTL (go : Nat → Nat) (X : List Nat) (N : Nat) : List Nat := (List.range N).map (fun i => if 2 * i ∈ X then go (2 * i) else 0)
def bkTL (Y : List Nat) (M : Nat) : List Bool := (List.range M).map (fun j => decide (2 * j ∈ Y))
theorem toTL_get {go : Nat → Nat} {X : List Nat} {N i : Nat} (hi : i < N) : (toTL go X N)[i]? = some (if 2 * i ∈ X then go (2 * i) else 0) := by
  unfold toTL
  rw [List.getElem?_map, List.getElem?_range hi]
  rfl
theorem bkTL_get {Y : List Nat} {M j : Nat} (hj : j < M) : (bkTL Y M)[j]? = some (decide (2 * j ∈ Y)) := by
  unfold bkTL
  rw [List.getElem?_map, List.getElem?_range hj]
  rfl
theorem toTL_len (go : Nat → Nat) (X : List Nat) (N : Nat) : (toTL go X N).length = N := by unfold toTL; simp
theorem bkTL_len (Y : List Nat) (M : Nat) : (bkTL Y M).length = M := by unfold bkTL; simp
theorem toTL_set {go : Nat → Nat} {X : List Nat} {N i : Nat} (hi : i < N) : (toTL go X N).set i (go (2 * i)) = toTL go (X ++ [2 * i]) N := by
  apply List.ext_getElem?
  intro j
  rw [List.getElem?_set]
  by_cases hij : i = j
  · subst hij
    rw [if_pos rfl, if_pos (by rw [toTL_len]; exact hi), toTL_get hi, if_pos (by simp)]
  · rw [if_neg hij]
    by_cases hj : j < N
    · rw [toTL_get hj, toTL_get hj]
      have : (2 * j ∈ X ++ [2 * i]) ↔ 2 * j ∈ X := by
        rw [List.mem_append, List.mem_singleton]
        exact ⟨fun h => h.elim id (fun h => by omega), .inl⟩
      simp only [this]
    · rw [List.getElem?_eq_none (by rw [toTL_len]; omega), List.getElem?_eq_none (by rw [toTL_len]; omega)]
theorem bkTL_set {Y : List Nat} {M j : Nat} (hj : j < M) : (bkTL Y M).set j true = bkTL (Y ++ [2 * j]) M := by
  apply List.ext_getElem?
  intro i
  rw [List.getElem?_set]
  by_cases hij : j = i
  · subst hij
    rw [if_pos rfl, if_pos (by rw [bkTL_len]; exact hj), bkTL_get hj]
    simp
  · rw [if_neg hij]
    by_cases hi : i < M
    · rw [bkTL_get hi, bkTL_get hi]
      have : (2 * i ∈ Y ++ [2 * j]) ↔ 2 * i ∈ Y := by
        rw [List.mem_append, List.mem_singleton]
        exact ⟨fun h => h.elim id (fun h => by omega), .inl⟩
      simp only [this]
    · rw [List.getElem?_eq_none (by rw [bkTL_len]; omega), List.getElem?_eq_none (by rw [bkTL_len]; omega)]
/-- Where alike's blocks lie: the boxes of to, back, x, y; the rows of to and back. -/
structure AkB where
  bT : Nat
  bB : Nat
  bX : Nat
  bY : Nat
  gT : Nat
  gB : Nat
structure AkAt (w : World) (B : Nat) (x : AkB) (vx vy : Value) (tl : List Nat) (bl : List Bool) (xs ys : List Nat) : Prop where
  boxT : Blk w x.bT 23 #[.slice (some ⟨x.gT, 0, none⟩) tl.length tl.length]
  boxB : Blk w x.bB 95 #[.slice (some ⟨x.gB, 0, none⟩) bl.length bl.length]
  boxX : Blk w x.bX 23 #[vx]
  boxY : Blk w x.bY 23 #[vy]
  rt : Row w x.gT 41 tl.length (u32s tl)
  bk : Row w x.gB 4 bl.length (bools bl)
  rx : w.ownsRow B 41 1 vx xs.length (u32s xs)
  ry : w.ownsRow B 41 1 vy ys.length (u32s ys)
  hB : B ≤ x.bT ∧ B ≤ x.bB ∧ B ≤ x.bX ∧ B ≤ x.bY ∧ B ≤ x.gT ∧ B ≤ x.gB
  ne1 : x.bT ≠ x.bX ∧ x.bT ≠ x.bY ∧ x.bX ≠ x.bY
  neX : vx.ownBlock ≠ some x.gT
  neY : vy.ownBlock ≠ some x.gT
  neR : ∀ k, vx.ownBlock = some k → vy.ownBlock ≠ some k
/-- What a deed with it keeps: what was there ahead, and copies of headers. -/
structure AkFr (B : Nat) (w w' : World) : Prop where
  low : Below B w w'
  hdr : ∀ k cs, Blk w k 56 cs → Blk w' k 56 cs
theorem AkFr.trans {B : Nat} {a b c : World} (h : AkFr B a b) (k : AkFr B b c) : AkFr B a c := ⟨h.low.trans k.low, fun i cs hb => k.hdr i cs (h.hdr i cs hb)⟩
theorem AkFr.of_below {B : Nat} {a b : World} (hB : B ≤ a.heap.size) (h : Below a.heap.size a b) : AkFr B a b := ⟨h.mono hB, fun k cs hb => hb.below h hb.lt⟩
section
variable {w w' w3 : World} {B : Nat} {x : AkB} {vx vy : Value} {tl : List Nat} {bl : List Bool} {xs ys : List Nat}
theorem AkAt.below (K : AkAt w B x vx vy tl bl xs ys) (hb : Below w.heap.size w w') : AkAt w' B x vx vy tl bl xs ys :=
  ⟨K.boxT.below hb K.boxT.lt, K.boxB.below hb K.boxB.lt, K.boxX.below hb K.boxX.lt, K.boxY.below hb K.boxY.lt, K.rt.same (hb.block _ K.rt.lt), K.bk.same (hb.block _ K.bk.lt), own_below K.rx hb, own_below K.ry hb, K.hB, K.ne1, K.neX, K.neY, K.neR⟩
/-- A cell of a block that is none of the rows' and boxes' but one. -/
theorem Blk.off {g : Nat} {t : TypeId} {cs : Array Value} (h : Blk w g t cs) {k : Nat} (hk : g ≠ k) (i : Nat) (u : Value) : Blk (w.setCell ⟨k, i, none⟩ u) g t cs := h.same (Below.heap_setCell w ⟨k, i, none⟩ u g hk)
theorem Row.off {g c : Nat} {e : TypeId} {zs : List Value} (h : Row w g e c zs) {k : Nat} (hk : g ≠ k) (i : Nat) (u : Value) : Row (w.setCell ⟨k, i, none⟩ u) g e c zs := h.same (Below.heap_setCell w ⟨k, i, none⟩ u g hk)
theorem own_off {e : TypeId} {n : Nat} {v : Value} {zs : List Value} (h : w.ownsRow B e 1 v n zs) {k : Nat} (hk : v.ownBlock ≠ some k) (i : Nat) (u : Value) : (w.setCell ⟨k, i, none⟩ u).ownsRow B e 1 v n zs :=
  own_keep h (fun q hq => Below.heap_setCell w ⟨k, i, none⟩ u q (fun e => hk (by rw [hq, e])))
theorem own_ne_row {e t : TypeId} {n g c : Nat} {v : Value} {zs zs' : List Value} (h : w.ownsRow B e 1 v n zs) (r : Row w g t c zs') (hne : e ≠ t) : v.ownBlock ≠ some g := by
  obtain ⟨cur, hb, _⟩ := r
  exact own_ne_blk h hb hne
theorem AkAt.setT (K : AkAt w B x vx vy tl bl xs ys) {i v : Nat} (hi : i < tl.length) :
    AkAt (w.setCell ⟨x.gT, i, none⟩ (.int .u32 (v : Nat))) B x vx vy (tl.set i v) bl xs ys ∧ AkFr B w (w.setCell ⟨x.gT, i, none⟩ (.int .u32 (v : Nat))) := by
  have n1 := K.rt.ne_blk K.boxT (by decide)
  have n2 := K.rt.ne_blk K.boxB (by decide)
  have n3 := K.rt.ne_blk K.boxX (by decide)
  have n4 := K.rt.ne_blk K.boxY (by decide)
  have n5 : x.gB ≠ x.gT := by
    obtain ⟨cur, hb, _⟩ := K.bk
    exact fun e => K.rt.ne_blk hb (by decide) e.symm
  have hr := K.rt.set i (.int .u32 (v : Nat))
  refine ⟨⟨by rw [List.length_set]; exact K.boxT.off n1.symm _ _, K.boxB.off n2.symm _ _, K.boxX.off n3.symm _ _, K.boxY.off n4.symm _ _, ?_, K.bk.off n5 _ _, own_off K.rx K.neX _ _, own_off K.ry K.neY _ _, K.hB, K.ne1, K.neX, K.neY, K.neR⟩, ?_, fun k cs hb => hb.off (fun e => by subst e; exact K.rt.ne_blk hb (by decide) rfl) _ _⟩
  · have e : u32s (tl.set i v) = (u32s tl).set i (.int .u32 (v : Nat)) := by unfold u32s; rw [List.map_set]
    rw [e, List.length_set]
    exact hr
  · exact Below.setCell (Below.refl _ _) (p := _) K.hB.2.2.2.2.1 _
theorem AkAt.setB (K : AkAt w B x vx vy tl bl xs ys) {i : Nat} (hi : i < bl.length) :
    AkAt (w.setCell ⟨x.gB, i, none⟩ (.bool true)) B x vx vy tl (bl.set i true) xs ys ∧ AkFr B w (w.setCell ⟨x.gB, i, none⟩ (.bool true)) := by
  have n1 := K.bk.ne_blk K.boxT (by decide)
  have n2 := K.bk.ne_blk K.boxB (by decide)
  have n3 := K.bk.ne_blk K.boxX (by decide)
  have n4 := K.bk.ne_blk K.boxY (by decide)
  have n5 : x.gT ≠ x.gB := by
    obtain ⟨cur, hb, _⟩ := K.bk
    exact K.rt.ne_blk hb (by decide)
  have hr := K.bk.set i (.bool true)
  refine ⟨⟨K.boxT.off n1.symm _ _, by rw [List.length_set]; exact K.boxB.off n2.symm _ _, K.boxX.off n3.symm _ _, K.boxY.off n4.symm _ _, K.rt.off n5 _ _, ?_, own_off K.rx (own_ne_row K.rx K.bk (by decide)) _ _, own_off K.ry (own_ne_row K.ry K.bk (by decide)) _ _, K.hB, K.ne1, K.neX, K.neY, K.neR⟩, ?_, fun k cs hb => hb.off (fun e => by subst e; exact K.bk.ne_blk hb (by decide) rfl) _ _⟩
  · have e : bools (bl.set i true) = (bools bl).set i (.bool true) := by unfold bools; rw [List.map_set]
    rw [e, List.length_set]
    exact hr
  · exact Below.setCell (Below.refl _ _) (p := _) K.hB.2.2.2.2.2 _
theorem AkAt.bxX (K : AkAt w B x vx vy tl bl xs ys) {p : Nat} (hg : (w.alloc (.cells #[.int .u32 (p : Int)] 41)).grownBy w3 vx.ownBlock) : Blk w3 x.bX 23 #[vx] :=
  K.boxX.same ((hg.block _ (by have := K.boxX.lt; simp; omega) (fun e => own_ne_blk K.rx K.boxX (by decide) e.symm)).trans (Below.heap_alloc w _ _ K.boxX.lt))
theorem AkAt.bxY (K : AkAt w B x vx vy tl bl xs ys) {p : Nat} (hg : (w.alloc (.cells #[.int .u32 (p : Int)] 41)).grownBy w3 vy.ownBlock) : Blk w3 x.bY 23 #[vy] :=
  K.boxY.same ((hg.block _ (by have := K.boxY.lt; simp; omega) (fun e => own_ne_blk K.ry K.boxY (by decide) e.symm)).trans (Below.heap_alloc w _ _ K.boxY.lt))
/-- x = append(x, p). -/
theorem AkAt.pushX (K : AkAt w B x vx vy tl bl xs ys) (hz : B ≤ w.heap.size) {p c : Nat} {A : Option Addr} (hown : w3.ownsRow B 41 1 (.slice A (xs.length + 1) c) (xs.length + 1) (u32s xs ++ u32s [p]))
    (hg : (w.alloc (.cells #[.int .u32 (p : Int)] 41)).grownBy w3 vx.ownBlock) (hat : (Value.slice A (xs.length + 1) c).ownBlock = vx.ownBlock ∨ (Value.slice A (xs.length + 1) c).ownBlock = some (w.alloc (.cells #[.int .u32 (p : Int)] 41)).heap.size) :
    AkAt (w3.setCell ⟨x.bX, 0, none⟩ (.slice A (xs.length + 1) c)) B x (.slice A (xs.length + 1) c) vy tl bl (xs ++ [p]) ys ∧ AkFr B w (w3.setCell ⟨x.bX, 0, none⟩ (.slice A (xs.length + 1) c)) := by
  have hsz : w.heap.size < w3.heap.size := Nat.lt_of_lt_of_le (by simp) hg.size
  have hbl : ∀ k, k < w.heap.size → vx.ownBlock ≠ some k → w3.heap[k]? = w.heap[k]? := fun k hk hn => (hg.block k (by simp; omega) (fun e => hn e.symm)).trans (Below.heap_alloc w _ k hk)
  have o1 := own_ne_blk K.rx K.boxT (by decide)
  have o2 := own_ne_blk K.rx K.boxB (by decide)
  have o3 := own_ne_blk K.rx K.boxX (by decide)
  have o4 := own_ne_blk K.rx K.boxY (by decide)
  have o6 := own_ne_row K.rx K.bk (by decide)
  have bT := K.boxT.same (hbl _ K.boxT.lt o1)
  have bB := K.boxB.same (hbl _ K.boxB.lt o2)
  have bX := K.boxX.same (hbl _ K.boxX.lt o3)
  have bY := K.boxY.same (hbl _ K.boxY.lt o4)
  have rT := K.rt.same (hbl _ K.rt.lt K.neX)
  have rB := K.bk.same (hbl _ K.bk.lt o6)
  have ry := own_keep K.ry (fun k hk => hbl k (K.ry.lt k hk).2 (fun e => K.neR k e hk))
  have hnew : ∀ k, k < w.heap.size → (Value.slice A (xs.length + 1) c).ownBlock = some k → vx.ownBlock = some k := fun k hk e => by
    rcases hat with h | h
    · rw [← h]; exact e
    · rw [h] at e
      injection e with e
      simp at e
      omega
  have hown' : w3.ownsRow B 41 1 (.slice A (xs.length + 1) c) (xs ++ [p]).length (u32s (xs ++ [p])) := by
    rw [u32s_app, List.length_append]
    exact hown
  refine ⟨⟨bT.off K.ne1.1 _ _, bB.off (bB.ne_ bX (by decide)) _ _, bX.set_ 0 _, bY.off (fun e => K.ne1.2.2 e.symm) _ _, rT.off (rT.ne_blk bX (by decide)) _ _, rB.off (rB.ne_blk bX (by decide)) _ _, own_off hown' (own_ne_blk hown' bX (by decide)) _ _, own_off ry (own_ne_blk ry bX (by decide)) _ _, K.hB, K.ne1, fun e => K.neX (hnew _ K.rt.lt e), K.neY, fun k e e2 => K.neR k (hnew k (K.ry.lt k e2).2 e) e2⟩, ?_, fun k cs hb => ?_⟩
  · refine Below.setCell (p := _) (show Below B w w3 from ⟨hg.os, hg.tape, hg.output, Nat.le_of_lt hsz, fun k hk => hbl k (by omega) (fun e => by have := (K.rx.lt k e).1; omega)⟩) K.hB.2.2.1 _
  · have h1 := hb.same (hbl k hb.lt (own_ne_blk K.rx hb (by decide)))
    exact h1.off (h1.ne_ bX (by decide)) _ _
/-- y = append(y, p). -/
theorem AkAt.pushY (K : AkAt w B x vx vy tl bl xs ys) (hz : B ≤ w.heap.size) {p c : Nat} {A : Option Addr} (hown : w3.ownsRow B 41 1 (.slice A (ys.length + 1) c) (ys.length + 1) (u32s ys ++ u32s [p]))
    (hg : (w.alloc (.cells #[.int .u32 (p : Int)] 41)).grownBy w3 vy.ownBlock) (hat : (Value.slice A (ys.length + 1) c).ownBlock = vy.ownBlock ∨ (Value.slice A (ys.length + 1) c).ownBlock = some (w.alloc (.cells #[.int .u32 (p : Int)] 41)).heap.size) :
    AkAt (w3.setCell ⟨x.bY, 0, none⟩ (.slice A (ys.length + 1) c)) B x vx (.slice A (ys.length + 1) c) tl bl xs (ys ++ [p]) ∧ AkFr B w (w3.setCell ⟨x.bY, 0, none⟩ (.slice A (ys.length + 1) c)) := by
  have hsz : w.heap.size < w3.heap.size := Nat.lt_of_lt_of_le (by simp) hg.size
  have hbl : ∀ k, k < w.heap.size → vy.ownBlock ≠ some k → w3.heap[k]? = w.heap[k]? := fun k hk hn => (hg.block k (by simp; omega) (fun e => hn e.symm)).trans (Below.heap_alloc w _ k hk)
  have o1 := own_ne_blk K.ry K.boxT (by decide)
  have o2 := own_ne_blk K.ry K.boxB (by decide)
  have o3 := own_ne_blk K.ry K.boxX (by decide)
  have o4 := own_ne_blk K.ry K.boxY (by decide)
  have o6 := own_ne_row K.ry K.bk (by decide)
  have bT := K.boxT.same (hbl _ K.boxT.lt o1)
  have bB := K.boxB.same (hbl _ K.boxB.lt o2)
  have bX := K.boxX.same (hbl _ K.boxX.lt o3)
  have bY := K.boxY.same (hbl _ K.boxY.lt o4)
  have rT := K.rt.same (hbl _ K.rt.lt K.neY)
  have rB := K.bk.same (hbl _ K.bk.lt o6)
  have rx := own_keep K.rx (fun k hk => hbl k (K.rx.lt k hk).2 (fun e => K.neR k hk e))
  have hnew : ∀ k, k < w.heap.size → (Value.slice A (ys.length + 1) c).ownBlock = some k → vy.ownBlock = some k := fun k hk e => by
    rcases hat with h | h
    · rw [← h]; exact e
    · rw [h] at e
      injection e with e
      simp at e
      omega
  have hown' : w3.ownsRow B 41 1 (.slice A (ys.length + 1) c) (ys ++ [p]).length (u32s (ys ++ [p])) := by
    rw [u32s_app, List.length_append]
    exact hown
  refine ⟨⟨bT.off K.ne1.2.1 _ _, bB.off (bB.ne_ bY (by decide)) _ _, bX.off K.ne1.2.2 _ _, bY.set_ 0 _, rT.off (rT.ne_blk bY (by decide)) _ _, rB.off (rB.ne_blk bY (by decide)) _ _, own_off rx (own_ne_blk rx bY (by decide)) _ _, own_off hown' (own_ne_blk hown' bY (by decide)) _ _, K.hB, K.ne1, K.neX, fun e => K.neY (hnew _ K.rt.lt e), fun k e e2 => K.neR k e (hnew k (K.rx.lt k e).2 e2)⟩, ?_, fun k cs hb => ?_⟩
  · refine Below.setCell (p := _) (show Below B w w3 from ⟨hg.os, hg.tape, hg.output, Nat.le_of_lt hsz, fun k hk => hbl k (by omega) (fun e => by have := (K.ry.lt k e).1; omega)⟩) K.hB.2.2.2.1 _
  · have h1 := hb.same (hbl k hb.lt (own_ne_blk K.ry hb (by decide)))
    exact h1.off (h1.ne_ bY (by decide)) _ _
end
end Go.Proofs.YtblekggklimpeaaDoor

namespace Go.Proofs.YtblekggklimpeaaDoor
open Go.RowKit Go.Sort
attribute [local go_sem] Oper.semAt_some
/-- What pair answers. -/
def PairP (B : Nat) (x : AkB) (go : Nat → Nat) (N M : Nat) (X : List Nat) (w : World) (e : Ending) (w' : World) : Prop :=
  e = .returned (.bool true) ∧ AkFr B w w' ∧ ∃ vx vy, AkAt w' B x vx vy (toTL go X N) (bkTL (X.map go) M) X (X.map go)
theorem kind2_even {p : Nat} (h : kindM p = 2) : p = 2 * (p / 2) ∧ p ≠ 0 := by
  unfold kindM at h
  split at h
  · cases h
  · split at h
    · cases h
    · omega
theorem u32s_get' {l : List Nat} {i v : Nat} (h : l[i]? = some v) : (u32s l)[i]? = some (.int .u32 (v : Nat)) := by
  unfold u32s
  rw [List.getElem?_map, h]
  rfl
theorem bools_get' {l : List Bool} {i : Nat} {v : Bool} (h : l[i]? = some v) : (bools l)[i]? = some (.bool v) := by
  unfold bools
  rw [List.getElem?_map, h]
  rfl
section
variable {w : World} {B : Nat} {x : AkB} {vx vy : Value} {go : Nat → Nat} {X : List Nat} {N M : Nat}
set_option maxRecDepth 100000 in
set_option maxHeartbeats 8000000 in
theorem pair_any (K : AkAt w B x vx vy (toTL go X N) (bkTL (X.map go) M) X (X.map go)) (hB : B ≤ w.heap.size) {p q : Nat} (hp : p < 4294967296) (hq : q = if kindM p = 2 then go p else p)
    (hk : kindM p = 2 → p / 2 < N ∧ kindM (go p) = 2 ∧ go p / 2 < M ∧ (p ∉ X → go p ∉ X.map go) ∧ go p < 4294967296) (hN : N ≤ 1048577) (hM : M ≤ 1048577) (hX : X.length ≤ 1048576) :
    Calls Tryd.prog 70 #[.int .u32 p, .int .u32 q, .pointer (some ⟨x.bT, 0, none⟩), .pointer (some ⟨x.bB, 0, none⟩), .pointer (some ⟨x.bX, 0, none⟩), .pointer (some ⟨x.bY, 0, none⟩)] w (PairP B x go N M (addX X p) w) := by
  have HK1 := Lib.hid (rkind_any p hp w)
  by_cases hkp : kindM p = 2
  rotate_left
  · rw [if_neg hkp] at hq
    obtain rfl : p = q := hq.symm
    have hne : ((kindM p : Int) != 2) = true := by simp; omega
    have HF := Lib.hid (show PairP B x go N M (addX X p) w (.returned (.bool true)) w from by
      unfold addX
      rw [if_neg (fun h => hkp h.1)]
      exact ⟨rfl, ⟨Below.refl _ _, fun _ _ h => h⟩, _, _, K⟩)
    clear K hkp hk
    generalize kindM p = kp at *
    go_enter Tryd.func70, Tryd.ntmps70
    go_wp2_with fail
    refine HK1.out.mono ?_
    rintro e w1 ⟨rfl, rfl⟩
    go_wp2_with fail
    go_ret
    exact HF.out
  · rw [if_pos hkp] at hq
    subst hq
    obtain ⟨h1, h2, h3, h4, h5⟩ := hk hkp
    have HK2 := Lib.hid (rkind_any (go p) h5 w)
    obtain ⟨ep, np⟩ := kind2_even hkp
    obtain ⟨eq, nq⟩ := kind2_even h2
    rw [hkp] at HK1
    rw [h2] at HK2
    have hK1 : Calls Tryd.prog 27 #[.int .u32 p] w fun e w' => e = .returned (.int .i64 2) ∧ w = w' := HK1.out
    have hK2 : Calls Tryd.prog 27 #[.int .u32 (go p : Nat)] w fun e w' => e = .returned (.int .i64 2) ∧ w = w' := HK2.out
    clear HK1 HK2
    have HK1 := Lib.hid hK1
    have HK2 := Lib.hid hK2
    clear hK1 hK2
    have HA : addX X p = if p ∈ X then X else X ++ [p] := by
      unfold addX
      by_cases hm : p ∈ X
      · rw [if_neg (fun h => h.2 hm), if_pos hm]
      · rw [if_pos ⟨hkp, hm⟩, if_neg hm]
    have h5' := h5
    have hg0 := toTL_get (go := go) (X := X) h1
    have hb0 := bkTL_get (Y := X.map go) h3
    have hs0 := toTL_set (go := go) (X := X) h1
    have hs1 := bkTL_set (Y := X.map go) h3
    rw [← ep] at hg0 hs0
    rw [← eq] at hb0 hs1
    have hi : p / 2 ≤ 1048576 := by omega
    have hj : go p / 2 ≤ 1048576 := by omega
    generalize hgi : p / 2 = i at *
    generalize hgj : go p / 2 = j at *
    have HGP := Lib.hid (show (X ++ [p]).map go = X.map go ++ [go p] by rw [List.map_append]; rfl)
    generalize hgq : go p = q at *
    have hq1 : ((p : Nat) : Int).tdiv 2 = (i : Int) := by rw [ep]; exact tdiv2q i
    have hq2 : ((p : Nat) : Int) / 2 = (i : Int) := by omega
    have hr1 : ((q : Nat) : Int).tdiv 2 = (j : Int) := by rw [eq]; exact tdiv2q j
    have hr2 : ((q : Nat) : Int) / 2 = (j : Int) := by omega
    have hwu := wrU hi
    have hwi := wrI hi
    have hwk := wrK hi
    have hwu' := wrU hj
    have hwi' := wrI hj
    have hwk' := wrK hj
    have HKA := Lib.hid K
    have HE := Lib.hid (And.intro ep eq)
    have HHA := Lib.hid HA
    have ltN := toTL_len go X N
    have ltM := bkTL_len (X.map go) M
    have x0 := K.boxT.cell 0
    have x1 := K.boxB.cell 0
    rw [ltN] at x0
    rw [ltM] at x1
    have HLT := Lib.hid (And.intro ltN ltM)
    have HQ4 := Lib.hid h4
    have HIJ := Lib.hid (And.intro h1 h3)
    have HS := Lib.hid (And.intro hs0 hs1)
    have HNQ := Lib.hid (And.intro np nq)
    have HXL := Lib.hid hX
    clear K hk HA hgq hgi hgj hkp h2 ep eq h4 ltN ltM hs0 hs1 h5' np nq hX hN hM hi hj h1 h3
    by_cases hm : p ∈ X
    · rw [if_pos hm] at hg0
      rw [if_pos hm] at HHA
      have c0 := HKA.out.rt.cell (u32s_get' hg0)
      have hne : ((q : Int) != 0) = true := by have := HNQ.out.2; simp; omega
      have HF := Lib.hid (show PairP B x go N M (addX X p) w (.returned (.bool true)) w from by
        rw [HHA.out]
        exact ⟨rfl, ⟨Below.refl _ _, fun _ _ h => h⟩, _, _, HKA.out⟩)
      clear hm HHA hg0 hb0
      go_enter Tryd.func70, Tryd.ntmps70
      go_wp2_with fail
      refine HK1.out.mono ?_
      rintro e w1 ⟨rfl, rfl⟩
      go_wp2_with fail
      refine HK2.out.mono ?_
      rintro e w1 ⟨rfl, rfl⟩
      go_upto_region 4 with fail
      clear hq1 hq2 hr1 hr2 hwu hwi hwu' hwi'
      have h1 := HIJ.out.1
      have h3 := HIJ.out.2
      go_wp2_with fail
      go_ret
      exact HF.out
    · rw [if_neg hm] at hg0
      rw [if_neg hm] at HHA
      rw [decide_eq_false (HQ4.out hm)] at hb0
      have c0 := HKA.out.rt.cell (u32s_get' hg0)
      have hne : ((0 : Int) != 0) = false := by decide
      have c1 := HKA.out.bk.cell (bools_get' hb0)
      have HCC := Lib.hid (And.intro hg0 hb0)
      clear hm hg0 hb0 hne
      obtain ⟨i0, hi0, hz0, hz1, hz2⟩ := info_parts info_oop
      go_enter Tryd.func70, Tryd.ntmps70
      go_wp2_with fail
      refine HK1.out.mono ?_
      rintro e w1 ⟨rfl, rfl⟩
      go_wp2_with fail
      refine HK2.out.mono ?_
      rintro e w1 ⟨rfl, rfl⟩
      go_upto_region 4 with fail
      clear hq1 hq2 hr1 hr2 hwu hwi hwu' hwi'
      have h1 := HIJ.out.1
      have h3 := HIJ.out.2
      go_upto_region 8 with fail
      refine wp_region_U 8 (fun w' => w'.cell? ⟨x.bT, 0, none⟩ = some (.slice (some ⟨x.gT, 0, none⟩) N N) ∧ w'.cell? ⟨x.bB, 0, none⟩ = some (.slice (some ⟨x.gB, 0, none⟩) M M)) (by kernel_rfl) ?_
      have hS : w.drew.cell? ⟨x.bT, 0, none⟩ = some (.slice (some ⟨x.gT, 0, none⟩) N N) ∧ w.drew.cell? ⟨x.bB, 0, none⟩ = some (.slice (some ⟨x.gB, 0, none⟩) M M) := ⟨x0, x1⟩
      have KQ := HKA.out.below (below_drew (Below.refl w.heap.size w))
      have FQ := AkFr.of_below hB (below_drew (Below.refl w.heap.size w))
      have hzq : w.drew.heap.size = w.heap.size := rfl
      clear x0 x1 c0 c1 HKA
      generalize w.drew = wq at *
      obtain ⟨K1, F1⟩ := KQ.setT (i := i) (v := q) (by rw [HLT.out.1]; exact HIJ.out.1)
      obtain ⟨K2, F2⟩ := K1.setB (i := j) (by rw [HLT.out.2]; exact HIJ.out.2)
      have c0 := KQ.rt.cell (u32s_get' HCC.out.1)
      have z0 := KQ.rt.frozen i
      have c1 := K1.bk.cell (bools_get' HCC.out.2)
      have z1 := K1.bk.frozen j
      have HS1 := Lib.hid (show (wq.setCell ⟨x.gT, i, none⟩ (.int .u32 (q : Nat))).cell? ⟨x.bT, 0, none⟩ = some (.slice (some ⟨x.gT, 0, none⟩) N N) ∧ (wq.setCell ⟨x.gT, i, none⟩ (.int .u32 (q : Nat))).cell? ⟨x.bB, 0, none⟩ = some (.slice (some ⟨x.gB, 0, none⟩) M M) from by
        have a1 := K1.boxT.cell 0
        have a2 := K1.boxB.cell 0
        rw [HS.out.1, toTL_len] at a1
        rw [HLT.out.2] at a2
        exact ⟨a1, a2⟩)
      rw [HS.out.1, HS.out.2] at K2
      have HK3 := Lib.hid K2
      have HF3 := Lib.hid (FQ.trans (F1.trans F2))
      have hz : ((wq.setCell ⟨x.gT, i, none⟩ (.int .u32 (q : Nat))).setCell ⟨x.gB, j, none⟩ (.bool true)).heap.size = wq.heap.size := by simp [World.setCell]
      have hB3 : B ≤ ((wq.setCell ⟨x.gT, i, none⟩ (.int .u32 (q : Nat))).setCell ⟨x.gB, j, none⟩ (.bool true)).heap.size := by rw [hz]; exact Nat.le_trans hB (Nat.le_of_eq hzq.symm)
      clear K1 F1 K2 F2 KQ FQ hz hzq
      refine U_read 0 (v := (.slice (some ⟨x.gT, 0, none⟩) N N)) rfl (by kernel_rfl) (fun _ _ _ h => h) hS (by rfl) (fun w' hw' => by obtain ⟨h0, h1⟩ := hw'; go_simp) ?_
      try simp only [Act.put, List.setIfInBounds_toArray, List.set_cons_zero, List.set_cons_succ]
      refine U_read 1 (v := (.int .i64 (i : Int))) rfl (by kernel_rfl) (fun _ _ _ h => h) hS (by rfl) (fun w' hw' => by obtain ⟨h0, h1⟩ := hw'; go_simp) ?_
      try simp only [Act.put, List.setIfInBounds_toArray, List.set_cons_zero, List.set_cons_succ]
      refine U_read 2 (v := (.slice (some ⟨x.gB, 0, none⟩) M M)) rfl (by kernel_rfl) (fun _ _ _ h => h) hS (by rfl) (fun w' hw' => by obtain ⟨h0, h1⟩ := hw'; go_simp) ?_
      try simp only [Act.put, List.setIfInBounds_toArray, List.set_cons_zero, List.set_cons_succ]
      refine U_read 3 (v := (.int .i64 (j : Int))) rfl (by kernel_rfl) (fun _ _ _ h => h) hS (by rfl) (fun w' hw' => by obtain ⟨h0, h1⟩ := hw'; go_simp) ?_
      try simp only [Act.put, List.setIfInBounds_toArray, List.set_cons_zero, List.set_cons_succ]
      refine U_read 4 (v := (.int .u32 (q : Int))) rfl (by kernel_rfl) (fun _ _ _ h => h) hS (by rfl) (fun w' hw' => by obtain ⟨h0, h1⟩ := hw'; go_simp) ?_
      try simp only [Act.put, List.setIfInBounds_toArray, List.set_cons_zero, List.set_cons_succ]
      refine U_read 5 (v := (.pointer (some ⟨x.gT, i, none⟩))) rfl (by kernel_rfl) (fun _ _ _ h => h) hS (by rfl) (fun w' hw' => by obtain ⟨h0, h1⟩ := hw'; go_simp) ?_
      try simp only [Act.put, List.setIfInBounds_toArray, List.set_cons_zero, List.set_cons_succ]
      refine U_one 6 (by kernel_rfl) rfl rfl (fun K hK => ?_)
      go_simp
      refine hK _ _ (fun _ => HS1.out) ?_
      clear hK K
      try simp only [Act.put, List.setIfInBounds_toArray, List.set_cons_zero, List.set_cons_succ]
      clear hS
      have hS := HS1.out
      refine U_read 7 (v := (.pointer (some ⟨x.gB, j, none⟩))) rfl (by kernel_rfl) (fun _ _ _ h => h) hS (by rfl) (fun w' hw' => by obtain ⟨h0, h1⟩ := hw'; go_simp) ?_
      try simp only [Act.put, List.setIfInBounds_toArray, List.set_cons_zero, List.set_cons_succ]
      refine U_one 8 (by kernel_rfl) rfl rfl (fun K hK => ?_)
      go_simp
      refine hK _ _ (fun h => absurd h (by decide)) ?_
      clear hK K
      try simp only [Act.put, List.setIfInBounds_toArray, List.set_cons_zero, List.set_cons_succ]
      refine U_done (by kernel_rfl) ?_ _
      simp only [Calm, Exit.then]
      clear hS c0 c1 z0 z1 HS1
      generalize (wq.setCell ⟨x.gT, i, none⟩ (.int .u32 (q : Nat))).setCell ⟨x.gB, j, none⟩ (.bool true) = w3 at *
      have b0 := HK3.out.boxX.cell 0
      have hXl := HXL.out
      have hyl : (X.map go).length = X.length := List.length_map ..
      have HYL := Lib.hid hyl
      clear hyl h1 h3
      go_upto_region 10 with (at_builtin; refine wpList_append_any _ rfl (.tmp 62) (.tmp 64) _ rfl B 41 i0 _ 1 4 Tryd.underlying23 hi0 hz0 hz1 hz2 rfl (by omega) vx X.length _ rfl (own_keep HK3.out.rx (fun q hq => Below.heap_alloc w3 (.cells #[.int .u32 (p : Int)] 41) q (HK3.out.rx.lt q hq).2)) (w3.heap.size + 1) (some ⟨w3.heap.size, 0, none⟩) 1 1 (u32s [p]) rfl ⟨rfl, fun _ => ⟨_, rfl, by simp, cell_one_new _ _ _⟩⟩ (one_u32 _) (by simp only [maxLen]; omega) (by omega) (by simp; omega) ?_; intro v1 w4 hown4 hgrow4 hat4; obtain ⟨A4, c4, rfl⟩ := own_val hown4; have HP4 := Lib.hid (HK3.out.pushX hB3 hown4 hgrow4 hat4); have y0 := (HK3.out.bxX hgrow4).cell 0; have yz := (HK3.out.bxX hgrow4).frozen 0; have hzz : w3.heap.size ≤ w4.heap.size := Nat.le_trans (by simp) hgrow4.size; clear hown4 hgrow4 hat4)
      obtain ⟨w5, hw5⟩ : ∃ w5, w4.setCell ⟨x.bX, 0, none⟩ (.slice A4 (X.length + 1) c4) = w5 := ⟨_, rfl⟩
      have hz5 : w4.heap.size = w5.heap.size := by rw [← hw5]; simp [World.setCell]
      have hB5 : B ≤ w5.heap.size := by omega
      rw [hw5] at HP4
      rw [hw5]
      have HK5 := Lib.hid HP4.out.1
      have HF5 := Lib.hid (HF3.out.trans HP4.out.2)
      have b1 := HK5.out.boxY.cell 0
      clear hw5 HP4 y0 yz hzz hz5 b0 HF3 HK3 hB3
      rw [← HYL.out] at hXl
      go_wp2_with (at_builtin; refine wpList_append_any _ rfl (.tmp 66) (.tmp 68) _ rfl B 41 i0 _ 1 4 Tryd.underlying23 hi0 hz0 hz1 hz2 rfl (by omega) vy (X.map go).length _ rfl (own_keep HK5.out.ry (fun qq hq => Below.heap_alloc w5 (.cells #[.int .u32 (q : Int)] 41) qq (HK5.out.ry.lt qq hq).2)) (w5.heap.size + 1) (some ⟨w5.heap.size, 0, none⟩) 1 1 (u32s [q]) rfl ⟨rfl, fun _ => ⟨_, rfl, by simp, cell_one_new _ _ _⟩⟩ (one_u32 _) (by simp only [maxLen]; omega) (by omega) (by simp; omega) ?_; intro v1 w6 hown6 hgrow6 hat6; obtain ⟨A6, c6, rfl⟩ := own_val hown6; have HP6 := Lib.hid (HK5.out.pushY hB5 hown6 hgrow6 hat6); have y0 := (HK5.out.bxY hgrow6).cell 0; have yz := (HK5.out.bxY hgrow6).frozen 0; clear hown6 hgrow6 hat6)
      have hf := HP6.out
      rw [HYL.out] at hf
      have HPF := Lib.hid (show PairP B x go N M (addX X p) w (.returned (.bool true)) (w6.setCell ⟨x.bY, 0, none⟩ (.slice A6 (X.length + 1) c6)) from by
        rw [HHA.out]
        refine ⟨rfl, HF5.out.trans hf.2, .slice A4 (X.length + 1) c4, .slice A6 (X.length + 1) c6, ?_⟩
        rw [HGP.out]
        exact hf.1)
      clear hf
      go_ret
      exact HPF.out
end
end Go.Proofs.YtblekggklimpeaaDoor

namespace Go.Proofs.YtblekggklimpeaaDoor
open Go.RowKit Go.Sort
attribute [local go_sem] Oper.semAt_some
/-- Where an oop goes: a row of pairs gone through, or something else. -/
def toK (pl : List (Nat × Nat)) (void x : Nat) : Nat := if x ∈ pl.map (·.1) then goesM pl x else void
theorem goesM_skip {pl : List (Nat × Nat)} {k : Nat} (hk : k < pl.length) {x : Nat} (hn : x ∉ (pl.take k).map (·.1)) (he : (pl[k]).1 = x) : goesM pl x = (pl[k]).2 := by
  have e : pl = pl.take k ++ pl[k] :: pl.drop (k + 1) := by
    conv => lhs; rw [← List.take_append_drop k pl, List.drop_eq_getElem_cons hk]
  unfold goesM
  have h0 : (pl.take k).find? (fun p => p.1 == x) = none := by
    rw [List.find?_eq_none]
    intro p hp hpe
    exact hn (List.mem_map.2 ⟨p, hp, by simpa using hpe⟩)
  conv => lhs; rw [e]
  rw [List.find?_append, h0, Option.none_or, List.find?_cons, he]
  simp
set_option maxRecDepth 100000 in
set_option maxHeartbeats 4000000 in
theorem weak1_any {w : World} {b7 b8 gp cp void : Nat} {Ap : Option Addr} {pl : List (Nat × Nat)} (HP : Blk w b7 34 #[.slice Ap pl.length cp]) (HV : Blk w b8 41 #[.int .u32 (void : Int)]) (ho : 0 < pl.length → Ap = some ⟨gp, 0, none⟩ ∧ PlA w gp pl) (hn : pl.length ≤ 9223372036854775807) (x : Nat) (hx : x < 4294967296) :
    Calls Tryd.prog 24 #[.int .u32 (x : Int), .pointer (some ⟨b7, 0, none⟩), .pointer (some ⟨b8, 0, none⟩)] w (Told (.int .u32 (toK pl void x : Nat)) w) := by
  have x0 := HP.cell 0
  have HVV := Lib.hid HV
  have HO := Lib.hid ho
  clear HP HV ho
  go_enter Tryd.func24, Tryd.ntmps24
  go_wp2_with fail
  clear x0
  go_loopw [9] (fun iv wr => ∃ j : Nat, iv = .int .i64 j ∧ j ≤ pl.length ∧ x ∉ (pl.take j).map (·.1) ∧ Below w.heap.size w wr) (fun iv _ => pl.length - (intOf iv).toNat)
  case atStart => exact ⟨0, rfl, Nat.zero_le _, by simp, Below.refl _ _⟩
  case round =>
    obtain ⟨j, rfl, hj, hnm, hb⟩ := hrel
    have HB := Lib.hid hb
    have HNM := Lib.hid hnm
    clear hb hnm
    by_cases hlt : j < pl.length
    · obtain ⟨rfl, hp5⟩ := HO.out (by omega)
      have hq : pl[j]? = some pl[j] := List.getElem?_eq_getElem hlt
      obtain ⟨d0, d1⟩ := (hp5.same HB.out.size (HB.out.block _ hp5.1)).2 j _ hq
      have HLT := Lib.hid hlt
      have HGO := Lib.hid (fun he => goesM_skip hlt HNM.out (x := x) he)
      have HTK := Lib.hid (show (pl.take (j + 1)).map (·.1) = (pl.take j).map (·.1) ++ [(pl[j]).1] by rw [List.take_add_one, hq, List.map_append]; rfl)
      have HMEM := Lib.hid (show (pl[j]).1 ∈ pl.map (·.1) from List.mem_map.2 ⟨_, List.getElem_mem hlt, rfl⟩)
      clear hp5 hq
      generalize (pl[j]).1 = y at *
      generalize (pl[j]).2 = z at *
      go_upto_region 4 with fail
      have hba := HB.out.alloc HB.out.size (.cells #[.int .u32 (y : Int), .int .u32 (z : Int)] 43)
      have HBa := Lib.hid hba
      have y0 := (Blk.new wr 43 #[.int .u32 (y : Int), .int .u32 (z : Int)]).cell 0
      have y1 := (Blk.new wr 43 #[.int .u32 (y : Int), .int .u32 (z : Int)]).cell 1
      clear hba d0 d1 HB
      generalize wr.alloc (.cells #[.int .u32 (y : Int), .int .u32 (z : Int)] 43) = w13 at *
      by_cases hyx : y = x
      · have hne : ((y : Int) == (x : Int)) = true := by simp; omega
        have HE := Lib.hid (show toK pl void x = z by unfold toK; rw [← hyx, if_pos HMEM.out, hyx, HGO.out hyx])
        clear hyx
        go_wp2_with fail
        go_ret
        exact ⟨by rw [HE.out]; rfl, HBa.out⟩
      · have hne : ((y : Int) == (x : Int)) = false := by simp; omega
        have HNX := Lib.hid (show x ∉ (pl.take (j + 1)).map (·.1) by
          rw [HTK.out, List.mem_append, List.mem_singleton]
          rintro (h | h)
          · exact HNM.out h
          · exact hyx h.symm)
        clear hyx
        go_wp2_with fail
        go_roundw
        case rel => exact ⟨j + 1, by go_num, HLT.out, HNX.out, HBa.out⟩
        case measure => have := HLT.out; simp [intOf]; omega
    · obtain rfl : j = pl.length := by omega
      have HE := Lib.hid (show toK pl void x = void by
        unfold toK
        have := HNM.out
        rw [List.take_length] at this
        rw [if_neg this])
      have v0 := (HVV.out.below HB.out HVV.out.lt).cell 0
      clear hlt hj
      go_wp2_with fail
      go_ret
      exact ⟨by rw [HE.out]; rfl, HB.out⟩
end Go.Proofs.YtblekggklimpeaaDoor
