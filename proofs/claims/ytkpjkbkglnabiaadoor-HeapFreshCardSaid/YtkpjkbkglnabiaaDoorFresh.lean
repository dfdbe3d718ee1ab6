/- HeapFresh, walked: words, roots, bytes are new memory. -/
import Derived.Test.YtkpjkbkglnabiaaDoorFull
import Derived.Test.YtkpjkbkglnabiaaDoorSameL
import Derived.Test.YtkpjkbkglnabiaaDoorFrame
import Derived.Test.YtkpjkbkglnabiaaDoorFreshK
import Derived.Test.YtkpjkbkglnabiaaDoorWrites
import Derived.Laws.BitsAllLaws
set_option linter.unusedVariables false
namespace Go.Proofs.YtkpjkbkglnabiaaDoor
open Go.RowKit

theorem u8c_set (l : List Nat) (k v : Nat) : (u8c l).set k (.int .u8 (v : Int)) = u8c (l.set k v) := by simp [u8c, List.map_set]
theorem u32s_set (l : List Nat) (k v : Nat) : (u32s l).set k (.int .u32 (v : Int)) = u32s (l.set k v) := by simp [u32s, List.map_set]
theorem u32s_app (a b : List Nat) : u32s (a ++ b) = u32s a ++ u32s b := List.map_append
theorem xor_lt (a b : Nat) (ha : a < 256) (hb : b < 256) : a ^^^ b < 256 := Nat.xor_lt_two_pow (n := 8) ha hb

set_option maxRecDepth 100000 in
set_option maxHeartbeats 4000000 in
theorem fresh_any (W : World) (E : Env W) (n : Int) (A : Option Addr) (nd c : Nat) (ds : List Dd) (hnd : nd ≤ 9223372036854775807) (hl : ds.length = nd) (hds : DeedsAt W W.heap.size A ds)
    (A2 : Option Addr) (n2 c2 : Nat) (bs : List Nat) (hn2 : n2 ≤ 9223372036854775807) (hr2 : Reads W W.heap.size 1 A2 n2 (u8c bs)) (hb2 : ∀ x ∈ bs, x < 256) (hlen : n2 * 1 ≤ 140737488351232) :
    Calls Tryd.prog 6 #[.int .i64 n, .slice A nd c, .slice A2 n2 c2] W (Told (.bool true) W) := by
  have HE := Lib.hid E
  have HM0 := Lib.hid (mayL_any n W)
  by_cases hb : mayB n = true
  · have hn : 64 ≤ n ∧ n ≤ 1048576 := by simpa [mayB] using hb
    rw [hb] at HM0
    obtain ⟨k, rfl⟩ := Int.eq_ofNat_of_zero_le (by omega : 0 ≤ n)
    have HB := Lib.hid (begun_any W E k (by omega) (by omega) A nd c ds hnd hl hds)
    have HS := Lib.hid ((HM.new_scr (n := k) (by omega) (by omega)).run ds hds.fit)
    have HR2 := Lib.hid hr2
    have HB2 := Lib.hid hb2
    have HBL := Lib.hid (show bs.length = n2 by have := hr2.1; rw [u8c_len] at this; omega)
    clear hds hl hb E hr2 hb2
    go_enter Tryd.func6, Tryd.ntmps6
    go_wp2_with fail
    refine HM0.out.mono ?_
    rintro e w' ⟨rfl, rfl⟩
    go_wp2_with fail
    refine HB.out.mono ?_
    rintro e w1 ⟨p, g, v, rfl, L, -, -⟩
    obtain ⟨l, s, -, hz, -, -⟩ := HS.out
    have HSC := Lib.hid s
    clear HB HS HM0 s hz
    generalize (HM.new k).runH ds = h at *
    go_wp2_with fail
    refine (awake_any _ L.envw).mono ?_
    rintro e w2 ⟨rfl, hb2⟩
    replace L := L.after hb2
    clear hb2
    obtain ⟨i0, hi0, hz0, hz1, hz2⟩ := info_parts info_u8
    have HRA := Lib.hid ((HR2.out.below L.below).more L.below.size |>.alloc (Nat.le_refl _) (.cells #[] 5))
    go_wp2_with (at_builtin; refine wpList_append_any _ rfl (.tmp 46) (.tmp 47) _ rfl w2.heap.size 5 i0 _ 1 1 Tryd.underlying43 hi0 hz0 hz1 hz2 rfl (by omega) (.slice (some ⟨w2.heap.size, 0, none⟩) 0 0) 0 [] rfl (owns_empty w2 _) _ A2 n2 c2 (u8c bs) rfl HRA.out (one_u8c _) (by simp only [maxLen]; omega) (by omega) (by simp) ?_; intro v1 w3 hown3 hg3 hat3)
    have hbl3 : Below w2.heap.size w2 w3 := ((Below.refl _ _).alloc (Nat.le_refl _) _).grown hg3 (by simp) (fun q hq => by simp [Value.ownBlock] at hq; omega)
    rw [Nat.zero_add, List.nil_append] at hown3
    obtain ⟨g1, c1, rfl, rw1, -, hge1⟩ := Row.of_block hown3 (by rcases hat3 with e | e <;> rw [e] <;> simp [Value.ownBlock])
    have F1 := (Fr.start L).new rw1 hge1 hbl3
    clear hown3 hg3 hat3 HRA hi0 hz0 hz1 hz2 L
    have RG := rw1.reads rw1.lt
    rw [u8c_len, HBL.out] at RG
    have ap1 := (F1.rows _ (List.mem_cons_self ..)).2
    refine (F1.live.make 0 (by decide) _ n2 c1 bs hn2 RG HB2.out).mono ?_
    rintro e w4 ⟨p4, rfl, L4, s4⟩
    have F4 := (F1.step L4 s4)
    have H0 := Lib.hid (s4.row rw1 ap1.1)
    clear F1 L4 s4 RG rw1 hbl3 hge1
    simp only at ap1
    have HG1 := Lib.hid ap1.2
    have HK4 := Lib.hid (show Row w4 g1 5 c1 (u8c bs) ∧ ¬ p4.has g1 from H0.out)
    clear ap1 H0
    go_wp2_with fail
    go_loopw [12] (fun i wr => ∃ k : Nat, k ≤ n2 ∧ i = .int .i64 k ∧ Fr W wr p4 g (h.makeH 0 bs) [] ∧ ∃ ys : List Nat, ys.length = n2 ∧ (∀ y ∈ ys, y < 256) ∧ Row wr g1 5 c1 (u8c ys)) (fun i _ => n2 - (intOf i).toNat)
    case atStart => exact ⟨0, by omega, rfl, F4.tail, bs, HBL.out, HB2.out, HK4.out.1⟩
    case round =>
      obtain ⟨k1, hk, rfl, F, ys, hyl, hy, ry⟩ := hrel
      have HYL := Lib.hid hyl
      have HY := Lib.hid hy
      clear hyl hy F4
      by_cases hlt : k1 < n2
      · have hkl : k1 < ys.length := by rw [HYL.out]; exact hlt
        have hc := ry.cell (u8c_get hkl)
        have hz := ry.frozen k1
        have hy8 : ys.getD k1 0 < 256 := getD_lt ys HY.out k1
        have HRS := Lib.hid (ry.set k1 (.int .u8 ((ys.getD k1 0 ^^^ 255 : Nat) : Int)))
        rw [u8c_set] at HRS
        have HFS := Lib.hid (F.set k1 (.int .u8 ((ys.getD k1 0 ^^^ 255 : Nat) : Int)) HK4.out.2 HG1.out (fun r hr => by cases hr))
        have HXL := Lib.hid (xor_lt (ys.getD k1 0) 255 hy8 (by omega))
        have hx : bits .xor .u8 ((ys.getD k1 0 : Nat) : Int) 255 = ((ys.getD k1 0 ^^^ 255 : Nat) : Int) := u8_xor_nat _ 255 hy8 (by omega)
        clear ry hkl
        generalize ys.getD k1 0 = y at *
        generalize y ^^^ 255 = z at *
        go_wp2_with fail
        go_roundw
        case rel => exact ⟨k1 + 1, by omega, by go_num, HFS.out, ys.set k1 z, by rw [List.length_set, HYL.out], (fun y' hy' => by
          rcases List.mem_or_eq_of_mem_set hy' with h1 | h1
          · exact HY.out y' h1
          · rw [h1]; exact HXL.out), HRS.out⟩
        case measure => simp [intOf]; omega
      · obtain rfl : k1 = n2 := by omega
        clear ry HYL HY hlt hk HK4 HG1
        go_wp2_with fail
        refine F.live.words.mono ?_
        rintro e w5 ⟨gw, cw, rfl, rw5, hgw, hb5⟩
        replace F := F.new rw5 hgw hb5
        clear rw5 hgw hb5
        go_wp2_with fail
        refine F.live.words.mono ?_
        rintro e w6 ⟨gx, cx, rfl, rw6, hgx, hb6⟩
        replace F := F.new rw6 hgx hb6
        clear rw6 hgx hb6
        go_wp2_with fail
        refine F.live.roots.mono ?_
        rintro e w7 ⟨gr, cr, rfl, rw7, hgr, hb7⟩
        replace F := F.new rw7 hgr hb7
        clear rw7 hgr hb7
        go_wp2_with fail
        refine F.live.roots.mono ?_
        rintro e w8 ⟨gs, cs, rfl, rw8, hgs, hb8⟩
        replace F := F.new rw8 hgs hb8
        clear rw8 hgs hb8
        have hf := F.live.fit
        have hroom := hf.room
        have hhi := hf.hi
        have HRL := Lib.hid hf.roots
        simp only [u32s_len]
        rw [HRL.out]
        clear hf
        have HHM := Lib.hid (show ∃ Hm, h.makeH 0 bs = Hm from ⟨_, rfl⟩)
        generalize hHm : h.makeH 0 bs = Hm at *
        have HHE := Lib.hid hHm
        clear hHm HHM
        obtain ⟨i1, hi0, hz0, hz1, hz2⟩ := info_parts info_u32
        have RX := (F.rows ⟨gx, 30, cx, u32s Hm.words⟩ (by simp)).1.reads (F.rows ⟨gx, 30, cx, u32s Hm.words⟩ (by simp)).1.lt
        simp only [u32s_len] at RX
        have HRX := Lib.hid (RX.alloc (Nat.le_refl _) (.cells #[] 30))
        clear RX
        go_upto_region 15 with (at_builtin; refine wpList_append_any _ rfl (.tmp 75) (.tmp 76) _ rfl w8.heap.size 30 i1 _ 1 4 Tryd.underlying46 hi0 hz0 hz1 hz2 rfl (by omega) (.slice (some ⟨w8.heap.size, 0, none⟩) 0 0) 0 [] rfl (owns_empty w8 _) _ (some ⟨gx, 0, none⟩) Hm.words.length cx (u32s Hm.words) rfl HRX.out (one_u32s _) (by simp only [maxLen]; omega) (by omega) (by simp) ?_; intro v9 w9 hown9 hg9 hat9)
        have hbl9 : Below w8.heap.size w8 w9 := ((Below.refl _ _).alloc (Nat.le_refl _) _).grown hg9 (by simp) (fun q hq => by simp [Value.ownBlock] at hq; omega)
        rw [Nat.zero_add, List.nil_append] at hown9
        obtain ⟨gq, cq, rfl, rw9, -, hge9⟩ := Row.of_block hown9 (by rcases hat9 with e | e <;> rw [e] <;> simp [Value.ownBlock])
        replace F := F.new rw9 hge9 hbl9
        clear hown9 hg9 hat9 rw9 hge9 hbl9 HRX hi0 hz0 hz1 hz2
        obtain ⟨i2, hi0, hz0, hz1, hz2⟩ := info_parts info_oop
        have RX := (F.rows ⟨gs, 31, cs, u32s Hm.roots⟩ (by simp)).1.reads (F.rows ⟨gs, 31, cs, u32s Hm.roots⟩ (by simp)).1.lt
        simp only [u32s_len] at RX
        rw [HRL.out] at RX
        have HRX := Lib.hid (RX.alloc (Nat.le_refl _) (.cells #[] 31))
        clear RX
        go_upto_region 16 with (at_builtin; refine wpList_append_any _ rfl (.tmp 78) (.tmp 79) _ rfl w9.heap.size 31 i2 _ 1 4 Tryd.underlying26 hi0 hz0 hz1 hz2 rfl (by omega) (.slice (some ⟨w9.heap.size, 0, none⟩) 0 0) 0 [] rfl (owns_empty w9 _) _ (some ⟨gs, 0, none⟩) 64 cs (u32s Hm.roots) rfl HRX.out (one_u32s _) (by simp only [maxLen]; omega) (by omega) (by simp) ?_; intro v10 w10 hown10 hg10 hat10)
        have hbl10 : Below w9.heap.size w9 w10 := ((Below.refl _ _).alloc (Nat.le_refl _) _).grown hg10 (by simp) (fun q hq => by simp [Value.ownBlock] at hq; omega)
        rw [Nat.zero_add, List.nil_append] at hown10
        obtain ⟨gc, cc, rfl, rw10, -, hge10⟩ := Row.of_block hown10 (by rcases hat10 with e | e <;> rw [e] <;> simp [Value.ownBlock])
        replace F := F.new rw10 hge10 hbl10
        clear hown10 hg10 hat10 rw10 hge10 hbl10 HRX hi0 hz0 hz1 hz2
        replace F := F.perm (List.perm_append_comm (l₁ := [_, _, _, _, _]) (l₂ := [_]))
        simp only [List.cons_append, List.nil_append] at F
        have HWN := Lib.hid (show ∃ N, Hm.words.length = N from ⟨_, rfl⟩)
        have HF := Lib.hid F
        clear F
        generalize hWL : Hm.words.length = N at *
        have HWL := Lib.hid hWL
        clear hWL HWN
        go_wp2_with fail
        go_loopw [19] (fun i wr => ∃ k : Nat, k ≤ N ∧ i = .int .i64 k ∧ ∃ ws : List Nat, ws.length = N ∧ Fr W wr p4 g Hm [⟨gw, 30, cw, u32s ws⟩, ⟨gc, 31, cc, u32s Hm.roots⟩, ⟨gq, 30, cq, u32s Hm.words⟩, ⟨gs, 31, cs, u32s Hm.roots⟩, ⟨gr, 31, cr, u32s Hm.roots⟩, ⟨gx, 30, cx, u32s Hm.words⟩]) (fun i _ => N - (intOf i).toNat)
        case atStart => exact ⟨0, by omega, rfl, Hm.words, HWL.out, HF.out⟩
        case round =>
        obtain ⟨k2, hk, rfl, ws, hwl, F⟩ := hrel
        have HWS := Lib.hid hwl
        clear hwl HF
        by_cases hlt : k2 < N
        · have hkl : k2 < ws.length := by rw [HWS.out]; exact hlt
          have hc := F.head.1.cell (u32s_get hkl)
          have hz := F.head.1.frozen k2
          have HFS := Lib.hid (F.put k2 (.int .u32 ((77 : Nat) : Int)))
          simp only [u32s_set] at HFS
          simp only at hc hz
          generalize ws.getD k2 0 = y at hc
          clear F hkl
          go_wp2_with fail
          go_roundw
          case rel => exact ⟨k2 + 1, by omega, by go_num, ws.set k2 77, by rw [List.length_set, HWS.out], HFS.out⟩
          case measure => simp [intOf]; omega
        obtain rfl : k2 = N := by omega
        clear hlt hk
        replace F := F.perm (List.perm_middle (a := (⟨gr, 31, cr, u32s Hm.roots⟩ : Rw)) (l₁ := [_, _, _, _]) (l₂ := [_]))
        simp only [List.cons_append, List.nil_append] at F
        have HF := Lib.hid F
        clear F
        go_wp2_with fail
        go_loopw [20] (fun i wr => ∃ k : Nat, k ≤ 64 ∧ i = .int .i64 k ∧ ∃ rs : List Nat, rs.length = 64 ∧ Fr W wr p4 g Hm [⟨gr, 31, cr, u32s rs⟩, ⟨gw, 30, cw, u32s ws⟩, ⟨gc, 31, cc, u32s Hm.roots⟩, ⟨gq, 30, cq, u32s Hm.words⟩, ⟨gs, 31, cs, u32s Hm.roots⟩, ⟨gx, 30, cx, u32s Hm.words⟩]) (fun i _ => 64 - (intOf i).toNat)
        case atStart => exact ⟨0, by omega, rfl, Hm.roots, HRL.out, HF.out⟩
        case round =>
        obtain ⟨k3, hk, rfl, rs, hrl, F⟩ := hrel
        have HRS := Lib.hid hrl
        clear hrl HF
        by_cases hlt : k3 < 64
        · have hkl : k3 < rs.length := by rw [HRS.out]; exact hlt
          have hc := F.head.1.cell (u32s_get hkl)
          have hz := F.head.1.frozen k3
          have HFS := Lib.hid (F.put k3 (.int .u32 ((77 : Nat) : Int)))
          simp only [u32s_set] at HFS
          simp only at hc hz
          generalize rs.getD k3 0 = y at hc
          clear F hkl
          go_wp2_with fail
          go_roundw
          case rel => exact ⟨k3 + 1, by omega, by go_num, rs.set k3 77, by rw [List.length_set, HRS.out], HFS.out⟩
          case measure => simp [intOf]; omega
        have HF := Lib.hid F
        clear F
        go_wp2_with fail
        obtain ⟨iw, hiw0, hiw1, hiw2, hiw3⟩ := info_parts info_u32
        obtain ⟨ir, hir0, hir1, hir2, hir3⟩ := info_parts info_oop
        go_loopw [13, 15, 21] (fun v13 v15 i wr => ∃ k gw' cw' gr' cr' : Nat, k ≤ 20 ∧ i = .int .i64 k ∧ v13 = .slice (some ⟨gw', 0, none⟩) (k2 + k) cw' ∧ v15 = .slice (some ⟨gr', 0, none⟩) (64 + k) cr' ∧ ∃ ws rs : List Nat, ws.length = k2 + k ∧ rs.length = 64 + k ∧ Fr W wr p4 g Hm [⟨gr', 31, cr', u32s rs⟩, ⟨gw', 30, cw', u32s ws⟩, ⟨gc, 31, cc, u32s Hm.roots⟩, ⟨gq, 30, cq, u32s Hm.words⟩, ⟨gs, 31, cs, u32s Hm.roots⟩, ⟨gx, 30, cx, u32s Hm.words⟩]) (fun _ _ i _ => 20 - (intOf i).toNat)
        case atStart => exact ⟨0, gw, cw, gr, cr, by omega, rfl, rfl, rfl, ws, rs, HWS.out, HRS.out, HF.out⟩
        case round =>
        obtain ⟨k4, gw', cw', gr', cr', hk, rfl, rfl, rfl, ws', rs', hwl', hrl', F⟩ := hrel
        have HWS' := Lib.hid hwl'
        have HRS' := Lib.hid hrl'
        clear hwl' hrl' HF HWS HRS
        by_cases hlt : k4 < 20
        · have hown := F.tail.head.1.owns
          simp only [u32s_len] at hown
          rw [HWS'.out] at hown
          have HO := Lib.hid hown
          have HF := Lib.hid F.swap
          clear hown F
          go_upto_region 28 with (at_builtin; refine wpList_append_any _ rfl (.tmp 103) (.tmp 104) _ rfl 0 30 iw _ 1 4 Tryd.underlying46 hiw0 hiw1 hiw2 hiw3 rfl (by omega) (.slice (some ⟨gw', 0, none⟩) (k2 + k4) cw') (k2 + k4) _ rfl (HO.out.alloc _) (wr.heap.size + 1) (some ⟨wr.heap.size, 0, none⟩) 1 1 (u32s [78]) rfl ⟨rfl, fun _ => ⟨_, rfl, by simp, cell_one_new _ _ _⟩⟩ (one_u32s _) (by simp only [maxLen]; omega) (by omega) (by omega) ?_; intro v11 w11 hown11 hg11 hat11)
          obtain ⟨gw2, cw2, rfl, rwn, -, -⟩ := Row.of_any hown11 (by omega)
          have F2 := (HF.out.below ((Below.refl _ wr).alloc (Nat.le_refl _) _)).re (r' := ⟨gw2, 30, cw2, u32s ws' ++ u32s [78]⟩) hg11 rwn (by rcases hat11 with e | e <;> simp [Value.ownBlock] at e <;> simp [e])
          clear HO HF hown11 hg11 hat11 rwn
          rw [← u32s_app] at F2
          have hown := F2.tail.head.1.owns
          simp only [u32s_len] at hown
          rw [HRS'.out] at hown
          have HO := Lib.hid hown
          have HF := Lib.hid F2.swap
          clear hown F2
          go_upto_region 26 with (at_builtin; refine wpList_append_any _ rfl (.tmp 106) (.tmp 107) _ rfl 0 31 ir _ 1 4 Tryd.underlying26 hir0 hir1 hir2 hir3 rfl (by omega) (.slice (some ⟨gr', 0, none⟩) (64 + k4) cr') (64 + k4) _ rfl (HO.out.alloc _) (w11.heap.size + 1) (some ⟨w11.heap.size, 0, none⟩) 1 1 (u32s [78]) rfl ⟨rfl, fun _ => ⟨_, rfl, by simp, cell_one_new _ _ _⟩⟩ (one_u32s _) (by simp only [maxLen]; omega) (by omega) (by omega) ?_; intro v12 w12 hown12 hg12 hat12)
          obtain ⟨gr2, cr2, rfl, rwn, -, -⟩ := Row.of_any hown12 (by omega)
          have F2 := (HF.out.below ((Below.refl _ w11).alloc (Nat.le_refl _) _)).re (r' := ⟨gr2, 31, cr2, u32s rs' ++ u32s [78]⟩) hg12 rwn (by rcases hat12 with e | e <;> simp [Value.ownBlock] at e <;> simp [e])
          clear HO HF hown12 hg12 hat12 rwn
          rw [← u32s_app] at F2
          have HF := Lib.hid F2
          clear F2
          go_wp2_with fail
          go_roundw
          case rel => exact ⟨k4 + 1, gw2, cw2, gr2, cr2, by omega, by go_num, rfl, rfl, ws' ++ [78], rs' ++ [78], by simp [HWS'.out]; omega, by simp [HRS'.out]; omega, HF.out⟩
          case measure => simp [intOf]; omega
        clear HWS' HRS' hiw0 hiw1 hiw2 hiw3 hir0 hir1 hir2 hir3
        replace F := F.tail.tail
        have HWL2 := Lib.hid (show (u32s Hm.words).length = k2 by rw [u32s_len]; exact HWL.out)
        have HRL2 := Lib.hid (show (u32s Hm.roots).length = 64 by rw [u32s_len]; exact HRL.out)
        go_wp2_with fail
        refine (sameWords_any (some ⟨gx, 0, none⟩) (some ⟨gq, 0, none⟩) k2 k2 cx cq Hm.words Hm.words _ (by omega) (by omega) (F.rd gx 30 cx _ (by simp) HWL2.out) (F.rd gq 30 cq _ (by simp) HWL2.out)).mono ?_
        rintro e w12 ⟨rfl, hb12⟩
        rw [sameL_self]
        replace F := F.below hb12
        clear hb12
        go_wp2_with fail
        refine (sameOops_any (some ⟨gs, 0, none⟩) (some ⟨gc, 0, none⟩) 64 64 cs cc Hm.roots Hm.roots _ (by omega) (by omega) (F.rd gs 31 cs _ (by simp) HRL2.out) (F.rd gc 31 cc _ (by simp) HRL2.out)).mono ?_
        rintro e w13 ⟨rfl, hb13⟩
        rw [sameL_self]
        replace F := F.below hb13
        clear hb13
        go_wp2_with fail
        refine F.live.words.mono ?_
        rintro e w14 ⟨gt, ct, rfl, rwt, hgt, hbt⟩
        rw [HWL2.out]
        replace F := F.new rwt hgt hbt
        clear rwt hgt hbt
        go_wp2_with fail
        refine (sameWords_any (some ⟨gt, 0, none⟩) (some ⟨gq, 0, none⟩) k2 k2 ct cq Hm.words Hm.words _ (by omega) (by omega) (F.rd gt 30 ct _ (by simp) HWL2.out) (F.rd gq 30 cq _ (by simp) HWL2.out)).mono ?_
        rintro e w15 ⟨rfl, hb15⟩
        rw [sameL_self]
        replace F := F.below hb15
        clear hb15
        go_wp2_with fail
        refine F.live.roots.mono ?_
        rintro e w16 ⟨gy, cy, rfl, rwt, hgt, hbt⟩
        rw [HRL2.out]
        replace F := F.new rwt hgt hbt
        clear rwt hgt hbt
        go_wp2_with fail
        refine (sameOops_any (some ⟨gy, 0, none⟩) (some ⟨gc, 0, none⟩) 64 64 cy cc Hm.roots Hm.roots _ (by omega) (by omega) (F.rd gy 31 cy _ (by simp) HRL2.out) (F.rd gc 31 cc _ (by simp) HRL2.out)).mono ?_
        rintro e w17 ⟨rfl, hb17⟩
        rw [sameL_self]
        replace F := (Fr.start F.live).below hb17
        clear hb17 HWL2 HRL2
        go_wp2_with fail
        refine (num_any _ (HM.makeE_lt h 0 bs) _).mono ?_
        rintro e w' ⟨rfl, rfl⟩
        by_cases he : h.makeE 0 bs = 0
        · have HME := Lib.hid he
          rw [he]
          clear he
          rw [← HHE.out] at F
          have hO := HM.makeO_lt HSC.out.good.fit 0 bs
          have HBM := Lib.hid (fun w (L : Live W w p4 g (h.makeH 0 bs)) => L.bytesMade HSC.out.good bs HB2.out HME.out hO)
          clear HSC HHE HRL HWL HME
          go_wp2_with fail
          refine (HBM.out _ F.live).mono ?_
          rintro e w18 ⟨gl, cl, rfl, rwt, hgt, hbt⟩
          rw [HBL.out]
          replace F := F.new rwt hgt hbt
          clear rwt hgt hbt
          go_wp2_with fail
          refine (HBM.out _ F.live).mono ?_
          rintro e w19 ⟨gm, cm, rfl, rwt, hgt, hbt⟩
          rw [HBL.out]
          replace F := F.new rwt hgt hbt
          clear rwt hgt hbt
          have HF := Lib.hid F.swap
          clear F
          go_wp2_with fail
          refine (num_any 0 (by decide) _).mono ?_
          rintro e w' ⟨rfl, rfl⟩
          go_wp2_with fail
          refine (num_any 0 (by decide) _).mono ?_
          rintro e w' ⟨rfl, rfl⟩
          go_wp2_with fail
          go_loopw [26] (fun i wr => ∃ k : Nat, k ≤ k1 ∧ i = .int .i64 k ∧ ∃ ls : List Nat, ls.length = k1 ∧ (∀ j, k ≤ j → ls.getD j 0 = bs.getD j 0) ∧ Fr W wr p4 g (h.makeH 0 bs) [⟨gl, 5, cl, u8c ls⟩, ⟨gm, 5, cm, u8c bs⟩]) (fun i _ => k1 - (intOf i).toNat)
          case atStart => exact ⟨0, by omega, rfl, bs, HBL.out, fun _ _ => rfl, HF.out⟩
          case round =>
          obtain ⟨k5, hk, rfl, ls, hll, hld, F⟩ := hrel
          have HLL := Lib.hid hll
          have HLD := Lib.hid hld
          clear hll hld HF
          by_cases hlt : k5 < k1
          · have hkl : k5 < ls.length := by rw [HLL.out]; exact hlt
            have hkb : k5 < bs.length := by rw [HBL.out]; exact hlt
            have hc := F.head.1.cell (u8c_get hkl)
            rw [HLD.out k5 (Nat.le_refl _)] at hc
            have hz := F.head.1.frozen k5
            obtain ⟨ad, u, hA2, hbl, hu, hc2⟩ := (HR2.out.below F.live.below).at_ hlt
            rw [u8c_get hkb] at hu
            injection hu with hu
            subst hu
            have hx8 := getD_lt bs HB2.out k5
            have HFS := Lib.hid (F.drew.put k5 (.int .u8 ((bs.getD k5 0 ^^^ 1 : Nat) : Int)))
            simp only [u8c_set] at HFS
            have hx : bits .xor .u8 ((bs.getD k5 0 : Nat) : Int) 1 = ((bs.getD k5 0 ^^^ 1 : Nat) : Int) := u8_xor_nat _ 1 hx8 (by omega)
            have hv : ((bs.getD k5 0 : Int) != (bs.getD k5 0 : Int)) = false := by simp
            simp only at hc hz
            subst hA2
            clear F hkl hkb
            generalize bs.getD k5 0 = x at hc hc2 hx hv hx8 HFS
            generalize x ^^^ 1 = y at *
            go_wp2_with fail
            go_region
            all_goals go_wp2_with fail
            all_goals go_roundw
            case rel => exact ⟨k5 + 1, by omega, by go_num, ls.set k5 y, by rw [List.length_set, HLL.out], (fun j hj => by
              rw [List.getD_eq_getElem?_getD, List.getElem?_set_ne (by omega), ← List.getD_eq_getElem?_getD]
              exact HLD.out j (by omega)), HFS.out⟩
            case measure => simp [intOf]; omega
          have HF := Lib.hid F
          have HEN := Lib.hid (show Ends wr W.heap.size 5 (.slice (some ⟨gl, 0, none⟩) k1 k1) k1 (u8c ls) from .inr ⟨gl, cl, rfl, F.head.1, by rw [u8c_len, HLL.out], F.head.2.2.1⟩)
          have HGR := Lib.hid F.tail
          have HGL := Lib.hid F.head.2
          clear F
          go_wp2_with fail
          clear hlt hk
          obtain ⟨iw, hiw0, hiw1, hiw2, hiw3⟩ := info_parts info_u8
          go_loopw [22, 27] (fun v i wr => ∃ k : Nat, k ≤ 20 ∧ i = .int .i64 k ∧ Ends wr W.heap.size 5 v (k1 + k) (u8c (ls ++ List.replicate k 9)) ∧ (∀ q, v.ownBlock = some q → ¬ p4.has q ∧ W.heap.size ≤ q ∧ gm ≠ q) ∧ Fr W wr p4 g (h.makeH 0 bs) [⟨gm, 5, cm, u8c bs⟩]) (fun _ i _ => 20 - (intOf i).toNat)
          case atStart => exact ⟨0, by omega, rfl, by rw [List.replicate_zero, List.append_nil]; exact HEN.out, (fun q hq => by
            simp only [Value.ownBlock, Option.some.injEq] at hq
            subst hq
            exact ⟨HGL.out.1, HGL.out.2.1, HGL.out.2.2 ⟨gm, 5, cm, u8c bs⟩ (by simp)⟩), HGR.out⟩
          case round =>
          obtain ⟨k6, hk, rfl, hen, hob, F⟩ := hrel
          have HE2 := Lib.hid hen
          have HOB := Lib.hid hob
          have HF := Lib.hid F
          clear hen hob F HEN HGR HGL
          by_cases hlt : k6 < 20
          · go_wp2_with (at_builtin; refine wpList_append_ends _ rfl (.tmp 188) (.tmp 189) _ rfl W.heap.size 5 iw _ 1 Tryd.underlying43 hiw0 hiw1 hiw2 hiw3 rfl _ (k1 + k6) _ rfl (HE2.out.alloc _) ⟨wr.heap.size, 0, none⟩ 1 (.int .u8 9) rfl (Blk.new wr 5 #[.int .u8 9] |>.cell 0) rfl (by simp only [maxLen]; omega) (by omega) (by have := HF.out.live.below.size; simp; omega) ?_; intro v7 w7 hown7 hg7 hat7)
            go_roundw
            case rel =>
              have F2 := HF.out.below ((Below.refl _ wr).alloc (Nat.le_refl _) (.cells #[.int .u8 9] 5))
              refine ⟨k6 + 1, by omega, by go_num, .inl ?_, fun q hq => ?_, ?_⟩
              · have e : u8c (ls ++ List.replicate (k6 + 1) 9) = u8c (ls ++ List.replicate k6 9) ++ [.int .u8 9] := by
                  rw [List.replicate_succ', ← List.append_assoc]
                  exact List.map_append
                rw [e]
                exact hown7
              · rcases hat7 q hq with h1 | h1
                · exact HOB.out q h1
                · exact ⟨fun hh => by have := F2.live.at_.lt hh; omega, Nat.le_trans F2.live.below.size h1, fun e => by have := F2.head.1.lt; simp only at this; omega⟩
              · exact F2.turn' hg7 fun q hq => ⟨(HOB.out q hq).1, (HOB.out q hq).2.1, fun r hr => by simp only [List.mem_cons, List.not_mem_nil, or_false] at hr; subst hr; exact (HOB.out q hq).2.2⟩
            case measure => simp [intOf]; omega
          clear HE2 HOB
          go_wp2_with fail
          refine (HBM.out _ HF.out.live).mono ?_
          rintro e w20 ⟨ga, ca, rfl, rwt, hgt, hbt⟩
          have F2 := HF.out.new rwt hgt hbt
          clear rwt hgt hbt HF
          rw [HBL.out]
          have HU8 := Lib.hid (show (u8c bs).length = k1 by rw [u8c_len]; exact HBL.out)
          have HF := Lib.hid F2
          clear F2
          go_wp2_with fail
          refine (sameBytes_any (some ⟨gm, 0, none⟩) A2 k1 k1 k1 c2 bs bs _ (by omega) (by omega) (HF.out.rd gm 5 cm _ (by simp) HU8.out) ((HR2.out.below HF.out.live.below).more HF.out.live.below.size)).mono ?_
          rintro e w21 ⟨rfl, hb21⟩
          rw [sameL_self]
          have HF2 := Lib.hid (HF.out.below hb21)
          clear hb21 HF
          go_wp2_with fail
          refine (sameBytes_any (some ⟨ga, 0, none⟩) A2 k1 k1 k1 c2 bs bs _ (by omega) (by omega) (HF2.out.rd ga 5 ca _ (by simp) HU8.out) ((HR2.out.below HF2.out.live.below).more HF2.out.live.below.size)).mono ?_
          rintro e w22 ⟨rfl, hb22⟩
          rw [sameL_self]
          have HBW := Lib.hid (below_top HF2.out.live.below hb22)
          clear hb22 HF2
          go_wp2_with fail
          go_ret
          exact ⟨rfl, HBW.out⟩
        · have hne : (((h.makeE 0 bs : Nat) : Int) != 0) = true := by simp; omega
          have HBW := Lib.hid F.live.below
          clear F he HHE
          go_wp2_with fail
          go_ret
          exact ⟨rfl, HBW.out⟩
  · have HA := Lib.hid (awake_any W E)
    rw [show mayB n = false by simpa using hb] at HM0
    clear hds E hb hr2 hb2
    go_enter Tryd.func6, Tryd.ntmps6
    go_wp2_with fail
    refine HM0.out.mono ?_
    rintro e w' ⟨rfl, rfl⟩
    go_wp2_with fail
    refine HA.out.mono ?_
    rintro e w2 ⟨rfl, hb2⟩
    go_wp2_with fail
    go_ret
    exact ⟨rfl, hb2⟩
end Go.Proofs.YtkpjkbkglnabiaaDoor
