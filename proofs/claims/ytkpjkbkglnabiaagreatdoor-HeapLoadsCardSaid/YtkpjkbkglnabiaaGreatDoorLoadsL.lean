/- HeapLoads, walked: any words, roots and last serial are taken or refused as the document says; the arguments stay, and what is written over them later changes nothing. -/
import Derived.Test.YtkpjkbkglnabiaaGreatDoorJDo
import Derived.Test.YtkpjkbkglnabiaaGreatDoorJLoad
import Derived.Test.YtkpjkbkglnabiaaGreatDoorJRefP
set_option linter.unusedVariables false
namespace Go.Proofs.YtkpjkbkglnabiaaGreatDoor
open Go.RowKit
attribute [local go_sem] Oper.semAt_some

theorem Reads.to32 {w : World} {B n : Nat} {A : Option Addr} {xs : List Nat} (h : Reads w B 1 A n (u32s xs)) : xs.length = n := by have := h.1; rw [u32s_len] at this; omega
theorem loadE_lt (size : Nat) (ws rs : List Nat) (last : Nat) : loadE size ws rs last < 1000 := by
  classical
  unfold loadE
  split
  · omega
  · split <;> omega
/-- A row with one more element, read without it. -/
theorem Row.cut {w : World} {g c n : Nat} {e : TypeId} {xs ys : List Nat} (h : Row w g e c (u32s xs ++ u32s ys)) (hn : xs.length = n) : Reads w w.heap.size 1 (some ⟨g, 0, none⟩) n (u32s xs) := by
  have := h.shorter.reads h.lt
  rw [u32s_len, hn] at this
  exact this

theorem HAt.farCell {w : World} {p : HP} {h : HM} (H : HAt w p h) {x : Addr} (hn : ¬ p.has x.block) (v : Value) : HAt (w.setCell x v) p h :=
  ⟨H.1.far (fun e => hn (.inl e.symm)) v, H.2.1.far (fun e => hn (.inr (.inl e.symm))) v, H.2.2.1.far (fun e => hn (.inr (.inr (.inl e.symm)))) v, H.2.2.2.far (fun e => hn (.inr (.inr (.inr e.symm)))) v⟩
theorem RAt.farCell {w : World} {p : HP} {h : HM} (H : RAt w p h) {x : Addr} (hn : ¬ p.has x.block) (v : Value) : RAt (w.setCell x v) p h :=
  ⟨H.1.far (fun e => hn (.inl e.symm)) v, H.2.1.far (fun e => hn (.inr (.inl e.symm))) v, H.2.2.1.far (fun e => hn (.inr (.inr (.inl e.symm)))) v, H.2.2.2.far (fun e => hn (.inr (.inr (.inr e.symm)))) v⟩
theorem Two.set {W w : World} {p q : HP} {g k : Nat} {a b : HM} (T : Two W w p g q k a b) {x : Addr} (hp : ¬ p.has x.block) (hq : ¬ q.has x.block) (hW : W.heap.size ≤ x.block) (v : Value) : Two W (w.setCell x v) p g q k a b :=
  ⟨⟨T.live.at_.farCell hp v, T.live.hg, T.live.good, T.live.env, T.live.new, T.live.below.setCell hW v⟩, T.doc.farCell hq v, T.hk, T.qnew, T.apart⟩

set_option maxRecDepth 100000 in
set_option maxHeartbeats 4000000 in
theorem loadsL_any (W : World) (E : Env W) (n : Int) (A : Option Addr) (nd c : Nat) (ds : List Dd) (hnd : nd ≤ 9223372036854775807) (hl : ds.length = nd) (hds : DeedsAt W W.heap.size A ds) (hok : ∀ d ∈ ds, d.Ok2)
    (A2 : Option Addr) (n2 c2 : Nat) (ws : List Nat) (hn2 : n2 ≤ 9223372036854775807) (hr2 : Reads W W.heap.size 1 A2 n2 (u32s ws)) (hb2 : ∀ y ∈ ws, y < 4294967296) (hlen2 : n2 * 4 ≤ 140737488351232)
    (A3 : Option Addr) (n3 c3 : Nat) (rs : List Nat) (hn3 : n3 ≤ 9223372036854775807) (hr3 : Reads W W.heap.size 1 A3 n3 (u32s rs)) (hb3 : ∀ y ∈ rs, y < 4294967296) (hlen3 : n3 * 4 ≤ 140737488351232)
    (last : Nat) (hlast : last < 4294967296) :
    Calls Tryz.prog 5 #[.int .i64 n, .slice A nd c, .slice A2 n2 c2, .slice A3 n3 c3, .int .u32 last] W (Told (.bool true) W) := by
  have HE := Lib.hid E
  by_cases hb : n < 64 ∨ 1048576 < n
  · have HB := Lib.hid (both_bad n hb W)
    clear hb E hds hok hr2 hr3
    go_enter Tryz.func5, Tryz.ntmps5
    go_wp2_with fail
    refine HB.out.mono ?_
    rintro e w1 ⟨rfl, hb1⟩
    have HA := Lib.hid (awake_any w1 (HE.out.below hb1))
    have HB1 := Lib.hid hb1
    clear hb1
    go_wp2_with fail
    refine HA.out.mono ?_
    rintro e w2 ⟨rfl, hb2⟩
    have HB2 := Lib.hid (below_top HB1.out hb2)
    clear hb2
    go_wp2_with fail
    go_ret
    exact ⟨rfl, HB2.out⟩
  · obtain ⟨s, rfl⟩ := Int.eq_ofNat_of_zero_le (show 0 ≤ n by omega)
    have h1 : 64 ≤ s := by omega
    have h2 : s ≤ 1048576 := by omega
    have HB := Lib.hid (both_any s h1 h2 W)
    have HD := Lib.hid hds
    have HOK := Lib.hid hok
    have HL := Lib.hid hl
    have HR2 := Lib.hid hr2
    have HR3 := Lib.hid hr3
    have H32 := Lib.hid hb2
    have H33 := Lib.hid hb3
    have HL2 := Lib.hid hr2.to32
    have HL3 := Lib.hid hr3.to32
    have HSZ := Lib.hid (fun ds => show ((HM.new s).runH ds).size = s → True from fun _ => trivial)
    clear hb E hds hok hl hr2 hr3 hb2 hb3 HSZ
    go_enter Tryz.func5, Tryz.ntmps5
    go_wp2_with fail
    refine HB.out.mono ?_
    intro e w1 hB
    obtain ⟨p, q, g, k, rfl, T, hb1⟩ := Two.of_both HE.out h1 h2 hB
    have HT0 := Lib.hid T
    clear hB T hb1 HB
    go_wp2_with fail
    go_loopw [14] (fun i wr => ∃ j : Nat, j ≤ nd ∧ i = .int .i64 j ∧ ∃ pj qj, Two W wr pj g qj k ((HM.new s).runH (ds.take j)) ((HM.new s).runH (ds.take j))) (fun i _ => nd - (intOf i).toNat)
    case atStart => exact ⟨0, by omega, rfl, p, q, HT0.out⟩
    case round =>
      clear HT0
      obtain ⟨j, hj, rfl, pj, qj, Tj⟩ := hrel
      by_cases hlt : j < nd
      · have hD1 := HD.out.below Tj.live.below
        obtain ⟨d, hd⟩ : ∃ d, ds[j]? = some d := ⟨ds[j]'(by rw [HL.out]; exact hlt), List.getElem?_eq_getElem _⟩
        obtain ⟨ad, Ab, nb, cb, rfl, had, hnb, hRb, l0, l1, l2, l3, l4, l5, l6, l7⟩ := hD1.load hd
        have HDO := Lib.hid (Tj.do d (HD.out.fit d (List.mem_of_getElem? hd)) (HOK.out d (List.mem_of_getElem? hd)) Ab nb cb hnb hRb)
        have HHS := Lib.hid (HM.runH_snoc (HM.new s) (ds.take j) d)
        rw [← take_snoc hd] at HHS
        rw [← HHS.out] at HDO
        unfold Dd.val at HDO
        clear Tj hD1 hRb hd HD HHS
        go_wp2_with fail
        refine HDO.out.mono ?_
        rintro e w2 ⟨p2, q2, rfl, T2, s2⟩
        have HT2 := Lib.hid T2
        clear T2 s2 HDO l0 l1 l2 l3 l4 l5 l6 l7
        go_wp2_with fail
        go_roundw
        case rel => exact ⟨j + 1, by omega, by go_num, p2, q2, HT2.out⟩
        case measure => simp [intOf]; omega
      · obtain rfl : j = nd := by omega
        obtain ⟨l', sc, -, hz, -, -⟩ := (HM.new_scr (n := s) h1 h2).run (ds.take j) (fun d hd => HD.out.fit d (List.mem_of_mem_take hd))
        replace hz : ((HM.new s).runH (ds.take j)).size = s := hz
        generalize (HM.new s).runH (ds.take j) = h at *
        have HTj := Lib.hid Tj
        have HZ := Lib.hid hz
        have hWr := Tj.live.below.size
        obtain ⟨iw, hiw0, hiw1, hiw2, hiw3⟩ := info_parts info_u32
        obtain ⟨ir, hir0, hir1, hir2, hir3⟩ := info_parts info_oop
        have HRA := Lib.hid (((HR2.out.below Tj.live.below).more hWr).alloc (Nat.le_refl _) (.cells #[] 29))
        clear Tj HD sc hz
        go_upto_region 11 with (at_builtin; first
          | (refine wpList_append_any _ rfl (.tmp 46) (.tmp 47) _ rfl wr.heap.size 29 iw _ 1 4 Tryz.underlying42 hiw0 hiw1 hiw2 hiw3 rfl (by omega) (.slice (some ⟨wr.heap.size, 0, none⟩) 0 0) 0 [] rfl (owns_empty wr _) _ A2 n2 c2 (u32s ws) rfl HRA.out (one_u32s _) (by simp only [maxLen]; omega) (by omega) (by simp) ?_; intro v1 w3 hown3 hg3 hat3; rw [Nat.zero_add, List.nil_append] at hown3)
          | (refine wpList_append_any _ rfl (.tmp 48) (.tmp 49) _ rfl wr.heap.size 29 iw _ 1 4 Tryz.underlying42 hiw0 hiw1 hiw2 hiw3 rfl (by omega) v1 n2 _ rfl (hown3.alloc _) (w3.heap.size + 1) (some ⟨w3.heap.size, 0, none⟩) 1 1 (u32s [77]) rfl ⟨rfl, fun _ => ⟨_, rfl, by simp, cell_one_new _ _ _⟩⟩ (one_u32s _) (by simp only [maxLen]; omega) (by omega) (by have := hg3.size; simp at this ⊢; omega) ?_; intro v2 w5 hown5 hg5 hat5; obtain ⟨gw, kw, rfl, rw5, -, hge5⟩ := Row.of_any hown5 (by omega)))
        have hb3 : Below wr.heap.size wr w3 := ((Below.refl _ _).alloc (Nat.le_refl _) _).grown hg3 (by simp) (fun q hq => by simp [Value.ownBlock] at hq; omega)
        have hb5 : Below wr.heap.size wr w5 := (hb3.alloc hb3.size _).grown hg5 (by have := hb3.size; simp; omega) (fun q hq => (hown3.lt q hq).1)
        have HT5 := Lib.hid (HTj.out.after hb5)
        have HB5 := Lib.hid hb5
        have hw5 : wr.heap.size ≤ w5.heap.size := hb5.size
        have hnkw : n2 + 1 ≤ kw := by
          obtain ⟨cur, _, h1, _⟩ := rw5
          rw [List.length_append, u32s_len, u32s_len, HL2.out] at h1
          simpa using h1
        have hkwm : kw ≤ 9223372036854775807 := by obtain ⟨_, _, _, h1, _⟩ := rw5; unfold maxLen at h1; exact h1
        have HRW := Lib.hid rw5
        clear hown3 hg3 hat3 hown5 hg5 hat5 HRA hb3 hb5 rw5
        have HRB := Lib.hid (((HR3.out.below HT5.out.live.below).more HT5.out.live.below.size).alloc (Nat.le_refl _) (.cells #[] 30))
        go_upto_region 12 with (at_builtin; first
          | (refine wpList_append_any _ rfl (.tmp 51) (.tmp 52) _ rfl w5.heap.size 30 ir _ 1 4 Tryz.underlying43 hir0 hir1 hir2 hir3 rfl (by omega) (.slice (some ⟨w5.heap.size, 0, none⟩) 0 0) 0 [] rfl (owns_empty w5 _) _ A3 n3 c3 (u32s rs) rfl HRB.out (one_u32s _) (by simp only [maxLen]; omega) (by omega) (by simp) ?_; intro v3 w7 hown7 hg7 hat7; rw [Nat.zero_add, List.nil_append] at hown7)
          | (refine wpList_append_any _ rfl (.tmp 53) (.tmp 54) _ rfl w5.heap.size 30 ir _ 1 4 Tryz.underlying43 hir0 hir1 hir2 hir3 rfl (by omega) v3 n3 _ rfl (hown7.alloc _) (w7.heap.size + 1) (some ⟨w7.heap.size, 0, none⟩) 1 1 (u32s [77]) rfl ⟨rfl, fun _ => ⟨_, rfl, by simp, cell_one_new _ _ _⟩⟩ (one_u32s _) (by simp only [maxLen]; omega) (by omega) (by have := hg7.size; simp at this ⊢; omega) ?_; intro v4 w9 hown9 hg9 hat9; obtain ⟨gr, kr, rfl, rr9, -, hge9⟩ := Row.of_any hown9 (by omega)))
        have hb7 : Below w5.heap.size w5 w7 := ((Below.refl _ _).alloc (Nat.le_refl _) _).grown hg7 (by simp) (fun q hq => by simp [Value.ownBlock] at hq; omega)
        have hb9 : Below w5.heap.size w5 w9 := (hb7.alloc hb7.size _).grown hg9 (by have := hb7.size; simp; omega) (fun q hq => (hown7.lt q hq).1)
        have hnkr : n3 + 1 ≤ kr := by
          obtain ⟨cur, _, h1, _⟩ := rr9
          rw [List.length_append, u32s_len, u32s_len, HL3.out] at h1
          simpa using h1
        have hkrm : kr ≤ 9223372036854775807 := by obtain ⟨_, _, _, h1, _⟩ := rr9; unfold maxLen at h1; exact h1
        have T9 := (HT5.out.after hb9).after (below_drew (Below.refl _ _))
        have RW9 : Row w9.drew gw 29 kw (u32s ws ++ u32s [77]) := HRW.out.below (below_drew hb9)
        have RR9 : Row w9.drew gr 30 kr (u32s rs ++ u32s [77]) := rr9
        have hngw : ¬ pj.has gw ∧ ¬ qj.has gw := ⟨fun e => by have := HTj.out.live.at_.lt e; omega, fun e => by have := HTj.out.doc.lt e; omega⟩
        have hngr : ¬ pj.has gr ∧ ¬ qj.has gr := ⟨fun e => by have := HTj.out.live.at_.lt e; omega, fun e => by have := HTj.out.doc.lt e; omega⟩
        have hwr : gw ≠ gr := by have := HRW.out.lt; omega
        have HLD := Lib.hid (T9.live.load (some ⟨gw, 0, none⟩) n2 kw ws hn2 (RW9.cut HL2.out) H32.out (some ⟨gr, 0, none⟩) n3 kr rs hn3 (RR9.cut HL3.out) H33.out last hlast)
        rw [HZ.out] at HLD
        have HT9 := Lib.hid T9
        have HRW9 := Lib.hid RW9
        have HRR9 := Lib.hid RR9
        have hnc2 : (n2 : Int) ≤ (kw : Int) := by omega
        have hnc3 : (n3 : Int) ≤ (kr : Int) := by omega
        clear hown7 hg7 hat7 hown9 hg9 hat9 HRB hb7 hb9 rr9 T9 RW9 RR9 HT5 HRW hiw0 hiw1 hiw2 hiw3 hir0 hir1 hir2 hir3
        have hE1 := loadE_lt s ws rs last
        have HE1 := Lib.hid hE1
        go_cut [17] (fun z wx => z = .int .i64 (loadE s ws rs last : Nat) ∧ ∃ p6, Two W wx p6 g qj k (h.loadH ws rs last) h ∧ Row wx gw 29 kw (u32s ws ++ u32s [77]) ∧ Row wx gr 30 kr (u32s rs ++ u32s [77]) ∧ (¬ p6.has gw ∧ ¬ qj.has gw) ∧ (¬ p6.has gr ∧ ¬ qj.has gr))
        case first =>
          generalize loadE s ws rs last = E1 at *
          go_region_held3 (fun w' => True)
            (first | exact trivial | go_keep)
            (first
              | (go_at_call 16; refine HLD.out.mono ?_; rintro e w10 ⟨p6, rfl, L6, s6⟩))
          all_goals go_wp2_with fail
          all_goals go_meet
          all_goals exact ⟨rfl, p6, HT9.out.left L6 s6, (s6.row HRW9.out hngw.1).1, (s6.row HRR9.out hngr.1).1, ⟨(s6.row HRW9.out hngw.1).2, hngw.2⟩, ⟨(s6.row HRR9.out hngr.1).2, hngr.2⟩⟩
        case rest =>
          obtain ⟨rfl, p6, T6, RW6, RR6, ngw, ngr⟩ := hcut
          have HT6 := Lib.hid T6
          have HW6 := Lib.hid T6.live.below.size
          have hgwW : W.heap.size ≤ gw := by omega
          have hgrW : W.heap.size ≤ gr := by omega
          have HSW := Lib.hid (sameWords_any (some ⟨gw, 0, none⟩) A2 n2 n2 kw c2 ws ws wc hn2 hn2 (RW6.cut HL2.out) ((HR2.out.below T6.live.below).more T6.live.below.size))
          rw [sameL_self] at HSW
          have HSO := Lib.hid (fun w' (hb : Below wc.heap.size wc w') => show Calls Tryz.prog 18 #[.slice (some ⟨gr, 0, none⟩) n3 kr, .slice A3 n3 c3] w' (Told (.bool true) w') from by
            have := sameOops_any (some ⟨gr, 0, none⟩) A3 n3 n3 kr c3 rs rs w' hn3 hn3 ((RR6.below hb).cut HL3.out) ((HR3.out.below (T6.after hb).live.below).more (T6.after hb).live.below.size)
            rw [sameL_self] at this
            exact this)
          have HRW6 := Lib.hid RW6
          have HRR6 := Lib.hid RR6
          have hl1 : (n2 : Int) < ((n2 + 1 : Nat) : Int) := by omega
          have hl2 : (n3 : Int) < ((n3 + 1 : Nat) : Int) := by omega
          clear T6 RW6 RR6 HLD HT9 HRW9 HRR9 HTj
          go_wp2_with fail
          refine HSW.out.mono ?_
          rintro e w11 ⟨rfl, hb11⟩
          have HB11 := Lib.hid hb11
          clear hb11 HSW
          go_wp2_with fail
          refine (HSO.out _ HB11.out).mono ?_
          rintro e w12 ⟨rfl, hb12⟩
          have HB12 := Lib.hid (below_top HB11.out hb12)
          have cw := (HRW6.out.below HB12.out).cell (i := n2) (u := .int .u32 77) (by rw [List.getElem?_append_right (by rw [u32s_len, HL2.out]; omega), u32s_len, HL2.out, Nat.sub_self]; rfl)
          have cr := (HRR6.out.below HB12.out).cell (i := n3) (u := .int .u32 77) (by rw [List.getElem?_append_right (by rw [u32s_len, HL3.out]; omega), u32s_len, HL3.out, Nat.sub_self]; rfl)
          clear hb12 HSO
          go_wp2_with fail
          clear cw cr
          have HT12 := Lib.hid (HT6.out.after HB12.out)
          have HRW12 := Lib.hid (HRW6.out.below HB12.out)
          have HRR12 := Lib.hid (HRR6.out.below HB12.out)
          clear HT6 HRW6 HRR6 HB12 HB11
          go_loopw [18] (fun i wr => ∃ k2 : Nat, k2 ≤ n2 + 1 ∧ i = .int .i64 k2 ∧ (∃ xs : List Value, xs.length = n2 + 1 ∧ Row wr gw 29 kw xs) ∧ Row wr gr 30 kr (u32s rs ++ u32s [77]) ∧ Two W wr p6 g qj k (h.loadH ws rs last) h) (fun i _ => n2 + 1 - (intOf i).toNat)
          case atStart => exact ⟨0, by omega, rfl, ⟨_, by rw [List.length_append, u32s_len, u32s_len, HL2.out]; rfl, HRW12.out⟩, HRR12.out, HT12.out⟩
          case round =>
            clear HT12 HRW12 HRR12
            obtain ⟨k2, hk2, rfl, ⟨xs, hxl, rx⟩, rr, Tr⟩ := hrel
            by_cases hlt2 : k2 < n2 + 1
            · have hc := rx.cell (List.getElem?_eq_getElem (show k2 < xs.length by omega))
              have hz := rx.frozen k2
              have HS := Lib.hid (rx.set k2 (.int .u32 3))
              have HSR := Lib.hid (rr.far (p := ⟨gw, k2, none⟩) (fun e => hwr e.symm) (.int .u32 3))
              have HST := Lib.hid (Tr.set (x := ⟨gw, k2, none⟩) ngw.1 ngw.2 hgwW (.int .u32 3))
              have HXL := Lib.hid hxl
              have hl3 : (k2 : Int) < ((n2 + 1 : Nat) : Int) := by omega
              have hl4 : (k2 : Int) < (n2 : Int) + 1 := by omega
              clear rx rr Tr
              go_wp2_with fail
              go_roundw
              case rel => exact ⟨k2 + 1, by omega, by go_num, ⟨_, by rw [List.length_set]; exact HXL.out, HS.out⟩, HSR.out, HST.out⟩
              case measure => simp [intOf]; omega
            · obtain rfl : k2 = n2 + 1 := by omega
              have HRR := Lib.hid rr
              have HTR := Lib.hid Tr
              clear rr Tr rx
              have hge2 : decide (((n2 : Int) + 1) < ((n2 : Int) + 1)) = false := by simp
              go_wp2_with fail
              go_loopw [19] (fun i wr => ∃ k3 : Nat, k3 ≤ n3 + 1 ∧ i = .int .i64 k3 ∧ (∃ xs : List Value, xs.length = n3 + 1 ∧ Row wr gr 30 kr xs) ∧ Two W wr p6 g qj k (h.loadH ws rs last) h) (fun i _ => n3 + 1 - (intOf i).toNat)
              case atStart => exact ⟨0, by omega, rfl, ⟨_, by rw [List.length_append, u32s_len, u32s_len, HL3.out]; rfl, HRR.out⟩, HTR.out⟩
              case round =>
                clear HRR HTR
                obtain ⟨k3, hk3, rfl, ⟨xs, hxl, rx⟩, Tr⟩ := hrel
                by_cases hlt3 : k3 < n3 + 1
                · have hc := rx.cell (List.getElem?_eq_getElem (show k3 < xs.length by omega))
                  have hz := rx.frozen k3
                  have HS := Lib.hid (rx.set k3 (.int .u32 3))
                  have HST := Lib.hid (Tr.set (x := ⟨gr, k3, none⟩) ngr.1 ngr.2 hgrW (.int .u32 3))
                  have HXL := Lib.hid hxl
                  have hl3 : (k3 : Int) < ((n3 + 1 : Nat) : Int) := by omega
                  have hl4 : (k3 : Int) < (n3 : Int) + 1 := by omega
                  clear rx Tr
                  go_wp2_with fail
                  go_roundw
                  case rel => exact ⟨k3 + 1, by omega, by go_num, ⟨_, by rw [List.length_set]; exact HXL.out, HS.out⟩, HST.out⟩
                  case measure => simp [intOf]; omega
                · obtain rfl : k3 = n3 + 1 := by omega
                  have HTR := Lib.hid Tr
                  have HRL := Lib.hid (rLoad_any s h1 h2 A2 n2 c2 ws hn2 ((HR2.out.below Tr.live.below).more Tr.live.below.size) H32.out A3 n3 c3 rs hn3 ((HR3.out.below Tr.live.below).more Tr.live.below.size) H33.out last hlast)
                  clear Tr rx
                  have hge3 : decide (((n3 : Int) + 1) < ((n3 : Int) + 1)) = false := by simp
                  by_cases hE : loadE s ws rs last = 0
                  · have HLH := Lib.hid (show h.loadH ws rs last = HM.ofWords s ws rs last by unfold HM.loadH; rw [HZ.out, if_pos hE])
                    rw [hE]
                    go_wp2_with fail
                    refine HRL.out.mono ?_
                    rintro e w20 ⟨hb20, hP⟩
                    have hP2 : ∃ q2 : HP, e = .returned (.tuple #[ptr q2.g, .int .i64 0]) ∧ RAt w20 q2 (HM.ofWords s ws rs last) := by
                      rcases hP with ⟨hh, _⟩ | ⟨_, q2, h3, h4, _⟩
                      · exact absurd hE hh
                      · exact ⟨q2, h3, h4⟩
                    obtain ⟨q2, rfl, R2⟩ := hP2
                    have HLL := Lib.hid (by
                      have hL := (HTR.out.after hb20).live
                      rw [HLH.out] at hL
                      exact like_any hL R2)
                    have HBW := Lib.hid (HTR.out.after hb20).live.below
                    clear hP R2 hb20 HRL hE
                    unfold ptr
                    go_wp2_with fail
                    refine (num_any 0 (by decide) _).mono ?_
                    rintro e w21 ⟨rfl, rfl⟩
                    go_wp2_with fail
                    refine HLL.out.mono ?_
                    rintro e w22 ⟨rfl, hb22⟩
                    have HBX := Lib.hid (below_top HBW.out hb22)
                    clear hb22
                    go_wp2_with fail
                    go_ret
                    exact ⟨rfl, HBX.out⟩
                  · have HLH := Lib.hid (show h.loadH ws rs last = h by unfold HM.loadH; rw [HZ.out, if_neg hE])
                    go_wp2_with fail
                    refine HRL.out.mono ?_
                    rintro e w20 ⟨hb20, hP⟩
                    have hP2 : e = .returned (.tuple #[.pointer none, .int .i64 (loadE s ws rs last : Nat)]) := by
                      rcases hP with ⟨_, h3⟩ | ⟨hh, _⟩
                      · exact h3
                      · exact absurd hh hE
                    subst hP2
                    have HLL := Lib.hid (by
                      have hT := HTR.out.after hb20
                      rw [HLH.out] at hT
                      exact like2 hT)
                    have HBW := Lib.hid (HTR.out.after hb20).live.below
                    have hEz : ¬ ((loadE s ws rs last : Nat) : Int) = 0 := by omega
                    have hE1b := HE1.out
                    clear hP hb20 HRL hE HLH
                    generalize loadE s ws rs last = E1 at *
                    go_wp2_with fail
                    refine (num_any _ hE1b _).mono ?_
                    rintro e w21 ⟨rfl, rfl⟩
                    go_wp2_with fail
                    refine HLL.out.mono ?_
                    rintro e w22 ⟨rfl, hb22⟩
                    have HBX := Lib.hid (below_top HBW.out hb22)
                    clear hb22
                    go_wp2_with fail
                    go_ret
                    exact ⟨rfl, HBX.out⟩
end Go.Proofs.YtkpjkbkglnabiaaGreatDoor
