/- HeapWrites, walked: a deed changes just what it names. -/
import Derived.Test.YtkpjkbkglnabiaaDoorFull
import Derived.Test.YtkpjkbkglnabiaaDoorDiff
import Derived.Test.YtkpjkbkglnabiaaDoorSameL
set_option linter.unusedVariables false
namespace Go.Proofs.YtkpjkbkglnabiaaDoor
open Go.RowKit

theorem DeedsAt.more {w : World} {B B' : Nat} {A : Option Addr} {ds : List Dd} (h : DeedsAt w B A ds) (hB : B ≤ B') : DeedsAt w B' A ds := by
  intro i d hd
  obtain ⟨f, ad, Ab, nb, cb, h1, h2, h3, h4, h5⟩ := h i d hd
  exact ⟨f, ad, Ab, nb, cb, h1, by omega, h3, h4.more hB, h5⟩
theorem Blk.cells8 {w : World} {g : Nat} {t : TypeId} {a0 a1 a2 a3 a4 a5 a6 a7 : Value} (h : Blk w g t #[a0, a1, a2, a3, a4, a5, a6, a7]) :
    w.cell? ⟨g, 0, none⟩ = some a0 ∧ w.cell? ⟨g, 1, none⟩ = some a1 ∧ w.cell? ⟨g, 2, none⟩ = some a2 ∧ w.cell? ⟨g, 3, none⟩ = some a3 ∧ w.cell? ⟨g, 4, none⟩ = some a4 ∧ w.cell? ⟨g, 5, none⟩ = some a5 ∧ w.cell? ⟨g, 6, none⟩ = some a6 ∧ w.cell? ⟨g, 7, none⟩ = some a7 :=
  ⟨h.cell 0, h.cell 1, h.cell 2, h.cell 3, h.cell 4, h.cell 5, h.cell 6, h.cell 7⟩
/-- A new row is none of the heap's. -/
theorem Live.apart {W w0 : World} {p : HP} {g gr : Nat} {h : HM} (L : Live W w0 p g h) (hr : w0.heap.size ≤ gr) : ¬ p.has gr := fun hh => by
  have := L.at_.lt hh
  omega

set_option maxRecDepth 100000 in
set_option maxHeartbeats 4000000 in
theorem writes_any (W : World) (E : Env W) (n : Int) (A : Option Addr) (nd c : Nat) (ds : List Dd) (hnd : nd ≤ 9223372036854775807) (hl : ds.length = nd) (hds : DeedsAt W W.heap.size A ds)
    (x : Dd) (fx : x.Fit) (A2 : Option Addr) (n2 c2 : Nat) (hn2 : n2 ≤ 9223372036854775807) (hr2 : Reads W W.heap.size 1 A2 n2 (u8c x.b)) :
    Calls Tryd.prog 5 #[.int .i64 n, .slice A nd c, x.val A2 n2 c2] W (Told (.bool true) W) := by
  have hb0 : ∀ o, Below W.heap.size W (W.alloc o) := fun o => (Below.refl _ _).alloc (Nat.le_refl _) _
  have HE := Lib.hid (fun o => E.below (hb0 o))
  have HM0 := Lib.hid (mayL_any n)
  have HFX := Lib.hid fx
  have HR2 := Lib.hid (fun o => (hr2.below (hb0 o)).more (B' := (W.alloc o).heap.size) (by simp))
  have HB0 := Lib.hid hb0
  have HDS := Lib.hid (fun o => (hds.below (hb0 o)).more (B' := (W.alloc o).heap.size) (by simp))
  clear hb0 fx hr2 hds E
  unfold Dd.val
  by_cases hb : mayB n = true
  · have hn : 64 ≤ n ∧ n ≤ 1048576 := by simpa [mayB] using hb
    rw [hb] at HM0
    obtain ⟨k, rfl⟩ := Int.eq_ofNat_of_zero_le (by omega : 0 ≤ n)
    have HB := Lib.hid (fun o => begun_any (W.alloc o) (HE.out o) k (by omega) (by omega) A nd c ds hnd hl (HDS.out o))
    have HS := Lib.hid ((HM.new_scr (n := k) (by omega) (by omega)).run ds (HDS.out (.cells #[] 0)).fit)
    clear HDS hl hb
    go_enter Tryd.func5, Tryd.ntmps5
    go_wp2_with fail
    refine (HM0.out _).mono ?_
    rintro e w' ⟨rfl, rfl⟩
    go_wp2_with fail
    refine (HB.out _).mono ?_
    rintro e w1 ⟨p, g, v, rfl, L, -, -⟩
    have HW := (HB0.out _).trans (L.below.mono (by simp))
    have BX := (Blk.new W 45 #[.int .i64 x.k, .int .u32 (x.o : Nat), .int .u32 (x.v : Nat), .int .i64 x.f, .int .i64 x.i, .int .i64 x.n, .int .u32 (x.w : Nat), .slice A2 n2 c2]).below L.below (by simp)
    have RX := ((HR2.out _).below L.below).more L.below.size
    obtain ⟨l, s, -, hz, -, -⟩ := HS.out
    clear HB HS HM0 HE HR2
    generalize (HM.new k).runH ds = h at *
    obtain ⟨d1, d2, d3, d4⟩ := s.diff x HFX.out
    have hroom := s.good.fit.room
    have hhi := s.good.fit.hi
    have hrl := s.good.fit.roots
    have hone := s.good.fit.one
    have hlast := s.last_lt
    rw [hrl] at d2 d3 d4
    have HD2 := Lib.hid d2; have HD3 := Lib.hid d3; have HD4 := Lib.hid d4; have HRL := Lib.hid hrl
    clear s hz d2 d3 d4 hrl
    go_wp2_with fail
    refine (awake_any _ L.envw).mono ?_
    rintro e w2 ⟨rfl, hb⟩
    replace L := L.after hb
    replace HW := HW.trans (hb.mono HW.size)
    replace BX := BX.below hb BX.lt
    replace RX := (RX.below hb).more hb.size
    clear hb
    go_wp2_with fail
    refine L.words.mono ?_
    rintro e w3 ⟨gw, cw, rfl, rw_, hgw, hb⟩
    have aw := L.apart hgw
    replace L := L.after hb
    replace HW := HW.trans (hb.mono HW.size)
    replace BX := BX.below hb BX.lt
    replace RX := (RX.below hb).more hb.size
    clear hb hgw
    go_wp2_with fail
    refine L.roots.mono ?_
    rintro e w4 ⟨gr, cr, rfl, rr, hgr, hb⟩
    have ar := L.apart hgr
    replace L := L.after hb
    replace HW := HW.trans (hb.mono HW.size)
    replace BX := BX.below hb BX.lt
    replace RX := (RX.below hb).more hb.size
    replace rw_ := rw_.below hb
    clear hb hgr
    go_wp2_with fail
    refine L.last.mono ?_
    rintro e w' ⟨rfl, rfl⟩
    obtain ⟨x0, x1, x2, x3, x4, x5, x6, x7⟩ := BX.cells8
    go_wp2_with fail
    refine (act_any L x HFX.out A2 n2 c2 hn2 RX).mono ?_
    rintro e w5 ⟨p5, rfl, L5, s5⟩
    clear x0 x1 x2 x3 x4 x5 x6 x7
    have abx : ¬ p.has W.heap.size := fun hh => by have := L.new _ hh; simp at this; omega
    replace HW := s5.below (W := W) HW (fun q hq => by have := L.new _ hq; simp at this; omega)
    replace BX := BX.same (s5.block _ BX.lt abx)
    replace rw_ := (s5.row rw_ aw).1
    replace rr := (s5.row rr ar).1
    clear aw ar abx RX L s5
    go_wp2_with fail
    refine L5.words.mono ?_
    rintro e w6 ⟨gx, cx, rfl, rx, -, hb⟩
    replace L5 := L5.after hb
    replace HW := HW.trans (hb.mono HW.size)
    replace BX := BX.below hb BX.lt
    replace rw_ := rw_.below hb
    replace rr := rr.below hb
    clear hb
    go_wp2_with fail
    refine L5.roots.mono ?_
    rintro e w7 ⟨gy, cy, rfl, ry, -, hb⟩
    replace L5 := L5.after hb
    replace HW := HW.trans (hb.mono HW.size)
    replace BX := BX.below hb BX.lt
    replace rw_ := rw_.below hb
    replace rr := rr.below hb
    replace rx := rx.below hb
    clear hb
    simp only [u32s_len]
    rw [HRL.out, HD2.out]
    have Rw := rw_.reads rw_.lt
    have Rr := rr.reads rr.lt
    have Rx := rx.reads rx.lt
    have Ry := ry.reads ry.lt
    rw [u32s_len] at Rw Rr Rx Ry
    rw [HRL.out] at Rr
    rw [HD2.out] at Ry
    clear rw_ rr rx ry
    have hfit5 := L5.fit
    have hr5 := hfit5.room
    have hh5 := hfit5.hi
    clear hfit5
    have hdec : decide ((h.actH x).words.length < h.words.length) = false := by simp; omega
    go_wp2_with fail
    clear hdec
    go_loopw [15, 16] (fun ch i wr => ∃ k : Nat, k ≤ h.words.length ∧ i = .int .i64 k ∧ ch = .int .i64 (diffN h.words (h.actH x).words k : Nat) ∧ Below w7.heap.size w7 wr) (fun _ i _ => h.words.length - (intOf i).toNat)
    case atStart => exact ⟨0, by omega, rfl, rfl, Below.refl _ _⟩
    case round =>
      obtain ⟨k1, hk, rfl, rfl, hb⟩ := hrel
      by_cases hlt : k1 < h.words.length
      · obtain ⟨ad, u, had, hbl, hu, hc⟩ := (Rw.below hb).at_ hlt
        obtain ⟨ad', u', had', hbl', hu', hc'⟩ := (Rx.below hb).at_ (Nat.lt_of_lt_of_le hlt d1)
        cases had; cases had'
        rw [WideShapes.add_plain, Nat.zero_add] at hc hc'
        rw [u32s_get hlt] at hu
        rw [u32s_get (Nat.lt_of_lt_of_le hlt d1)] at hu'
        injection hu with hu
        injection hu' with hu'
        subst hu hu'
        have hdl := diffN_le h.words (h.actH x).words k1
        have hlt2 : (k1 : Int) < ((h.actH x).words.length : Int) := by omega
        by_cases he : h.words.getD k1 0 = (h.actH x).words.getD k1 0
        · have HE := Lib.hid (diffN_eq he)
          have hv : ((h.words.getD k1 0 : Int) != ((h.actH x).words.getD k1 0 : Int)) = false := by rw [he]; simp
          clear he
          generalize h.words.getD k1 0 = a1 at *
          generalize (h.actH x).words.getD k1 0 = a2 at *
          go_wp2_with fail
          go_region
          all_goals go_wp2_with fail
          all_goals go_roundw
          case rel => exact ⟨k1 + 1, by omega, by go_num, by rw [HE.out], below_drew hb⟩
          case measure => simp [intOf]; omega
        · have HE := Lib.hid (diffN_ne he)
          have hv : ((h.words.getD k1 0 : Int) != ((h.actH x).words.getD k1 0 : Int)) = true := by rw [bne_iff_ne]; omega
          clear he
          generalize h.words.getD k1 0 = a1 at *
          generalize (h.actH x).words.getD k1 0 = a2 at *
          go_wp2_with fail
          go_region
          all_goals go_wp2_with fail
          all_goals go_roundw
          case rel => exact ⟨k1 + 1, by omega, by go_num, by rw [HE.out]; rfl, below_drew hb⟩
          case measure => simp [intOf]; omega
      · obtain rfl : k1 = h.words.length := by omega
        have hdw := diffN_le h.words (h.actH x).words h.words.length
        have hdw2 : diffN h.words (h.actH x).words h.words.length ≤ 1048576 := by omega
        generalize hD1 : diffN h.words (h.actH x).words h.words.length = D1 at *
        have HD1 := Lib.hid hD1
        clear hD1 hdw Rw Rx
        have Rr1 := (Rr.below hb).more hb.size
        have Ry1 := (Ry.below hb).more hb.size
        have L6 := L5.after hb
        have HW6 := HW.trans (hb.mono HW.size)
        have BX6 := BX.below hb BX.lt
        clear hb Rr Ry L5 HW BX
        go_wp2_with fail
        go_loopw [15, 17] (fun ch i wq => ∃ k : Nat, k ≤ 64 ∧ i = .int .i64 k ∧ ch = .int .i64 ((D1 : Int) + (diffN h.roots (h.actH x).roots k : Nat)) ∧ Below wr.heap.size wr wq) (fun _ i _ => 64 - (intOf i).toNat)
        case atStart => exact ⟨0, by omega, rfl, by rw [diffN_zero]; simp, Below.refl _ _⟩
        case round =>
          obtain ⟨k1, hk, rfl, rfl, hb⟩ := hrel
          have hdl := diffN_le h.roots (h.actH x).roots k1
          by_cases hlt : k1 < 64
          · obtain ⟨ad, u, had, hbl, hu, hc⟩ := (Rr1.below hb).at_ hlt
            obtain ⟨ad', u', had', hbl', hu', hc'⟩ := (Ry1.below hb).at_ hlt
            cases had; cases had'
            rw [WideShapes.add_plain, Nat.zero_add] at hc hc'
            rw [u32s_get (by rw [HRL.out]; exact hlt)] at hu
            rw [u32s_get (by rw [HD2.out]; exact hlt)] at hu'
            injection hu with hu
            injection hu' with hu'
            subst hu hu'
            by_cases he : h.roots.getD k1 0 = (h.actH x).roots.getD k1 0
            · have HE := Lib.hid (diffN_eq he)
              have hv : ((h.roots.getD k1 0 : Int) != ((h.actH x).roots.getD k1 0 : Int)) = false := by rw [he]; simp
              clear he
              generalize h.roots.getD k1 0 = a1 at *
              generalize (h.actH x).roots.getD k1 0 = a2 at *
              go_wp2_with fail
              go_region
              all_goals go_wp2_with fail
              all_goals go_roundw
              case rel => exact ⟨k1 + 1, by omega, by go_num, by rw [HE.out], below_drew hb⟩
              case measure => simp [intOf]; omega
            · have HE := Lib.hid (diffN_ne he)
              have hv : ((h.roots.getD k1 0 : Int) != ((h.actH x).roots.getD k1 0 : Int)) = true := by rw [bne_iff_ne]; omega
              clear he
              generalize h.roots.getD k1 0 = a1 at *
              generalize (h.actH x).roots.getD k1 0 = a2 at *
              go_wp2_with fail
              go_region
              all_goals go_wp2_with fail
              all_goals go_roundw
              case rel => exact ⟨k1 + 1, by omega, by go_num, by rw [HE.out, Int.natCast_add, Int.add_assoc]; rfl, below_drew hb⟩
              case measure => simp [intOf]; omega
          · obtain rfl : k1 = 64 := by omega
            clear hlt Rr1 Ry1 hk
            have L7 := L6.after hb
            have HW7 := HW6.trans (hb.mono HW6.size)
            have BX7 := BX6.below hb BX6.lt
            have c0 := BX7.cell 0
            simp only [List.getElem?_toArray, List.getElem?_cons_zero] at c0
            have HLA := Lib.hid L7.last
            have HHD := Lib.hid (fun (o : Nat) (ho : o < 4294967296) => L7.header o ho)
            clear L6 HW6 BX6 BX7 hb hdl
            by_cases hc : x.k.tmod 14 < 2
            · obtain ⟨e1, e2, hcase⟩ := HD3.out hc
              subst e1
              rw [e2]
              clear HD3 HD4 HD1 HD2 HRL e2
              rcases hcase with ⟨e0, e3, e4⟩ | ⟨e0, e3, e4, e5, e6⟩
              · rw [e4] at HLA
                rw [e0, e3]
                clear e0 e3 e4
                go_wp2_with fail
                refine HLA.out.mono ?_
                rintro e w' ⟨rfl, rfl⟩
                go_wp2_with fail
                go_ret
                exact ⟨ret_bool (by simp), HW7⟩
              · have HH := Lib.hid (HHD.out (2 * h.words.length) (by omega))
                rw [e4] at HLA
                rw [e0] at e3 e5 e6 ⊢
                have e7 : (h.actH x).hdO (2 * h.words.length) = (h.actH x).hd (2 * h.words.length / 2) := by rw [HM.hdO, if_pos e3]
                have e8 : (h.actH x).isE (2 * h.words.length) = 0 := by rw [HM.isE, if_pos e3]
                rw [e7, e8] at HH
                have HX := Lib.hid (show ((h.actH x).hd (2 * h.words.length / 2)).val = .agg #[.int .i64 ((h.actH x).hd (2 * h.words.length / 2)).size, .int .i64 ((h.actH x).hd (2 * h.words.length / 2)).fmt, .int .i64 ((h.actH x).hd (2 * h.words.length / 2)).spare, .int .u32 ((h.actH x).hd (2 * h.words.length / 2)).cls, .int .u32 ((h.actH x).hd (2 * h.words.length / 2)).ser] from rfl)
                rw [HX.out, e5] at HH
                have hne : ¬ (2 * h.words.length = 0) := by omega
                have HL7 := Lib.hid L7
                have HE4 := Lib.hid e4
                clear HX e0 e3 e4 e5 e7 e8 HHD L7 HLA
                generalize (h.actH x).hd (2 * h.words.length / 2) = y at *
                rw [e6] at hr5 ⊢
                clear e6
                have e9 : ((2 * h.words.length : Nat) : Int) = 2 * (h.words.length : Int) := by omega
                rw [e9] at HH
                have hy2 : h.words.length + 3 + y.size ≤ 1048576 := by omega
                go_wp2_with fail
                refine HH.out.mono ?_
                rintro e w8 ⟨rfl, hb8⟩
                have hb9 := hb8.alloc hb8.size (.cells #[.int .i64 y.size, .int .i64 y.fmt, .int .i64 y.spare, .int .u32 y.cls, .int .u32 (h.last + 1 : Nat)] 52)
                have BY := Blk.new w8 52 #[.int .i64 y.size, .int .i64 y.fmt, .int .i64 y.spare, .int .u32 y.cls, .int .u32 (h.last + 1 : Nat)]
                obtain ⟨y0, y1, y2, y3, y4⟩ := BY.cells5
                have HLB := Lib.hid (HL7.out.after hb9).last
                rw [HE4.out] at HLB
                go_wp2_with fail
                refine (num_any 0 (by decide) _).mono ?_
                rintro e w' ⟨rfl, rfl⟩
                go_wp2_with fail
                refine HLB.out.mono ?_
                rintro e w' ⟨rfl, rfl⟩
                go_wp2_with fail
                go_ret
                exact ⟨ret_bool (by simp), HW7.trans (hb9.mono HW7.size)⟩
            · obtain ⟨e1, e2, e3⟩ := HD4.out (Int.not_lt.1 hc)
              rw [e3] at HLA
              rw [e2]
              have hge : ¬ ((x.k.tmod 14) < 2) := hc
              clear HD3 HD4 HD1 HD2 HRL e2 e3 hc
              generalize diffN h.roots (h.actH x).roots 64 = D2 at *
              have hle : (D1 : Int) + (D2 : Int) ≤ 1 := by omega
              go_wp2_with fail
              refine HLA.out.mono ?_
              rintro e w' ⟨rfl, rfl⟩
              go_wp2_with fail
              go_ret
              exact ⟨ret_bool (by simp), HW7⟩
  · have HA := Lib.hid (fun o => awake_any (W.alloc o) (HE.out o))
    have hb' : mayB n = false := by simpa using hb
    rw [hb'] at HM0
    clear hb hb'
    go_enter Tryd.func5, Tryd.ntmps5
    go_wp2_with fail
    refine (HM0.out _).mono ?_
    rintro e w' ⟨rfl, rfl⟩
    go_wp2_with fail
    refine (HA.out _).mono ?_
    rintro e w2 ⟨rfl, hb2⟩
    go_wp2_with fail
    go_ret
    exact ⟨rfl, (HB0.out _).trans (hb2.mono (by simp))⟩
end Go.Proofs.YtkpjkbkglnabiaaDoor
