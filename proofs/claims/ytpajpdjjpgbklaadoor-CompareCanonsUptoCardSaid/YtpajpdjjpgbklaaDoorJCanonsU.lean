/- CompareCanons over what is small, walked: the canonical bytes, the counts, the digests. -/
import Derived.Test.YtpajpdjjpgbklaaDoorJRefQ
import Derived.Test.YtpajpdjjpgbklaaDoorJAwakeC
import Derived.Test.YtpajpdjjpgbklaaDoorJDiffW
import Derived.Test.YtpajpdjjpgbklaaDoorJRCanon
import Derived.Test.YtpajpdjjpgbklaaDoorJCountC
import Derived.Test.YtpajpdjjpgbklaaDoorJCmpC
import Derived.Test.YtpajpdjjpgbklaaDoorRows
set_option linter.unusedVariables false
set_option linter.unusedSimpArgs false
namespace Go.Proofs.YtpajpdjjpgbklaaDoor
open Go.RowKit
attribute [local go_sem] Oper.semAt_some
theorem bulk_len1 {H : Type} : ∀ (l : List (DataW H)), l.length ≤ Rows.uptoBulkAll l
  | [] => Nat.zero_le _
  | x :: r => by
    have h1 := bulk_len1 r
    have h2 : 1 ≤ Rows.uptoBulk x := by
      cases x with
      | lit y => cases y <;> simp [Rows.uptoBulk]
      | _ => simp [Rows.uptoBulk]
    simp only [Rows.uptoBulkAll, List.length_cons]; omega
theorem bulk_part {H : Type} {d : DataW H} : ∀ {l : List (DataW H)} {j : Nat}, l[j]? = some d → Rows.uptoBulk d ≤ Rows.uptoBulkAll l
  | [], j, h => by simp at h
  | x :: r, 0, h => by
    simp at h; subst h
    simp only [Rows.uptoBulkAll]; omega
  | x :: r, j + 1, h => by
    have := bulk_part (l := r) (j := j) (by simpa using h)
    simp only [Rows.uptoBulkAll]; omega
theorem bulk_len {H : Type} {ds : List (DataW H)} (hk : Rows.uptoSmall H ds = true) (j : Nat) {d : DataW H} {n : Nat} (hd : ds[j]? = some d) (hn : n = 0 ∨ ∃ el sp, d = .slice el sp ∧ el.length = n) : n ≤ 1048576 := by
  have h := of_decide_eq_true hk
  rcases hn with rfl | ⟨el, sp, rfl, rfl⟩
  · exact Nat.zero_le _
  · have h1 := bulk_part hd
    have h2 := bulk_len1 el
    simp only [Rows.uptoBulk] at h1
    exact Nat.le_trans (by omega) (Nat.le_trans h1 h)
/-- What is met; the error's number; the bytes; how many; the counts. -/
def HM.graphO (h : HM) (fr : List Nat) : Option (List Nd) := if h.fitsB fr = true then seenM h.nmN h.nmAt fr else none
def HM.graphE (h : HM) (fr : List Nat) : Nat := if h.fitsB fr = true then (if (seenM h.nmN h.nmAt fr).isSome = true then 0 else 2) else 3
def HM.canonB (h : HM) (ser : Bool) (fr : List Nat) : List Nat := match h.graphO fr with | some l => canonM h ser fr l | none => []
def HM.cntN (h : HM) (fr : List Nat) : Nat := match h.graphO fr with | some l => l.length | none => 0
def HM.cntG (h : HM) (fr : List Nat) : Gc := match h.graphO fr with | some l => h.countM fr l | none => ⟨0, 0, 0, 0⟩
theorem graph_bad {h : HM} {fr : List Nat} (e : h.fitsB fr = false) (ser : Bool) : h.graphE fr = 3 ∧ h.canonB ser fr = [] ∧ h.cntN fr = 0 ∧ h.cntG fr = ⟨0, 0, 0, 0⟩ := by
  have hg : h.graphO fr = none := by unfold HM.graphO; rw [e]; rfl
  refine ⟨by unfold HM.graphE; rw [e]; rfl, by unfold HM.canonB; rw [hg], by unfold HM.cntN; rw [hg], by unfold HM.cntG; rw [hg]⟩
theorem graph_long {h : HM} {fr : List Nat} (e : h.fitsB fr = true) (e2 : seenM h.nmN h.nmAt fr = none) (ser : Bool) : h.graphE fr = 2 ∧ h.canonB ser fr = [] ∧ h.cntN fr = 0 ∧ h.cntG fr = ⟨0, 0, 0, 0⟩ := by
  have hg : h.graphO fr = none := by unfold HM.graphO; rw [e, e2]; rfl
  refine ⟨by unfold HM.graphE; rw [e, e2]; rfl, by unfold HM.canonB; rw [hg], by unfold HM.cntN; rw [hg], by unfold HM.cntG; rw [hg]⟩
theorem graph_some {h : HM} {fr : List Nat} {l : List Nd} (e : h.fitsB fr = true) (e2 : seenM h.nmN h.nmAt fr = some l) (ser : Bool) : h.graphE fr = 0 ∧ h.canonB ser fr = canonM h ser fr l ∧ h.cntN fr = l.length ∧ h.cntG fr = h.countM fr l := by
  have hg : h.graphO fr = some l := by unfold HM.graphO; rw [e, e2]; rfl
  refine ⟨by unfold HM.graphE; rw [e, e2]; rfl, by unfold HM.canonB; rw [hg], by unfold HM.cntN; rw [hg], by unfold HM.cntG; rw [hg]⟩
def CanF2 (bs : List Nat) (E : Nat) (w : World) (e : Ending) (w' : World) : Prop := Below w.heap.size w w' ∧ ∃ v, e = .returned (.tuple #[v, .int .i64 (E : Nat)]) ∧ w'.ownsRow w.heap.size 5 1 v bs.length (u8c bs)
def CntF (x : Gc) (n E : Nat) (w : World) (e : Ending) (w' : World) : Prop := Below w.heap.size w w' ∧ e = .returned (.tuple #[.agg (x.cells n), .int .i64 (E : Nat)])
theorem own_nil8 (w : World) (B : Nat) : w.ownsRow B 5 1 (.slice none 0 0) ([] : List Nat).length (u8c []) := ⟨rfl, .inl ⟨rfl, rfl⟩⟩
theorem canon_flat2 {h : HM} {ser : Bool} {fr : List Nat} {w w' : World} {e : Ending} (hc : CanonP h ser fr w e w') : CanF2 (h.canonB ser fr) (h.graphE fr) w e w' := by
  obtain ⟨hb, ⟨h1, rfl⟩ | ⟨h1, h2, rfl⟩ | ⟨h1, l, v, h2, _, rfl, h3⟩⟩ := hc
  · obtain ⟨g1, g2, -, -⟩ := graph_bad h1 ser
    rw [g1, g2]; exact ⟨hb, _, rfl, own_nil8 _ _⟩
  · obtain ⟨g1, g2, -, -⟩ := graph_long h1 h2 ser
    rw [g1, g2]; exact ⟨hb, _, rfl, own_nil8 _ _⟩
  · obtain ⟨g1, g2, -, -⟩ := graph_some h1 h2 ser
    rw [g1, g2]; exact ⟨hb, _, rfl, h3⟩
theorem rcanon_flat2 {h : HM} {ser : Bool} {fr : List Nat} {w w' : World} {e : Ending} (hc : RCanonP h ser fr w e w') : CanF2 (h.canonB ser fr) (h.graphE fr) w e w' := by
  obtain ⟨hb, ⟨h1, rfl⟩ | ⟨h1, h2, rfl⟩ | ⟨h1, l, v, h2, rfl, h3⟩⟩ := hc
  · obtain ⟨g1, g2, -, -⟩ := graph_bad h1 ser
    rw [g1, g2]; exact ⟨hb, _, rfl, own_nil8 _ _⟩
  · obtain ⟨g1, g2, -, -⟩ := graph_long h1 h2 ser
    rw [g1, g2]; exact ⟨hb, _, rfl, own_nil8 _ _⟩
  · obtain ⟨g1, g2, -, -⟩ := graph_some h1 h2 ser
    rw [g1, g2]; exact ⟨hb, _, rfl, h3⟩
theorem count_flat2 {h : HM} {fr : List Nat} {w w' : World} {e : Ending} (hc : CountQ h fr w e w') : CntF (h.cntG fr) (h.cntN fr) (h.graphE fr) w e w' := by
  obtain ⟨hb, ⟨h1, rfl⟩ | ⟨h1, h2, rfl⟩ | ⟨h1, l, h2, rfl⟩⟩ := hc
  · obtain ⟨g1, -, g3, g4⟩ := graph_bad h1 false
    rw [g1, g3, g4]; exact ⟨hb, rfl⟩
  · obtain ⟨g1, -, g3, g4⟩ := graph_long h1 h2 false
    rw [g1, g3, g4]; exact ⟨hb, rfl⟩
  · obtain ⟨g1, -, g3, g4⟩ := graph_some h1 h2 false
    rw [g1, g3, g4]; exact ⟨hb, rfl⟩
set_option maxRecDepth 100000 in
set_option maxHeartbeats 8000000 in
theorem canonsL_any (W : World) (E : Env W) (k : Cs) (hk : k.At W W.heap.size) (ser : Bool) (A1 A2 : Option Addr) (n1 n2 c1 c2 : Nat) (fr bs : List Nat) (hn1 : n1 ≤ 1048576) (hn2 : n2 ≤ 9223372036854775807)
    (hra : Reads W W.heap.size 1 A1 n1 (u32s fr)) (ha32 : ∀ y ∈ fr, y < 4294967296) (hrb : Reads W W.heap.size 1 A2 n2 (u8c bs)) (hb8 : ∀ y ∈ bs, y < 256) :
    Calls Tryd.prog 7 #[k.agg, .bool ser, .slice A1 n1 c1, .slice A2 n2 c2] W (Told (.bool true) W) := by
  have hb1 := (Below.refl W.heap.size W).alloc (Nat.le_refl _) (.cells #[.int .i64 k.size, .slice k.A k.n k.c, .slice k.A' k.n' k.c', .int .u32 (k.last : Nat)] 26)
  have HB1 := Lib.hid hb1
  have HBX := Lib.hid (Blk.new W 26 #[.int .i64 k.size, .slice k.A k.n k.c, .slice k.A' k.n' k.c', .int .u32 (k.last : Nat)])
  have HE := Lib.hid (E.below hb1)
  have HK := Lib.hid (hk.below hb1)
  have HX := Lib.hid (And.intro ((hra.below hb1).more hb1.size) (And.intro ((hrb.below hb1).more hb1.size) (And.intro ha32 (And.intro hb8 (And.intro hn1 hn2)))))
  clear hb1 E hk hra hrb ha32 hb8 hn1 hn2
  have HAW := Lib.hid (fun (w : World) (E : Env w) => cawake_any w E)
  have HBU := Lib.hid (fun (w : World) (E : Env w) (k : Cs) (hk : k.At w w.heap.size) => built_any w E k hk)
  unfold Cs.agg at HBU ⊢
  go_enter Tryd.func7, Tryd.ntmps7
  have x0 := HBX.out.cell 0
  have x1 := HBX.out.cell 1
  have x2 := HBX.out.cell 2
  have x3 := HBX.out.cell 3
  go_wp2_with fail
  generalize W.alloc (.cells #[.int .i64 k.size, .slice k.A k.n k.c, .slice k.A' k.n' k.c', .int .u32 (k.last : Nat)] 26) = W1 at *
  refine (HBU.out W1 HE.out k HK.out).mono ?_
  rintro e w1 ⟨hb1, ⟨hno, rfl⟩ | ⟨hok1, p, q, l1, rfl, A1', G1, R1⟩⟩
  · have HC1 := Lib.hid hb1
    clear hb1 x0 x1 x2 x3
    go_wp2_with fail
    refine (HAW.out _ (HE.out.below HC1.out)).mono ?_
    rintro e wa ⟨rfl, hba⟩
    have HBA := Lib.hid (below_top HC1.out hba)
    clear hba
    go_wp2_with fail
    go_ret
    exact ⟨rfl, HB1.out.trans (HBA.out.mono HB1.out.size)⟩
  · have HC1 := Lib.hid hb1
    have HA1 := Lib.hid A1'
    have HG1 := Lib.hid G1
    have HR1 := Lib.hid R1
    clear hb1 A1' G1 R1 x0 x1 x2 x3
    unfold ptr
    go_wp2_with fail
    refine (HAW.out _ (HE.out.below HC1.out)).mono ?_
    rintro e wa ⟨rfl, hba⟩
    have HCA := Lib.hid (below_top HC1.out hba)
    have HA2 := Lib.hid (HA1.out.below hba)
    have HR2 := Lib.hid (HR1.out.below hba)
    have HRA := Lib.hid (fun (w' : World) (hb : Below wa.heap.size wa w') => (HX.out.1.below (below_top HCA.out hb)).more (below_top HCA.out hb).size)
    have HCN := Lib.hid (fun (w' : World) (hb : Below wa.heap.size wa w') => (canon_any (c := c1) (HA2.out.below hb) HG1.out HG1.out.laid.heads (HE.out.below (below_top HCA.out hb)).spares ser A1 n1 fr (by have := HX.out.2.2.2.2.1; omega) (HRA.out w' hb) HX.out.2.2.1).mono fun e w'' h => canon_flat2 h)
    have HRN := Lib.hid (fun (w' : World) (hb : Below wa.heap.size wa w') => (rcanon_any (c := c1) (HR2.out.below hb) HG1.out ser A1 n1 fr (by have := HX.out.2.2.2.2.1; omega) (HRA.out w' hb) HX.out.2.2.1).mono fun e w'' h => rcanon_flat2 h)
    have HCT := Lib.hid (fun (w' : World) (hb : Below wa.heap.size wa w') => (countC_any (c := c1) (HA2.out.below hb) HG1.out HG1.out.laid.heads (HE.out.below (below_top HCA.out hb)).spares A1 n1 fr (by have := HX.out.2.2.2.2.1; omega) (HRA.out w' hb) HX.out.2.2.1).mono fun e w'' h => count_flat2 h)
    have HRT := Lib.hid (fun (w' : World) (hb : Below wa.heap.size wa w') => (rcountD_any (c := c1) (HR2.out.below hb) HG1.out A1 n1 fr (by have := HX.out.2.2.2.2.1; omega) (HRA.out w' hb) HX.out.2.2.1).mono fun e w'' h => count_flat2 h)
    have HD1 := Lib.hid (fun (w' : World) (hb : Below wa.heap.size wa w') => cdigest_any A2 n2 c2 bs w' HX.out.2.2.2.2.2 ((HX.out.2.1.below (below_top HCA.out hb)).more (below_top HCA.out hb).size) HX.out.2.2.2.1)
    have HD2 := Lib.hid (fun (w' : World) (hb : Below wa.heap.size wa w') => rdigest_any A2 n2 c2 bs w' HX.out.2.2.2.2.2 ((HX.out.2.1.below (below_top HCA.out hb)).more (below_top HCA.out hb).size) HX.out.2.2.2.1)
    unfold ptr at HCN HRN HCT HRT
    unfold CanF2 at HCN HRN
    unfold CntF Gc.cells at HCT HRT
    clear hba HA1 HR1
    generalize k.h.canonB ser fr = cb at *
    generalize k.h.graphE fr = ge at *
    generalize k.h.cntN fr = cn at *
    generalize k.h.cntG fr = cg at *
    obtain ⟨gw, gs, gd, gp⟩ := cg
    dsimp only at HCT HRT
    generalize digM bs = dg at *
    have HF := Lib.hid (fun (w' : World) (hb : Below wa.heap.size wa w') => show Told (.bool true) W (.returned (.bool true)) w' from ⟨rfl, HB1.out.trans ((below_top HCA.out hb).mono HB1.out.size)⟩)
    go_wp2_with fail
    refine (HCN.out _ (Below.refl _ _)).mono ?_
    rintro e w2 ⟨hb2, vx, rfl, ho2⟩
    have HB2 := Lib.hid hb2
    have HO2 := Lib.hid ho2
    clear hb2 ho2 HCN
    go_wp2_with fail
    refine (HRN.out _ HB2.out).mono ?_
    rintro e w3 ⟨hb3, vy, rfl, ho3⟩
    have HB3 := Lib.hid (below_top HB2.out hb3)
    have HO23 := Lib.hid (own_same HO2.out (fun k hk => hb3.block k (HO2.out.lt k hk).2))
    have HO3 := Lib.hid ho3
    clear hb3 ho3 HRN HO2
    go_wp2_with fail
    refine (HCT.out _ HB3.out).mono ?_
    rintro e w4 ⟨hb4, rfl⟩
    have hb4' := hb4.alloc hb4.size (.cells #[.int .i64 (cn : Nat), .int .i64 (gw : Nat), .int .i64 (gs : Nat), .int .i64 (gd : Nat), .int .i64 (gp : Nat)] 72)
    have BX4 := Lib.hid (Blk.new w4 72 #[.int .i64 (cn : Nat), .int .i64 (gw : Nat), .int .i64 (gs : Nat), .int .i64 (gd : Nat), .int .i64 (gp : Nat)])
    have HB4 := Lib.hid (below_top HB3.out hb4')
    have HO24 := Lib.hid (own_same HO23.out (fun k hk => hb4'.block k (HO23.out.lt k hk).2))
    have HO34 := Lib.hid (own_same HO3.out (fun k hk => hb4'.block k (HO3.out.lt k hk).2))
    clear hb4 hb4' HO23 HO3 HCT
    go_wp2_with fail
    generalize w4.heap.size = gX at *
    generalize w4.alloc (.cells #[.int .i64 (cn : Nat), .int .i64 (gw : Nat), .int .i64 (gs : Nat), .int .i64 (gd : Nat), .int .i64 (gp : Nat)] 72) = w5 at *
    refine (HRT.out _ HB4.out).mono ?_
    rintro e w6 ⟨hb6, rfl⟩
    have hb6' := hb6.alloc hb6.size (.cells #[.int .i64 (cn : Nat), .int .i64 (gw : Nat), .int .i64 (gs : Nat), .int .i64 (gd : Nat), .int .i64 (gp : Nat)] 72)
    have BY7 := Lib.hid (Blk.new w6 72 #[.int .i64 (cn : Nat), .int .i64 (gw : Nat), .int .i64 (gs : Nat), .int .i64 (gd : Nat), .int .i64 (gp : Nat)])
    have BX7 := Lib.hid (BX4.out.below hb6' BX4.out.lt)
    have HB7 := Lib.hid (below_top HB4.out hb6')
    have kx := conv_own (own_same HO24.out (fun k hk => hb6'.block k (HO24.out.lt k hk).2))
    have ky := conv_own (own_same HO34.out (fun k hk => hb6'.block k (HO34.out.lt k hk).2))
    clear hb6 hb6' HO24 HO34 HRT BX4
    go_upto_region 8 with fail
    generalize w6.heap.size = gY at *
    generalize w6.alloc (.cells #[.int .i64 (cn : Nat), .int .i64 (gw : Nat), .int .i64 (gs : Nat), .int .i64 (gd : Nat), .int .i64 (gp : Nat)] 72) = w7 at *
    have x0 := BX7.out.cell 0
    have x1 := BX7.out.cell 1
    have x2 := BX7.out.cell 2
    have x3 := BX7.out.cell 3
    have x4 := BX7.out.cell 4
    have y0 := BY7.out.cell 0
    have y1 := BY7.out.cell 1
    have y2 := BY7.out.cell 2
    have y3 := BY7.out.cell 3
    have y4 := BY7.out.cell 4
    generalize strN cb = sx at *
    go_wp2_with fail
    refine (HD1.out _ HB7.out).mono ?_
    rintro e w8 ⟨rfl, rfl⟩
    go_wp2_with fail
    refine (HD2.out _ HB7.out).mono ?_
    rintro e w8 ⟨rfl, rfl⟩
    go_wp2_with fail
    go_ret
    exact HF.out _ HB7.out
theorem canonsC_any (W : World) (E : Env W) (k0 : Cs) (hk0 : k0.At W W.heap.size) (b1 : Bool) (A2 : Option Addr) (nd2 c2 : Nat) (l2 : List Nat) (hnd2 : nd2 ≤ 9223372036854775807) (hr2 : Reads W W.heap.size 1 A2 nd2 (u32s l2)) (hb2 : ∀ y ∈ l2, y < 4294967296) (hlen2 : nd2 ≤ 1048576)
    (A3 : Option Addr) (nd3 c3 : Nat) (l3 : List Nat) (hnd3 : nd3 ≤ 9223372036854775807) (hr3 : Reads W W.heap.size 1 A3 nd3 (u8c l3)) (hb3 : ∀ y ∈ l3, y < 256) (hlen3 : nd3 ≤ 1048576) :
    Calls Tryd.prog 7 #[k0.agg, .bool b1, .slice A2 nd2 c2, .slice A3 nd3 c3] W (Told (.bool true) W) :=
  canonsL_any W E k0 hk0 b1 A2 A3 nd2 nd3 c2 c3 l2 l3 hlen2 hnd3 hr2 hb2 hr3 hb3
end Go.Proofs.YtpajpdjjpgbklaaDoor
