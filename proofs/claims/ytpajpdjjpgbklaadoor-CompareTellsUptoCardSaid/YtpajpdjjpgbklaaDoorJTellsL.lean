/- CompareTells, walked: a difference is there; there is none just if the canonical bytes are the same. -/
import Derived.Test.YtpajpdjjpgbklaaDoorJAwakeC
import Derived.Test.YtpajpdjjpgbklaaDoorJDiffW
import Derived.Test.YtpajpdjjpgbklaaDoorJAlike
import Derived.Test.YtpajpdjjpgbklaaDoorJSlic1
import Derived.Deep.QuietTactic
import Derived.BigQuiet
set_option linter.unusedVariables false
set_option linter.unusedSimpArgs false
namespace Go.Proofs.YtpajpdjjpgbklaaDoor
open Go.RowKit
attribute [local go_sem] Oper.semAt_some

/-- Canon's answer where there is no error. -/
def CanonF (h : HM) (ser : Bool) (fr : List Nat) (L : List Nd) (w : World) (e : Ending) (w' : World) : Prop :=
  ∃ v, e = .returned (.tuple #[v, .int .i64 0]) ∧ GWell h L ∧ w'.ownsRow w.heap.size 5 1 v (canonM h ser fr L).length (u8c (canonM h ser fr L)) ∧ Below w.heap.size w w'
theorem canon_flat {w : World} {p : HP} {h : HM} {ls : List Ob} (H : HAt w p h) (G : h.Good ls) (hs : Spares w) (ser : Bool) (A : Option Addr) (n c : Nat) (fr : List Nat) (hn : n ≤ 10000000000000) (hr : Reads w w.heap.size 1 A n (u32s fr)) (h32 : ∀ x ∈ fr, x < 4294967296)
    (hf : h.fitsB fr = true) {L : List Nd} (hL : seenM h.nmN h.nmAt fr = some L) : Calls Tryd.prog 15 #[ptr p.g, .bool ser, .slice A n c] w (CanonF h ser fr L w) := by
  refine (canon_any H G G.laid.heads hs ser A n c fr hn hr h32).mono ?_
  rintro e w1 ⟨hb, ⟨h1, -⟩ | ⟨-, h1, -⟩ | ⟨-, l, v, h1, hW, rfl, hown⟩⟩
  · rw [hf] at h1; cases h1
  · rw [hL] at h1; cases h1
  · rw [hL] at h1; injection h1 with h1; subst h1
    exact ⟨v, rfl, hW, hown, hb⟩
theorem bytesL_byte {h : HM} {ls : List Ob} (G : h.Good ls) {o : Nat} (hi : h.isB o = true) : ∀ x ∈ h.bytesL o, x < 256 := by
  intro x hk
  unfold HM.bytesL at hk
  obtain ⟨y, _, hy⟩ := List.mem_flatMap.1 (List.mem_of_mem_take hk)
  simp [bytes4] at hy
  omega
theorem canonM_byte {h : HM} {ls : List Ob} (G : h.Good ls) (ser : Bool) (fr : List Nat) {L : List Nd} (W : GWell h L) : ∀ x ∈ canonM h ser fr L, x < 256 := by
  intro x hx
  unfold canonM refsB at hx
  rcases List.mem_append.1 hx with hx | hx
  · obtain ⟨k, _, hk⟩ := List.mem_flatMap.1 hx
    exact cnt7_byte _ x hk
  · obtain ⟨o, ho, hk⟩ := List.mem_flatMap.1 hx
    have hf := HM.hd_fit G.fit (o / 2)
    have h1 := hf.fmt
    have h2 := hf.spare
    unfold HM.objC HM.headB HM.serB refsB HM.contB at hk
    rcases List.mem_append.1 hk with hk | hk
    · rcases List.mem_append.1 hk with hk | hk
      · rcases List.mem_append.1 hk with hk | hk
        · rcases List.mem_append.1 hk with hk | hk
          · simp at hk; omega
          · exact cnt7_byte _ x hk
        · split at hk
          · exact cnt7_byte _ x hk
          · simp at hk
      · obtain ⟨k, _, hk⟩ := List.mem_flatMap.1 hk
        exact cnt7_byte _ x hk
    · split at hk
      · unfold HM.cwB at hk
        obtain ⟨k, _, hk⟩ := List.mem_flatMap.1 hk
        exact cnt7_byte _ x hk
      · split at hk
        · unfold HM.bytesL at hk
          obtain ⟨y, _, hy⟩ := List.mem_flatMap.1 (List.mem_of_mem_take hk)
          simp [bytes4] at hy
          omega
        · simp at hk
theorem str_ne {a b : ByteArray} (h : a ≠ b) : (a.toList == b.toList) = false := by
  rw [Bool.eq_false_iff]
  intro e
  have e2 := eq_of_beq e
  rw [ByteArray.toList_eq, ByteArray.toList_eq] at e2
  obtain ⟨⟨x⟩⟩ := a
  obtain ⟨⟨y⟩⟩ := b
  exact h (by simp at e2; rw [e2])
theorem or_third {a b c d e f : Nat} (h : a ≠ b ∨ c ≠ d ∨ e ≠ f) (h1 : a = b) (h2 : c = d) : e ≠ f := by
  rcases h with x | x | x
  · exact absurd h1 x
  · exact absurd h2 x
  · exact x
theorem fmt_two {f : Nat} (h : f = 1 ∨ f = 2 ∨ f = 3 ∨ f = 4) (h1 : f ≠ 1) (h3 : f ≠ 3) (h4 : f ≠ 4) : f = 2 := by omega
theorem ne_b {a b : Nat} (h : a ≠ b) : ((a : Int) != (b : Int)) = true := by simp; omega
theorem eq_b {a b : Nat} (h : a = b) : ((a : Int) != (b : Int)) = false := by simp [h]
theorem seenE_some {h : HM} {fr : List Nat} (e : h.seenE fr = 0) : ∃ L, seenM h.nmN h.nmAt fr = some L := by
  unfold HM.seenE at e
  cases hL : seenM h.nmN h.nmAt fr with
  | none => rw [hL] at e; simp at e
  | some L => exact ⟨L, rfl⟩
set_option maxRecDepth 100000 in
set_option maxHeartbeats 8000000 in
theorem tellsL_any (W : World) (E : Env W) (k1 k2 : Cs) (h1 : k1.At W W.heap.size) (h2 : k2.At W W.heap.size) (ser : Bool) (A1 A2 : Option Addr) (n1 n2 c1 c2 : Nat) (a b : List Nat) (hn1 : n1 ≤ 10000000000000) (hn2 : n2 ≤ 10000000000000)
    (hra : Reads W W.heap.size 1 A1 n1 (u32s a)) (hrb : Reads W W.heap.size 1 A2 n2 (u32s b)) (ha32 : ∀ y ∈ a, y < 4294967296) (hb32 : ∀ y ∈ b, y < 4294967296) :
    Calls Tryd.prog 5 #[k1.agg, k2.agg, .bool ser, .slice A1 n1 c1, .slice A2 n2 c2] W (Told (.bool true) W) := by
  have hb1 := (Below.refl W.heap.size W).alloc (Nat.le_refl _) (.cells k1.cells 26)
  have hb2 := hb1.alloc (by simp) (.cells k2.cells 26)
  have B1 := (Blk.new W 26 k1.cells).alloc (.cells k2.cells 26)
  have B2 := Blk.new (W.alloc (.cells k1.cells 26)) 26 k2.cells
  rw [World.size_alloc] at B2
  have HB3 := Lib.hid hb2
  have HBX := Lib.hid (And.intro B1 B2)
  have HE := Lib.hid (E.below hb2)
  have HK := Lib.hid (And.intro (h1.below hb2) (h2.below hb2))
  have HRA := Lib.hid ((hra.below hb2).more hb2.size)
  have HRB := Lib.hid ((hrb.below hb2).more hb2.size)
  have HX := Lib.hid (And.intro ha32 hb32)
  have HLN := Lib.hid (show a.length = n1 ∧ b.length = n2 from ⟨by have := hra.1; rw [u32s_len] at this; omega, by have := hrb.1; rw [u32s_len] at this; omega⟩)
  clear hb1 hb2 B1 B2 E h1 h2 hra hrb ha32 hb32
  unfold Cs.cells at HB3 HBX HE HK HRA HRB
  have HAW := Lib.hid (fun (w : World) (E : Env w) => cawake_any w E)
  have HBU := Lib.hid (fun (w : World) (E : Env w) (k : Cs) (hk : k.At w w.heap.size) => built_any w E k hk)
  have HBF := Lib.hid (fun (w : World) (E : Env w) (k : Cs) (hk : k.At w w.heap.size) => built_flat w E k hk)
  unfold Cs.agg at HBU HBF ⊢
  go_enter Tryd.func5, Tryd.ntmps5
  obtain ⟨x0, x1, x2, x3⟩ := cells4 HBX.out.1
  go_wp2_with fail
  clear x0 x1 x2 x3
  generalize (W.alloc (.cells #[.int .i64 k1.size, .slice k1.A k1.n k1.c, .slice k1.A' k1.n' k1.c', .int .u32 (k1.last : Nat)] 26)).alloc (.cells #[.int .i64 k2.size, .slice k2.A k2.n k2.c, .slice k2.A' k2.n' k2.c', .int .u32 (k2.last : Nat)] 26) = W3 at *
  have HFIN := Lib.hid (fun (w' : World) (hb : Below W3.heap.size W3 w') => show Told (.bool true) W (.returned (.bool true)) w' from ⟨rfl, HB3.out.trans (hb.mono HB3.out.size)⟩)
  refine (HBU.out W3 HE.out k1 HK.out.1).mono ?_
  rintro e w1 ⟨hb1, ⟨hno, rfl⟩ | ⟨hok1, p1, q1, l1, rfl, A1', G1, -⟩⟩
  · have HC1 := Lib.hid hb1
    clear hb1
    obtain ⟨y0, y1, y2, y3⟩ := cells4 (HBX.out.2.below HC1.out HBX.out.2.lt)
    go_wp2_with fail
    refine (HBF.out _ (HE.out.below HC1.out) k2 (HK.out.2.below HC1.out)).mono ?_
    rintro e w2 ⟨vw2, qw2, bw2, rfl, hbw2⟩
    have HC2 := Lib.hid (below_top HC1.out hbw2)
    clear hbw2 y0 y1 y2 y3
    go_wp2_with fail
    refine (HAW.out _ (HE.out.below HC2.out)).mono ?_
    rintro e wa ⟨rfl, hba⟩
    have HBA := Lib.hid (below_top HC2.out hba)
    clear hba
    go_wp2_with fail
    go_ret
    exact HFIN.out _ HBA.out
  · have HC1 := Lib.hid hb1
    have HA1 := Lib.hid A1'
    have HG1 := Lib.hid G1
    clear hb1 A1' G1
    obtain ⟨y0, y1, y2, y3⟩ := cells4 (HBX.out.2.below HC1.out HBX.out.2.lt)
    unfold ptr
    go_wp2_with fail
    refine (HBU.out w1 (HE.out.below HC1.out) k2 (HK.out.2.below HC1.out)).mono ?_
    rintro e w2 ⟨hb2, ⟨hno, rfl⟩ | ⟨hok2, p2, q2, l2, rfl, A2', G2, -⟩⟩
    · have HC2 := Lib.hid (below_top HC1.out hb2)
      clear hb2 y0 y1 y2 y3
      go_wp2_with fail
      refine (HAW.out _ (HE.out.below HC2.out)).mono ?_
      rintro e wa ⟨rfl, hba⟩
      have HBA := Lib.hid (below_top HC2.out hba)
      clear hba
      go_wp2_with fail
      go_ret
      exact HFIN.out _ HBA.out
    · have HC2 := Lib.hid (below_top HC1.out hb2)
      have HA1' := Lib.hid (HA1.out.below hb2)
      have HA2 := Lib.hid A2'
      have HG2 := Lib.hid G2
      clear hb2 y0 y1 y2 y3 A2' G2 HA1
      unfold ptr
      go_wp2_with fail
      refine (HAW.out _ (HE.out.below HC2.out)).mono ?_
      rintro e wa ⟨rfl, hba⟩
      have HC4 := Lib.hid (below_top HC2.out hba)
      have HD1 := Lib.hid (HA1'.out.below hba)
      have HD2 := Lib.hid (HA2.out.below hba)
      clear hba HA1' HA2
      have hn19 : n1 ≤ 9223372036854775807 := by omega
      have hn29 : n2 ≤ 9223372036854775807 := by omega
      have HDF := Lib.hid (diff_any HD1.out HG1.out HD2.out HG2.out (HE.out.below HC4.out).spares ser A1 A2 n1 n2 c1 c2 a b hn19 hn29 ((HRA.out.below HC4.out).more HC4.out.size) ((HRB.out.below HC4.out).more HC4.out.size) HX.out.1 HX.out.2)
      unfold ptr at HDF
      go_wp2_with fail
      refine HDF.out.mono ?_
      rintro e w3 ⟨hb3, A, c, rfl, hrd, hcp⟩
      clear HDF
      have HCP := Lib.hid hcp
      clear hcp
      by_cases hE : diffE k1.h k2.h a b = 0
      case neg =>
        have HC5 := Lib.hid (below_top HC4.out (hb3.alloc hb3.size (.cells #[.int .i64 (diffV k1.h k2.h ser a b).kind, .slice A (diffV k1.h k2.h ser a b).path.length c, .int .i64 (diffV k1.h k2.h ser a b).at_] 35)))
        generalize diffV k1.h k2.h ser a b = d at *
        have en : ((diffE k1.h k2.h a b : Int) != 0) = true := by simp; omega
        generalize diffE k1.h k2.h a b = Ee at *
        clear hE hrd hb3
        go_wp2_with fail
        go_ret
        exact HFIN.out _ HC5.out
      case pos =>
      obtain ⟨hlen, hfa, hfb, hsa, hsb⟩ := diffE_len hE
      obtain ⟨L, hL⟩ := seenE_some hsa
      obtain ⟨M, hM⟩ := seenE_some hsb
      have hdv : diffV k1.h k2.h ser a b = diffD k1.h.nmN k1.h.nmAt k2.h.nmAt (k1.h.odM k2.h ser) a b := by unfold diffV; rw [if_pos hE]
      have HTK := Lib.hid (fun WL WM => tells_kind (ser := ser) HG1.out HG2.out hL hM WL WM hlen HX.out.1 HX.out.2)
      have HTW := Lib.hid (fun hk => tells_way (ser := ser) HG1.out HG2.out hfa hfb hlen HX.out.1 HX.out.2 hk)
      have HD0 := Lib.hid (fun h => diffD_none (nN := k1.h.nmN) (nA := k1.h.nmAt) (nB := k2.h.nmAt) (od := k1.h.odM k2.h ser) (a := a) (b := b) (fun o q k x => odM_kind o q k x) h)
      have HSW := Lib.hid (show diffV k2.h k1.h ser b a = diffD k1.h.nmN k1.h.nmAt k2.h.nmAt (k1.h.odM k2.h ser) a b ∧ diffE k2.h k1.h b a = 0 from ⟨by rw [diffV_swap, hdv], by rw [diffE_swap, hE]⟩)
      rw [hdv] at hrd ⊢
      rw [hdv] at HCP
      rw [hE]
      have HFF := Lib.hid (And.intro hfa hfb)
      have HLM := Lib.hid (And.intro hL hM)
      have HLE := Lib.hid hlen
      have HPL := Lib.hid (show (diffD k1.h.nmN k1.h.nmAt k2.h.nmAt (k1.h.odM k2.h ser) a b).path.length ≤ 140737488351232 from Nat.le_trans (diffD_short _ _) (by omega))
      clear hdv hE hlen hfa hfb hsa hsb hL hM
      generalize diffD k1.h.nmN k1.h.nmAt k2.h.nmAt (k1.h.odM k2.h ser) a b = d at *
      have hbD := hb3.alloc hb3.size (.cells #[.int .i64 d.kind, .slice A d.path.length c, .int .i64 d.at_] 35)
      have HC5 := Lib.hid (below_top HC4.out hbD)
      have HBD := Lib.hid (Blk.new w3 35 #[.int .i64 d.kind, .slice A d.path.length c, .int .i64 d.at_])
      have HRD := Lib.hid (hrd.alloc (Nat.le_refl _) (.cells #[.int .i64 d.kind, .slice A d.path.length c, .int .i64 d.at_] 35))
      have HD15 := Lib.hid (HD1.out.below hbD)
      have HD25 := Lib.hid (HD2.out.below hbD)
      clear hb3 hrd hbD
      go_wp2_with fail
      generalize hw4 : w3.alloc (.cells #[.int .i64 d.kind, .slice A d.path.length c, .int .i64 d.at_] 35) = w4 at *
      have hs4 : w3.heap.size < w4.heap.size := by rw [← hw4]; simp
      replace HRD := Lib.hid (HRD.out.more (Nat.le_of_lt hs4))
      generalize w3.heap.size = gD at *
      clear hw4
      have HCN := Lib.hid (canon_flat (c := c1) HD15.out HG1.out (HE.out.below HC5.out).spares ser A1 n1 a hn1 ((HRA.out.below HC5.out).more HC5.out.size) HX.out.1 HFF.out.1 HLM.out.1)
      unfold ptr at HCN
      refine HCN.out.mono ?_
      rintro e w5 ⟨vx, rfl, WL, ownx, hb5⟩
      have HC6 := Lib.hid (below_top HC5.out hb5)
      have HD26 := Lib.hid (HD25.out.below hb5)
      have HCN2 := Lib.hid (canon_flat (c := c2) HD26.out HG2.out (HE.out.below HC6.out).spares ser A2 n2 b hn2 ((HRB.out.below HC6.out).more HC6.out.size) HX.out.2 HFF.out.2 HLM.out.2)
      have HB5 := Lib.hid hb5
      have HOX := Lib.hid ownx
      unfold ptr at HCN2
      clear hb5 ownx HCN
      go_wp2_with fail
      refine HCN2.out.mono ?_
      rintro e w6 ⟨vy, rfl, WM, owny, hb6⟩
      have HC7 := Lib.hid (below_top HC6.out hb6)
      have hb46 := below_top HB5.out hb6
      have HD17 := Lib.hid (HD15.out.below hb46)
      have HD27 := Lib.hid (HD25.out.below hb46)
      have HBD7 := Lib.hid (HBD.out.below hb46 HBD.out.lt)
      have HRD7 := Lib.hid ((HRD.out.below hb46).more hb46.size)
      have kx := conv_own (own_same HOX.out (fun k hk => hb6.block k (HOX.out.lt k hk).2))
      have ky := conv_own owny
      have HSI := Lib.hid (strN_inj (canonM_byte HG1.out ser a WL) (canonM_byte HG2.out ser b WM))
      have HTE := Lib.hid (HTK.out WL WM)
      have HDF2 := Lib.hid (diff_any HD27.out HG2.out HD17.out HG1.out (HE.out.below HC7.out).spares ser A2 A1 n2 n1 c2 c1 b a hn29 hn19 ((HRB.out.below HC7.out).more HC7.out.size) ((HRA.out.below HC7.out).more HC7.out.size) HX.out.2 HX.out.1)
      unfold ptr at HDF2
      unfold DiffP at HDF2
      rw [HSW.out.1, HSW.out.2] at HDF2
      obtain ⟨d0, d1, d2⟩ := HBD7.out.cells3
      clear hb6 hb46 HCN2 HD15 HD25 HD26 HBD HRD HOX owny WL WM HTK HSW HB5
      generalize canonM k1.h ser a L = X at *
      generalize canonM k2.h ser b M = Y at *
      generalize strN X = sx at *
      generalize strN Y = sy at *
      by_cases hk0 : d.kind = 0
      case pos =>
        have hss := HSI.out.2 (HTE.out.1 hk0)
        have hdd := HD0.out hk0
        subst hss
        subst hdd
        have en : ((n1 : Int) != 0) = ((n1 : Int) != 0) := rfl
        clear en hk0
        go_wp2_with fail
        refine HDF2.out.mono ?_
        rintro e w7 ⟨hb7, A', c', rfl, hrd', -⟩
        have hbD2 := hb7.alloc hb7.size (.cells #[.int .i64 0, .slice A' 0 c', .int .i64 0] 35)
        have HC8 := Lib.hid (below_top HC7.out hbD2)
        have BD8 := HBD7.out.below hbD2 HBD7.out.lt
        have BE8 := Blk.new w7 35 #[.int .i64 0, .slice A' 0 c', .int .i64 0]
        have HBD8 := Lib.hid BD8
        have f0 : (w7.alloc (.cells #[.int .i64 0, .slice A' 0 c', .int .i64 0] 35)).cell? ⟨gD, 0, none⟩ = some (.int .i64 0) := BD8.cell 0
        have f1 : (w7.alloc (.cells #[.int .i64 0, .slice A' 0 c', .int .i64 0] 35)).cell? ⟨gD, 1, none⟩ = some (.slice A 0 c) := BD8.cell 1
        obtain ⟨g0, g1, g2⟩ := BE8.cells3
        clear hb7 hrd' hbD2 BD8 BE8 HDF2 kx ky
        go_wp2_with fail
        refine (ints_any A A' 0 0 c c' [] [] (by decide) (by decide) ⟨rfl, fun h => by omega⟩ ⟨rfl, fun h => by omega⟩).mono ?_
        rintro e w8 ⟨rfl, hb8⟩
        have HC9 := Lib.hid (below_top HC8.out hb8)
        have BD9 := HBD8.out.below hb8 HBD8.out.lt
        have i0 : w8.cell? ⟨gD, 0, none⟩ = some (.int .i64 0) := BD9.cell 0
        have i1 : w8.cell? ⟨gD, 1, none⟩ = some (.slice A 0 c) := BD9.cell 1
        rw [show decide (([] : List Int) = []) = true from rfl]
        clear hb8 BD9 f0 f1 g0 g1 g2
        go_wp2_with fail
        go_ret
        exact HFIN.out _ HC9.out
      case neg =>
        have hss : (sx.toList == sy.toList) = false := str_ne (fun e => hk0 (HTE.out.2 (HSI.out.1 e)))
        have ek : ((d.kind : Int) == 0) = false := by simp; omega
        have ekk : ((d.kind : Int) != (d.kind : Int)) = false := by simp
        have HW := Lib.hid (HTW.out hk0)
        clear hk0
        go_wp2_with fail
        refine HDF2.out.mono ?_
        rintro e w7 ⟨hb7, A', c', rfl, hrd', -⟩
        have hbD2 := hb7.alloc hb7.size (.cells #[.int .i64 d.kind, .slice A' d.path.length c', .int .i64 d.at_] 35)
        have HC8 := Lib.hid (below_top HC7.out hbD2)
        have BD8 := HBD7.out.below hbD2 HBD7.out.lt
        have BE8 := Blk.new w7 35 #[.int .i64 d.kind, .slice A' d.path.length c', .int .i64 d.at_]
        have HRE := Lib.hid ((hrd'.alloc (Nat.le_refl _) (.cells #[.int .i64 d.kind, .slice A' d.path.length c', .int .i64 d.at_] 35)).more (show w7.heap.size ≤ (w7.alloc (.cells #[.int .i64 d.kind, .slice A' d.path.length c', .int .i64 d.at_] 35)).heap.size by simp))
        have HRD8 := Lib.hid ((HRD7.out.below hbD2).more hbD2.size)
        have HD18 := Lib.hid (HD17.out.below hbD2)
        have HD28 := Lib.hid (HD27.out.below hbD2)
        have HBD8 := Lib.hid BD8
        obtain ⟨f0, f1, f2⟩ := BD8.cells3
        obtain ⟨g0, g1, g2⟩ := BE8.cells3
        clear hb7 hrd' hbD2 BD8 BE8 HDF2 kx ky HD17 HD27 HBD7 HRD7
        obtain ⟨kk, r, u, v, hkk, hpath, hfu, hfv, hu32, hv32, hend⟩ := HW.out
        have hpl := congrArg List.length hpath
        have HPT := Lib.hid hpath
        have HFU := Lib.hid (And.intro hfu hfv)
        have HEN := Lib.hid hend
        have hka : kk < n1 := by have := HLN.out.1; omega
        have hkb : kk < n2 := by have h1 := HLN.out.2; have h2 := HLE.out; omega
        have hp10 : d.path.length ≤ 140737488351232 := HPL.out
        have ep0 : 0 < d.path.length := by rw [List.length_cons] at hpl; omega
        have ep : ((d.path.length : Int) == 0) = false := beq_eq_false_iff_ne.2 (by omega)
        have ep1 : ¬ (d.path.length : Int) ≤ 0 := by omega
        have ep2 : (0 : Int) < (d.path.length : Int) := by omega
        have HPLN := Lib.hid hpl
        clear hpath hfu hfv hend HW hkk hpl
        go_wp2_with fail
        refine (ints_any A A' d.path.length d.path.length c c' d.path d.path hp10 hp10 HRD8.out HRE.out).mono ?_
        rintro e w8 ⟨rfl, hb8⟩
        have HC9 := Lib.hid (below_top HC8.out hb8)
        have HBD9 := Lib.hid (HBD8.out.below hb8 HBD8.out.lt)
        have HRD9 := Lib.hid ((HRD8.out.below hb8).more hb8.size)
        have HD19 := Lib.hid (HD18.out.below hb8)
        have HD29 := Lib.hid (HD28.out.below hb8)
        obtain ⟨i0, i1, i2⟩ := HBD9.out.cells3
        obtain ⟨adP, uP, eAP, hblP, hxP, kP⟩ := HRD9.out.at_ (k := 0) ep0
        subst eAP
        have hxP2 : uP = .int .i64 (kk : Int) := by
          rw [HPT.out] at hxP
          simpa [intZ] using hxP.symm
        subst hxP2
        rw [show decide (d.path = d.path) = true by simp]
        replace kP : w8.cell? adP = some (.int .i64 (kk : Int)) := by simpa [Addr.add] using kP
        clear hb8 f0 f1 f2 g0 g1 g2 hxP HRD8 HD18 HD28 HBD8
        have hk0' : decide ((kk : Int) < 0) = false := by simp
        have hk1' : decide ((kk : Int) ≥ (n1 : Int)) = false := by simp; omega
        have hk2' : decide ((n1 : Int) ≤ (kk : Int)) = false := by simp; omega
        obtain ⟨T, hT⟩ : ∃ T, T = (if c = 1 then some adP else some (adP.add 1)) := ⟨_, rfl⟩
        have HT := Lib.hid hT
        clear hT
        obtain ⟨adA, uadA, eadA, hbladA, hxadA, kadA⟩ := ((HRA.out.below HC9.out).more HC9.out.size).at_ (k := kk) hka
        subst eadA
        rw [u32s_get (show kk < a.length by have h1 := HLN.out; omega)] at hxadA
        injection hxadA with hxadA
        subst hxadA
        have hsl := fun wx => slice_from1 wx adP d.path.length c ep0
        have HFO := Lib.hid (fun d9 os => follow_tail (ls := l1) (d := d9) (os := os) HD19.out HG1.out (HE.out.below HC9.out).spares (HX.out.1 _ (by rw [List.getD_eq_getElem?_getD, List.getElem?_eq_getElem (show kk < a.length by have h1 := HLN.out; omega)]; exact List.getElem_mem _)) (n := d.path.length) (c := c) (k := (kk : Int)) (r := r) (by omega) (by have := HRD9.out; rw [HPT.out] at this; rw [HPT.out]; exact this) HCP.out HFU.out.1)
        rw [← HT.out] at HFO
        simp only [← HT.out] at hsl
        unfold ptr at HFO
        go_upto_region 19 with fail
        replace i1 := cell_regrown i1
        replace kP := cell_regrown kP
        replace kadA := cell_regrown kadA
        refine wp_region_quiet_below (by kernel_rfl) (by kernel_rfl) ?_
        repeat (quiet_step ((go_at_call 17; exact Calls.regrown_of (HFO.out _ _))))
        refine wpQuiet_nil ?_
        intro wq hwq
        obtain ⟨⟨dq, osq⟩, hw''⟩ := hwq
        subst hw''
        have hbq := below_regrown w8 dq osq
        have HC10 := Lib.hid (below_top HC9.out hbq)
        clear i0 i1 i2 kP kadA hsl HFO
        have HBD9q' := Lib.hid (HBD9.out.below hbq HBD9.out.lt)
        have HRD9q' := Lib.hid ((HRD9.out.below hbq).more hbq.size)
        have HD19q' := Lib.hid (HD19.out.below hbq)
        have HD29q' := Lib.hid (HD29.out.below hbq)
        clear hbq HBD9 HRD9 HD19 HD29
        have HBD9q := HBD9q'
        have HRD9q := HRD9q'
        have HD19q := HD19q'
        have HD29q := HD29q'
        clear HBD9q' HRD9q' HD19q' HD29q'
        generalize Go.Sort.grow (redrawn w8 dq) osq = wa1 at *
        obtain ⟨i0, i1, i2⟩ := HBD9q.out.cells3
        obtain ⟨adP', uP', eAP', hblP', hxP', kP⟩ := HRD9q.out.at_ (k := 0) ep0
        injection eAP' with eAP'
        subst eAP'
        have hxP2' : uP' = .int .i64 (kk : Int) := by
          rw [HPT.out] at hxP'
          simpa [intZ] using hxP'.symm
        subst hxP2'
        replace kP : wa1.cell? adP = some (.int .i64 (kk : Int)) := by simpa [Addr.add] using kP
        clear hxP' hblP'
        obtain ⟨adB, uadB, eadB, hbladB, hxadB, kadB⟩ := ((HRB.out.below HC10.out).more HC10.out.size).at_ (k := kk) hkb
        subst eadB
        rw [u32s_get (show kk < b.length by have h1 := HLN.out; omega)] at hxadB
        injection hxadB with hxadB
        subst hxadB
        have hsl := fun wx => slice_from1 wx adP d.path.length c ep0
        have HFO := Lib.hid (fun d9 os => follow_tail (ls := l2) (d := d9) (os := os) HD29q.out HG2.out (HE.out.below HC10.out).spares (HX.out.2 _ (by rw [List.getD_eq_getElem?_getD, List.getElem?_eq_getElem (show kk < b.length by have h1 := HLN.out; omega)]; exact List.getElem_mem _)) (n := d.path.length) (c := c) (k := (kk : Int)) (r := r) (by omega) (by have := HRD9q.out; rw [HPT.out] at this; rw [HPT.out]; exact this) HCP.out HFU.out.2)
        rw [← HT.out] at HFO
        simp only [← HT.out] at hsl
        unfold ptr at HFO
        go_upto_region 20 with fail
        replace i1 := cell_regrown i1
        replace kP := cell_regrown kP
        replace kadB := cell_regrown kadB
        refine wp_region_quiet_below (by kernel_rfl) (by kernel_rfl) ?_
        repeat (quiet_step ((go_at_call 17; exact Calls.regrown_of (HFO.out _ _))))
        refine wpQuiet_nil ?_
        intro wq hwq
        obtain ⟨⟨dq, osq⟩, hw''⟩ := hwq
        subst hw''
        have hbq := below_regrown wa1 dq osq
        have HC11 := Lib.hid (below_top HC10.out hbq)
        clear i0 i1 i2 kP kadB hsl HFO
        have HBD9q' := Lib.hid (HBD9q.out.below hbq HBD9q.out.lt)
        have HRD9q' := Lib.hid ((HRD9q.out.below hbq).more hbq.size)
        have HD19q' := Lib.hid (HD19q.out.below hbq)
        have HD29q' := Lib.hid (HD29q.out.below hbq)
        clear hbq HBD9q HRD9q HD19q HD29q
        have HBD9q := HBD9q'
        have HRD9q := HRD9q'
        have HD19q := HD19q'
        have HD29q := HD29q'
        clear HBD9q' HRD9q' HD19q' HD29q'
        generalize Go.Sort.grow (redrawn wa1 dq) osq = wa2 at *
        obtain ⟨i0, i1, i2⟩ := HBD9q.out.cells3
        clear hk0' hk1' hk2' hblP hbladA hbladB HRA HRB HRD9q i0 i1 i2
        obtain ⟨X, EX, hX, hXo⟩ := header_is k1.h u
        have HOX := Lib.hid hXo
        have HHX := Lib.hid (Header_any HD19q.out HG1.out.fit HG1.out.laid.heads (HE.out.below HC11.out).spares u hu32)
        rw [hX] at HHX
        unfold ptr at HHX
        clear hX hXo
        go_wp2_with fail
        refine HHX.out.mono ?_
        rintro e wb1 ⟨rfl, hbb⟩
        have hbX := hbb.alloc hbb.size (.cells #[.int .i64 X.size, .int .i64 X.fmt, .int .i64 X.spare, .int .u32 X.cls, .int .u32 X.ser] 55)
        have HC12 := Lib.hid (below_top HC11.out hbX)
        have HBX := Lib.hid (Blk.new wb1 55 #[.int .i64 X.size, .int .i64 X.fmt, .int .i64 X.spare, .int .u32 X.cls, .int .u32 X.ser])
        have B9n := HBD9q.out.below hbX HBD9q.out.lt
        have D1n := HD19q.out.below hbX
        have D2n := HD29q.out.below hbX
        clear HBD9q HD19q HD29q hbX hbb HHX
        have HBD9q := Lib.hid B9n
        have HD19q := Lib.hid D1n
        have HD29q := Lib.hid D2n
        clear B9n D1n D2n
        obtain ⟨x0, x1, x2, x3, x4⟩ := HBX.out.cells5
        obtain ⟨Y, EY, hY, hYo⟩ := header_is k2.h v
        have HOY := Lib.hid hYo
        have HHY := Lib.hid (Header_any HD29q.out HG2.out.fit HG2.out.laid.heads (HE.out.below HC12.out).spares v hv32)
        rw [hY] at HHY
        unfold ptr at HHY
        clear hY hYo
        go_wp2_with fail
        refine HHY.out.mono ?_
        rintro e wb2 ⟨rfl, hbb⟩
        have hbX := hbb.alloc hbb.size (.cells #[.int .i64 Y.size, .int .i64 Y.fmt, .int .i64 Y.spare, .int .u32 Y.cls, .int .u32 Y.ser] 55)
        have HC13 := Lib.hid (below_top HC12.out hbX)
        have HBY := Lib.hid (Blk.new wb2 55 #[.int .i64 Y.size, .int .i64 Y.fmt, .int .i64 Y.spare, .int .u32 Y.cls, .int .u32 Y.ser])
        have B9n := HBD9q.out.below hbX HBD9q.out.lt
        have D1n := HD19q.out.below hbX
        have D2n := HD29q.out.below hbX
        have BXn := HBX.out.below hbX HBX.out.lt
        clear HBX
        have HBX := Lib.hid BXn
        clear BXn
        clear HBD9q HD19q HD29q hbX hbb HHY
        have HBD9q := Lib.hid B9n
        have HD19q := Lib.hid D1n
        have HD29q := Lib.hid D2n
        clear B9n D1n D2n
        obtain ⟨y0, y1, y2, y3, y4⟩ := HBY.out.cells5
        obtain ⟨x0, x1, x2, x3, x4⟩ := HBX.out.cells5
        obtain ⟨i0, i1, i2⟩ := HBD9q.out.cells3
        rcases HEN.out with ⟨hk, hd⟩ | ⟨hk, ha, hb, hd⟩ | ⟨hk, iu, iv, hd⟩ | ⟨hk, iu, iv, hs, hd⟩ | ⟨hk, iu, iv, hf, hz, hsp, hpt, hat, hd⟩ | ⟨hk, iu, iv⟩
        case inl =>
          rw [hk] at i0
          have hd2 : ((kindM u : Int) != (kindM v : Int)) = true := ne_b hd
          clear hk hd
          go_wp2_with fail
          refine (rkind_any u hu32 _).mono ?_
          rintro e w9 ⟨rfl, rfl⟩
          go_wp2_with fail
          refine (rkind_any v hv32 _).mono ?_
          rintro e w9 ⟨rfl, rfl⟩
          go_wp2_with fail
          go_ret
          exact HFIN.out _ HC13.out
        case inr.inl =>
          rw [hk] at i0
          have hd2 : ((u : Int) != (v : Int)) = true := ne_b hd
          have K1 := Lib.hid (fun w => rkind_any u hu32 w)
          have K2 := Lib.hid (fun w => rkind_any v hv32 w)
          rw [ha] at K1
          rw [hb] at K2
          clear hk hd
          go_wp2_with fail
          refine (K1.out _).mono ?_
          rintro e w9 ⟨rfl, rfl⟩
          go_wp2_with fail
          refine (K2.out _).mono ?_
          rintro e w9 ⟨rfl, rfl⟩
          go_wp2_with fail
          go_ret
          exact HFIN.out _ HC13.out
        case inr.inr.inl =>
          rw [hk] at i0
          rw [← HOX.out iu, ← HOY.out iv] at hd
          clear hk iu iv
          by_cases e1 : X.fmt = Y.fmt
          · have f1 : ((X.fmt : Int) != (Y.fmt : Int)) = false := eq_b e1
            by_cases e2 : X.size = Y.size
            · have f2 : ((X.size : Int) != (Y.size : Int)) = false := eq_b e2
              have f3 : ((X.spare : Int) != (Y.spare : Int)) = true := ne_b (or_third hd e1 e2)
              clear hd e1 e2
              go_wp2_with fail
              go_ret
              exact HFIN.out _ HC13.out
            · have f2 : ((X.size : Int) != (Y.size : Int)) = true := ne_b e2
              clear hd e1 e2
              go_wp2_with fail
              go_ret
              exact HFIN.out _ HC13.out
          · have f1 : ((X.fmt : Int) != (Y.fmt : Int)) = true := ne_b e1
            clear hd e1
            go_wp2_with fail
            go_ret
            exact HFIN.out _ HC13.out
        case inr.inr.inr.inl =>
          rw [hk] at i0
          rw [← HOX.out iu, ← HOY.out iv] at hd
          clear hk iu iv
          subst hs
          have f1 : ((X.ser : Int) != (Y.ser : Int)) = true := ne_b hd
          clear hd
          go_wp2_with fail
          go_ret
          exact HFIN.out _ HC13.out
        case inr.inr.inr.inr.inl =>
          rw [hk] at i0
          have hX := HOX.out iu
          have hY := HOY.out iv
          by_cases h3 : (k1.h.hd (u / 2)).fmt = 3
          · have f3 : ((X.fmt : Int) == 3) = true := by rw [hX, h3]; rfl
            have hd2 : ((fw k1.h u d.at_ : Int) != (fw k2.h v d.at_ : Int)) = true := ne_b hd
            have HW1 := Lib.hid (word_good HD19q.out HG1.out.fit HG1.out.laid.heads (HE.out.below HC13.out).spares hu32 iu h3 hat)
            have HW2 := Lib.hid (fun w hb => word_good (HD29q.out.below (w' := w) hb) HG2.out.fit HG2.out.laid.heads ((HE.out.below HC13.out).spares.below hb) hv32 iv (by rw [← hf]; exact h3) (by rw [← hz]; exact hat))
            clear hk hd hf hz hsp hpt hat hX hY iu iv
            unfold ptr at HW1 HW2
            go_wp2_with fail
            refine HW1.out.mono ?_
            rintro e w9 ⟨rfl, hb9⟩
            have HC14 := Lib.hid (below_top HC13.out hb9)
            have HW3 := Lib.hid (HW2.out _ hb9)
            obtain ⟨j0, j1, j2⟩ := (HBD9q.out.below hb9 HBD9q.out.lt).cells3
            clear hb9 HW1 HW2 x0 x1 x2 x3 x4 y0 y1 y2 y3 y4 i0 i1 i2
            go_wp2_with fail
            refine HW3.out.mono ?_
            rintro e w10 ⟨rfl, hb10⟩
            have HC15 := Lib.hid (below_top HC14.out hb10)
            clear hb10 HW3 j0 j1 j2
            go_wp2_with fail
            go_ret
            exact HFIN.out _ HC15.out
          · have h2 : (k1.h.hd (u / 2)).fmt = 2 := by
              have h1 := hpt
              unfold Hd.ptrB at h1
              simp only [Bool.or_eq_false_iff, decide_eq_false_iff_not] at h1
              exact fmt_two (good_fmt HG1.out iu) h1.1 h3 h1.2
            have h2v : (k2.h.hd (v / 2)).fmt = 2 := by rw [← hf]; exact h2
            have f3 : ((X.fmt : Int) == 3) = false := by rw [hX, h2]; rfl
            have hne := bytesL_ne HG1.out HG2.out iu iv hf hz hsp h2 hat hd
            have HS := Lib.hid (str_ne (fun e => hne ((strN_inj (bytesL_byte HG1.out iu) (bytesL_byte HG2.out iv)).1 e)))
            have HW1 := Lib.hid (bytes_any HD19q.out HG1.out.fit HG1.out.laid.heads (HE.out.below HC13.out).spares u hu32)
            have HW2 := Lib.hid (fun w hb => bytes_any (HD29q.out.below (w' := w) hb) HG2.out.fit HG2.out.laid.heads ((HE.out.below HC13.out).spares.below hb) v hv32)
            have HR1 := Lib.hid (And.intro (good_bytesE HG1.out iu h2) (bytes_room HG1.out iu h2))
            have HR2 := Lib.hid (And.intro (good_bytesE HG2.out iv h2v) (bytes_room HG2.out iv h2v))
            clear hk hd hf hz hsp hpt hat hX hY iu iv hne h2 h2v
            unfold ptr at HW1 HW2
            go_wp2_with fail
            refine HW1.out.mono ?_
            rintro e w9 ⟨hb9, hv9⟩
            rw [if_pos HR1.out.1] at hv9
            obtain ⟨g9, c9, rfl, hr9, -⟩ := hv9
            have HC14 := Lib.hid (below_top HC13.out hb9)
            have HW3 := Lib.hid (HW2.out _ hb9)
            have HRW := Lib.hid hr9
            clear hb9 HW1 HW2 hr9 x0 x1 x2 x3 x4 y0 y1 y2 y3 y4 i0 i1 i2
            go_wp2_with fail
            refine HW3.out.mono ?_
            rintro e w10 ⟨hb10, hv10⟩
            rw [if_pos HR2.out.1] at hv10
            obtain ⟨g10, c10, rfl, hr10, -⟩ := hv10
            have HC15 := Lib.hid (below_top HC14.out hb10)
            have kx := bytes_conv (c2 := (k1.h.hd (u / 2)).len) (HRW.out.below hb10) HR1.out.2
            have ky := bytes_conv (c2 := (k2.h.hd (v / 2)).len) hr10 HR2.out.2
            have hss : (strN ((bytesM (k1.h.fields u)).take (k1.h.hd (u / 2)).len)).toList.isEqv [] (· == ·) = (strN ((bytesM (k1.h.fields u)).take (k1.h.hd (u / 2)).len)).toList.isEqv [] (· == ·) := rfl
            clear hss
            have hss := HS.out
            unfold HM.bytesL at hss
            clear hb10 hr10 HW3
            go_wp2_with fail
            go_ret
            exact HFIN.out _ HC15.out
        case inr.inr.inr.inr.inr =>
          rw [hk] at i0
          have K1 := Lib.hid (is_any HD19q.out HG1.out.fit u hu32)
          have K2 := Lib.hid (is_any HD29q.out HG2.out.fit v hv32)
          rw [iu] at K1
          rw [iv] at K2
          unfold ptr at K1 K2
          clear hk iu iv
          go_wp2_with fail
          refine K1.out.mono ?_
          rintro e w9 ⟨rfl, rfl⟩
          go_wp2_with fail
          refine K2.out.mono ?_
          rintro e w9 ⟨rfl, rfl⟩
          go_wp2_with fail
          go_ret
          exact HFIN.out _ HC13.out
end Go.Proofs.YtpajpdjjpgbklaaDoor
