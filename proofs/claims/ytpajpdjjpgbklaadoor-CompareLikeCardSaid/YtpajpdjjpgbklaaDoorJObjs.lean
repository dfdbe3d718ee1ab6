/- (*pair).objects: two objects held against each other, ahead of what they name. -/
import Derived.Test.YtpajpdjjpgbklaaDoorJTellsH
import Derived.Test.YtpajpdjjpgbklaaDoorJValues
import Derived.Deep.RegionHeld3
import Derived.Deep.QuietTactic
import Derived.BigQuiet
set_option linter.unusedVariables false
namespace Go.Proofs.YtpajpdjjpgbklaaDoor
open Go.RowKit Go.Maps
attribute [local go_sem] Oper.semAt_some

theorem pathF_len (l : List Nd) : ∀ f i, (pathF l f i).length ≤ f
  | 0, _ => by simp [pathF]
  | f + 1, i => by
    unfold pathF
    split
    · simp
    · have := pathF_len l f (l.getD i default).par.toNat
      rw [List.length_append, List.length_cons, List.length_nil]; omega
theorem pathM_len (l : List Nd) (i : Nat) : (pathM l i).length ≤ i + 1 := pathF_len l _ _
theorem pathM_pos (l : List Nd) (i : Nat) : 0 < (pathM l i).length := by unfold pathM pathF; split <;> simp
/-- What objects tells. -/
def ObjectsP (B : Nat) (x : PA) (hvA hvB : Value) (r : PRows) (t0 t1 t2 : Value) (l m : List Nd) (ps : List Value) (od : Option (Nat × Nat)) (i : Nat) (w : World) (e : Ending) (w' : World) : Prop :=
  (od = none ∧ e = .returned (.bool false) ∧ PAt w' B x hvA hvB r t0 t1 t2 l m l ps ∧ Below w.heap.size w w') ∨
    (∃ k a, od = some (k, a) ∧ DifferP B x hvA hvB r l m l ps k (pathM l i) a w e w')
theorem DifferP.after {B : Nat} {x : PA} {hvA hvB : Value} {r : PRows} {l m lw : List Nd} {ps : List Value} {kd : Nat} {path : List Int} {at_ : Nat} {w w1 : World} {e : Ending} {w' : World} (h : DifferP B x hvA hvB r l m lw ps kd path at_ w1 e w') (hb : Below w.heap.size w w1) :
    DifferP B x hvA hvB r l m lw ps kd path at_ w e w' := by
  obtain ⟨h1, h2, g, c, h3, h4, h5⟩ := h
  exact ⟨h1, (PStep.of_below hb).trans h2, g, c, h3, h4, Nat.le_trans hb.size h5⟩
theorem fields_reads {w : World} {B : Nat} {A : Option Addr} {n : Nat} {ys : List Nat} (h : Reads w B 1 A n (u32s ys)) (hn : 0 < n) : ∃ ad, A = some ad ∧ ad.block < B := by
  obtain ⟨ad, e, hb, _⟩ := h.2 hn
  exact ⟨ad, e, hb⟩
/-- A row of words that is read. -/
def RdP (ys : List Nat) (n : Nat) (w : World) (e : Ending) (w' : World) : Prop :=
  ∃ A c, e = .returned (.slice A n c) ∧ Reads w' w'.heap.size 1 A n (u32s ys) ∧ Below w.heap.size w w'
theorem ContP.rd {h : HM} {o n : Nat} {w w' : World} {e : Ending} (H : ContP h o w e w') (hn : (h.fields o).length = n) : RdP (h.fields o) n w e w' := by
  obtain ⟨v, rfl, h1, h2⟩ := H
  obtain ⟨A, c, rfl, hr⟩ := own_slice h1
  subst hn
  exact ⟨A, c, rfl, hr, h2⟩
theorem fields_fwD {h : HM} {ls : List Ob} (G : h.Good ls) {o : Nat} (hi : h.isB o = true) {k : Nat} (hk : k < (h.hd (o / 2)).size) : (u32s (h.fields o))[k]? = some (.int .u32 (fw h o k : Nat)) := by
  obtain ⟨b, hb, e1, e2, ok, e3⟩ := good_at G hi
  have hk2 : k < b.fs.length := by have := ok.size; rw [e1] at hk; omega
  rw [e2, u32s_get hk2, e3 k hk2]
set_option maxRecDepth 100000 in
set_option maxHeartbeats 4000000 in
theorem objects_any {w : World} {B : Nat} {x : PA} {p q : HP} {g h : HM} {lg lh : List Ob} {r : PRows} {t0 t1 t2 : Value} {l m : List Nd} {ps : List Value} (P : PAt w B x (.pointer (some ⟨p.g, 0, none⟩)) (.pointer (some ⟨q.g, 0, none⟩)) r t0 t1 t2 l m l ps)
    (HA : HAt w p g) (GA : g.Good lg) (HB : HAt w q h) (GB : h.Good lh) (sp : Spares w) (S : Side l m) (ser : Bool) (i : Nat) (hi : i < l.length) (hll : l.length ≤ 4000000) (hiA : g.isB (oAt l i) = true) (hiB : h.isB (oAt m i) = true) :
    Calls Tryd.prog 74 #[.pointer (some ⟨x.gP, 0, none⟩), .int .i64 i, .bool ser] w (ObjectsP B x (.pointer (some ⟨p.g, 0, none⟩)) (.pointer (some ⟨q.g, 0, none⟩)) r t0 t1 t2 l m ps (g.odM h ser (oAt l i) (oAt m i)) i w) := by
  have HP := Lib.hid P
  have p0 := P.box.cell 0
  have p1 := P.box.cell 1
  have p2 := P.box.cell 2
  have a0 := P.ga.box.cell 0
  have a1 := P.ga.box.cell 1
  have b0 := P.gb.box.cell 0
  have b1 := P.gb.box.cell 1
  obtain ⟨AA, cA, eA, hrA⟩ := own_slice P.ga.met
  obtain ⟨AB, cB, eB, hrB⟩ := own_slice P.gb.met
  obtain ⟨AP, cP, eP, hrP⟩ := own_slice P.paths
  have hiM : i < m.length := by rw [S.len]; exact hi
  have hml : m.length ≤ 4000000 := by rw [S.len]; exact hll
  obtain ⟨adA, uA, rfl, hblA, hxA, kA⟩ := hrA.at_ hi
  obtain ⟨adB, uB, rfl, hblB, hxB, kB⟩ := hrB.at_ hiM
  rw [u32s_get (by rw [oopsOf_len]; exact hi), oops_oAt] at hxA
  rw [u32s_get (by rw [oopsOf_len]; exact hiM), oops_oAt] at hxB
  injection hxA with hxA
  injection hxB with hxB
  subst hxA
  subst hxB
  rw [eA] at a1
  rw [eB] at b1
  have hps : ps.length = l.length := P.plen
  obtain ⟨adP, uP, rfl, hblP, hxP, kP⟩ := hrP.at_ (k := i) (by omega)
  obtain ⟨gw, cw, hvw, hroww, -, -, -⟩ := P.ways i hi
  have huP : uP = .slice (some ⟨gw, 0, none⟩) (pathM l i).length cw := by
    rw [← hvw, List.getD_eq_getElem?_getD, hxP]; rfl
  subst huP
  have HEP := Lib.hid eP
  have HKP := Lib.hid (fun (w' : World) (hb : Below w.heap.size w w') => show w'.cell? (adP.add i) = some (.slice (some ⟨gw, 0, none⟩) (pathM l i).length cw) from (hb.cell (World.block_lt_of_cell? _ _ kP)).trans kP)
  have hpl := pathM_len l i
  have hpp := pathM_pos l i
  have HDF := Lib.hid (fun (w' : World) (hb : Below w.heap.size w w') (kd at_ : Nat) (hk : kd ≤ 255) => (differ_any (c := cw) (P.below hb) (show Reads w' w'.heap.size 1 (some ⟨gw, 0, none⟩) (pathM l i).length (intZ (pathM l i)) by
    have hr := (hroww.below hb).reads (hroww.below hb).lt
    rw [intZ_len] at hr
    exact hr) hpp (by omega) kd at_ hk).mono fun e w'' hd => hd.after hb)
  have ho32 : oAt l i < 4294967296 := by
    have h1 := HM.isB_lt hiA; have h2 := GA.fit.marks; have h3 := GA.fit.room; have h4 := GA.fit.hi; omega
  have hq32 : oAt m i < 4294967296 := by
    have h1 := HM.isB_lt hiB; have h2 := GB.fit.marks; have h3 := GB.fit.room; have h4 := GB.fit.hi; omega
  have HHA := Lib.hid (fun (w' : World) (hb : Below w.heap.size w w') => Header_any (HA.below hb) GA.fit GA.laid.heads (sp.below hb) _ ho32)
  have HHB := Lib.hid (fun (w' : World) (hb : Below w.heap.size w w') => Header_any (HB.below hb) GB.fit GB.laid.heads (sp.below hb) _ hq32)
  rw [show g.headerV (oAt l i) = .tuple #[.agg (hdC (g.hd (oAt l i / 2))), .int .i64 0] by unfold HM.headerV; rw [hiA]; rfl] at HHA
  rw [show h.headerV (oAt m i) = .tuple #[.agg (hdC (h.hd (oAt m i / 2))), .int .i64 0] by unfold HM.headerV; rw [hiB]; rfl] at HHB
  have HCA := Lib.hid (fun (w' : World) (hb : Below w.heap.size w w') (hp : (g.hd (oAt l i / 2)).ptrB = false) => contents_any (HA.below hb) GA GA.laid.heads (sp.below hb) _ ho32 hiA hp _ rfl rfl)
  have HCB := Lib.hid (fun (w' : World) (hb : Below w.heap.size w w') (hp : (h.hd (oAt m i / 2)).ptrB = false) (X : Hd) (hf : X.fmt = (h.hd (oAt m i / 2)).fmt) (hz : X.size = (h.hd (oAt m i / 2)).size) => contents_any (HB.below hb) GB GB.laid.heads (sp.below hb) _ hq32 hiB hp X hf hz)
  have HFA := Lib.hid (HM.fields_len (HM.isB_hd GA.laid.heads hiA))
  have HFB := Lib.hid (HM.fields_len (HM.isB_hd GB.laid.heads hiB))
  have HWA := Lib.hid (fun k (hk : k < (g.hd (oAt l i / 2)).size) => fields_fwD GA hiA hk)
  have HWB := Lib.hid (fun k (hk : k < (h.hd (oAt m i / 2)).size) => fields_fwD GB hiB hk)
  have hszX : (g.hd (oAt l i / 2)).size ≤ 1048576 := hd_size_le GA.fit (HM.isB_hd GA.laid.heads hiA)
  clear hrA hrB hrP eA eB eP kP hxP hvw hroww P HA HB sp S hiA hiB
  generalize hod : g.odM h ser (oAt l i) (oAt m i) = od at *
  have HOD := Lib.hid hod
  clear hod
  generalize hX : g.hd (oAt l i / 2) = X at *
  generalize hY : h.hd (oAt m i / 2) = Y at *
  unfold hdC at HHA HHB
  have HXE := Lib.hid hX
  have HYE := Lib.hid hY
  generalize oAt l i = o at *
  generalize oAt m i = u at *
  clear hX hY
  go_enter Tryd.func74, Tryd.ntmps74
  go_wp2_with fail
  go_quiet (fail)
  have HB1 := Lib.hid (below_drewN (Below.refl w.heap.size w) nq)
  clear p0 p1 p2 a0 a1 b0 b1 kA kB
  generalize w.drewN nq = w1 at *
  have HP1 := Lib.hid (HP.out.below HB1.out)
  have p0 := HP1.out.box.cell 0
  have a0 := HP1.out.ga.box.cell 0
  unfold ptr at HHA HHB HCA HCB
  go_wp2_with fail
  refine (HHA.out _ HB1.out).mono ?_
  rintro e w2 ⟨rfl, hb2⟩
  have hb3 := (below_top HB1.out hb2).alloc (below_top HB1.out hb2).size (.cells (hdC X) 55)
  have BX := Blk.new w2 55 (hdC X)
  unfold hdC at hb3 BX
  have P3 := HP.out.below hb3
  have p1 := P3.box.cell 1
  have b0 := P3.gb.box.cell 0
  have HB3 := Lib.hid hb3
  have HBX := Lib.hid BX
  clear hb2 hb3 BX P3 p0 a0 HP1 HB1
  go_wp2_with fail
  clear p1 b0
  generalize w2.heap.size = gX at *
  generalize w2.alloc (.cells #[.int .i64 X.size, .int .i64 X.fmt, .int .i64 X.spare, .int .u32 X.cls, .int .u32 X.ser] 55) = w3 at *
  refine (HHB.out _ HB3.out).mono ?_
  rintro e w4 ⟨rfl, hb4⟩
  have hb5 := (below_top HB3.out hb4).alloc (below_top HB3.out hb4).size (.cells (hdC Y) 55)
  have BY := Blk.new w4 55 (hdC Y)
  have BX := HBX.out.below (hb4.alloc hb4.size (.cells (hdC Y) 55)) HBX.out.lt
  unfold hdC at hb5 BY BX
  have HB5 := Lib.hid hb5
  have HBX5 := Lib.hid BX
  have HBY5 := Lib.hid BY
  have c0 := BX.cell 0
  have c1 := BX.cell 1
  have c2 := BX.cell 2
  have c4 := BX.cell 4
  have d0 := BY.cell 0
  have d1 := BY.cell 1
  have d2 := BY.cell 2
  have d4 := BY.cell 4
  clear hb4 hb5 BY BX HBX HB3
  go_upto_region 4 with fail
  clear HHA HHB
  generalize w4.heap.size = gY at *
  generalize w4.alloc (.cells #[.int .i64 Y.size, .int .i64 Y.fmt, .int .i64 Y.spare, .int .u32 Y.cls, .int .u32 Y.ser] 55) = w5 at *
  have HP5 := Lib.hid (HP.out.below HB5.out)
  have p2 := HP5.out.box.cell 2
  rw [HEP.out] at p2
  have kP := HKP.out _ HB5.out
  have HO3 := Lib.hid (fun (hc : X.fmt ≠ Y.fmt ∨ X.size ≠ Y.size ∨ X.spare ≠ Y.spare) => show od = some (3, 0) by
    rw [← HOD.out]; unfold HM.odM; rw [HXE.out, HYE.out, if_pos hc])
  have hor : X.fmt ≠ Y.fmt ∨ (X.fmt = Y.fmt ∧ X.size ≠ Y.size) ∨ (X.fmt = Y.fmt ∧ X.size = Y.size ∧ X.spare ≠ Y.spare) ∨ (X.fmt = Y.fmt ∧ X.size = Y.size ∧ X.spare = Y.spare) := by omega
  rcases hor with h1 | ⟨h1, h2⟩ | ⟨h1, h2, h3⟩ | ⟨h1, h2, h3⟩
  · have e1 : ((X.fmt : Int) != (Y.fmt : Int)) = true := by simp; omega
    have HF := Lib.hid (HO3.out (.inl h1))
    clear h1
    go_wp2_with fail
    refine (HDF.out _ HB5.out 3 0 (by omega)).mono ?_
    rintro e w6 ⟨rfl, hD⟩
    go_wp2_with fail
    go_ret
    exact .inr ⟨3, 0, HF.out, rfl, hD⟩
  · have e1 : ((X.fmt : Int) != (Y.fmt : Int)) = false := by simp; omega
    have e2 : ((X.size : Int) != (Y.size : Int)) = true := by simp; omega
    have HF := Lib.hid (HO3.out (.inr (.inl h2)))
    clear h1 h2
    go_wp2_with fail
    refine (HDF.out _ HB5.out 3 0 (by omega)).mono ?_
    rintro e w6 ⟨rfl, hD⟩
    go_wp2_with fail
    go_ret
    exact .inr ⟨3, 0, HF.out, rfl, hD⟩
  · have e1 : ((X.fmt : Int) != (Y.fmt : Int)) = false := by simp; omega
    have e2 : ((X.size : Int) != (Y.size : Int)) = false := by simp; omega
    have e3 : ((X.spare : Int) != (Y.spare : Int)) = true := by simp; omega
    have HF := Lib.hid (HO3.out (.inr (.inr h3)))
    clear h1 h2 h3
    go_wp2_with fail
    refine (HDF.out _ HB5.out 3 0 (by omega)).mono ?_
    rintro e w6 ⟨rfl, hD⟩
    go_wp2_with fail
    go_ret
    exact .inr ⟨3, 0, HF.out, rfl, hD⟩
  · have e1 : ((X.fmt : Int) != (Y.fmt : Int)) = false := by simp; omega
    have e2 : ((X.size : Int) != (Y.size : Int)) = false := by simp; omega
    have e3 : ((X.spare : Int) != (Y.spare : Int)) = false := by simp; omega
    have HN3 := Lib.hid (show ¬ (X.fmt ≠ Y.fmt ∨ X.size ≠ Y.size ∨ X.spare ≠ Y.spare) by omega)
    have HQ := Lib.hid (And.intro h1 (And.intro h2 h3))
    clear h1 h2 h3 HO3
    by_cases hs : ser = true ∧ X.ser ≠ Y.ser
    · obtain ⟨rfl, hs⟩ := hs
      have e4 : ((X.ser : Int) != (Y.ser : Int)) = true := by simp; omega
      have HF := Lib.hid (show od = some (4, 0) by rw [← HOD.out]; unfold HM.odM; rw [HXE.out, HYE.out, if_neg HN3.out, if_pos ⟨rfl, hs⟩])
      clear hs
      go_wp2_with fail
      refine (HDF.out _ HB5.out 4 0 (by omega)).mono ?_
      rintro e w6 ⟨rfl, hD⟩
      go_wp2_with fail
      go_ret
      exact .inr ⟨4, 0, HF.out, rfl, hD⟩
    · have HN4 := Lib.hid hs
      have hs2 : ser = false ∨ (ser = true ∧ ((X.ser : Int) != (Y.ser : Int)) = false) := by
        cases ser
        · exact .inl rfl
        · refine .inr ⟨rfl, ?_⟩
          have : X.ser = Y.ser := Decidable.byContradiction fun e => hs ⟨rfl, e⟩
          simp [this]
      clear hs
      go_upto_region 6 with fail
      go_cut [95] (fun v W' => v = .bool false ∧ W' = w5)
      case first =>
        rcases hs2 with rfl | ⟨rfl, e4⟩
        · go_wp2_with fail
          go_meet
          exact ⟨rfl, rfl⟩
        · go_wp2_with fail
          go_meet
          exact ⟨rfl, rfl⟩
      case rest =>
        obtain ⟨rfl, rfl⟩ := hcut
        clear hs2
        cases hp : X.ptrB
        case true =>
          have HCP := Lib.hid (cpointers_any X.fmt wc)
          rw [show (decide (X.fmt = 1) || decide (X.fmt = 4)) = true from hp] at HCP
          have HF := Lib.hid (show od = none by rw [← HOD.out]; unfold HM.odM; rw [HXE.out, HYE.out, if_neg HN3.out, if_neg HN4.out, if_pos hp])
          clear hp
          go_wp2_with fail
          refine HCP.out.mono ?_
          rintro e w6 ⟨rfl, rfl⟩
          go_wp2_with fail
          go_ret
          exact .inl ⟨HF.out, rfl, HP5.out, HB5.out⟩
        case false =>
          have HCP := Lib.hid (cpointers_any X.fmt wc)
          rw [show (decide (X.fmt = 1) || decide (X.fmt = 4)) = false from hp] at HCP
          have HF := Lib.hid (show od = (firstD X.size (fw g o) (fw h u)).map fun k => (5, k) by rw [← HOD.out]; unfold HM.odM; rw [HXE.out, HYE.out, if_neg HN3.out, if_neg HN4.out, if_neg (by simp [hp])])
          have HPY := Lib.hid (show Y.ptrB = false by have := HQ.out.1; unfold Hd.ptrB at hp ⊢; rw [← this]; exact hp)
          have HPX := Lib.hid hp
          clear hp
          go_wp2_with fail
          refine HCP.out.mono ?_
          rintro e w6 ⟨rfl, rfl⟩
          clear HCP
          have HC1 := Lib.hid (fun (w' : World) (hb : Below wc.heap.size wc w') => (HCA.out w' (below_top HB5.out hb) HPX.out).mono fun e w'' hc => hc.rd HFA.out)
          have HC2 := Lib.hid (fun (w' : World) (hb : Below wc.heap.size wc w') => (HCB.out w' (below_top HB5.out hb) HPY.out X HQ.out.1 HQ.out.2.1).mono fun e w'' hc => hc.rd (HFB.out.trans HQ.out.2.1.symm))
          have HK := Lib.hid (fun (w' : World) (hb : Below wc.heap.size wc w') => show w'.cell? ⟨x.gP, 0, none⟩ = some (.pointer (some ⟨x.gA, 0, none⟩)) ∧ w'.cell? ⟨x.gP, 1, none⟩ = some (.pointer (some ⟨x.gB, 0, none⟩)) ∧ w'.cell? ⟨x.gA, 0, none⟩ = some (.pointer (some ⟨p.g, 0, none⟩)) ∧ w'.cell? ⟨x.gB, 0, none⟩ = some (.pointer (some ⟨q.g, 0, none⟩)) ∧ w'.cell? ⟨gX, 0, none⟩ = some (.int .i64 X.size) ∧ w'.cell? ⟨gX, 1, none⟩ = some (.int .i64 X.fmt) ∧ w'.cell? ⟨gX, 2, none⟩ = some (.int .i64 X.spare) ∧ w'.cell? ⟨gX, 3, none⟩ = some (.int .u32 X.cls) ∧ w'.cell? ⟨gX, 4, none⟩ = some (.int .u32 X.ser) from by
            have P6 := HP5.out.below hb
            have B6 := HBX5.out.below hb HBX5.out.lt
            exact ⟨P6.box.cell 0, P6.box.cell 1, P6.ga.box.cell 0, P6.gb.box.cell 0, B6.cell 0, B6.cell 1, B6.cell 2, B6.cell 3, B6.cell 4⟩)
          unfold Hd.val at HC1 HC2
          clear p2 kP c0 c1 c2 c4 d0 d1 d2 d4 e1 e2 e3 HCA HCB
          go_upto_region 10 with fail
          go_cut [13, 14] (fun v1 v2 W' => ∃ A1 k1 A2 k2, v1 = .slice A1 X.size k1 ∧ v2 = .slice A2 X.size k2 ∧ Reads W' W'.heap.size 1 A1 X.size (u32s (g.fields o)) ∧ Reads W' W'.heap.size 1 A2 X.size (u32s (h.fields u)) ∧ Below wc.heap.size wc W')
          case first =>
            have hB0 : Below wc.heap.size wc wc.drew := below_drew (Below.refl _ _)
            go_region_held3 (fun w' => w'.cell? ⟨x.gP, 0, none⟩ = some (.pointer (some ⟨x.gA, 0, none⟩)) ∧ w'.cell? ⟨x.gP, 1, none⟩ = some (.pointer (some ⟨x.gB, 0, none⟩)) ∧ w'.cell? ⟨x.gA, 0, none⟩ = some (.pointer (some ⟨p.g, 0, none⟩)) ∧ w'.cell? ⟨x.gB, 0, none⟩ = some (.pointer (some ⟨q.g, 0, none⟩)) ∧ w'.cell? ⟨gX, 0, none⟩ = some (.int .i64 X.size) ∧ w'.cell? ⟨gX, 1, none⟩ = some (.int .i64 X.fmt) ∧ w'.cell? ⟨gX, 2, none⟩ = some (.int .i64 X.spare) ∧ w'.cell? ⟨gX, 3, none⟩ = some (.int .u32 X.cls) ∧ w'.cell? ⟨gX, 4, none⟩ = some (.int .u32 X.ser))
              (first | exact HK.out _ (by assumption) | go_keep)
              (first
                | (go_at_call 103; (with_reducible refine (HC1.out _ (by assumption)).mono ?_); rintro e w1 ⟨A1, k1, rfl, rd1, hb1⟩; have hB1 := below_top (by assumption) hb1)
                | (go_at_call 103; (with_reducible refine (HC2.out _ (by assumption)).mono ?_); rintro e w2 ⟨A2, k2, rfl, rd2, hb2⟩; have hB2 := below_top (by assumption) hb2))
            all_goals go_wp2_with fail
            all_goals go_meet
            all_goals first
              | exact ⟨_, _, _, _, rfl, rfl, (rd1.below hb2).more hb2.size, rd2, hB2⟩
              | exact ⟨_, _, _, _, rfl, rfl, rd1, (rd2.below hb1).more hb1.size, hB1⟩
          case rest =>
            obtain ⟨A1, k1, A2, k2, rfl, rfl, rd1, rd2, hb6⟩ := hcut
            have HR1 := Lib.hid rd1
            have HR2 := Lib.hid rd2
            have HB6 := Lib.hid (below_top HB5.out hb6)
            clear rd1 rd2 hb6 HC1 HC2 HK HBX5 HBY5
            go_wp2_with fail
            go_loopw [130] (fun iv wr => ∃ k : Nat, k ≤ X.size ∧ iv = .int .i64 k ∧ (∀ j, j < k → fw g o j = fw h u j) ∧ Below wc.heap.size wc wr) (fun iv _ => X.size - (intOf iv).toNat)
            case atStart => exact ⟨0, by omega, rfl, fun j hj => by omega, Below.refl _ _⟩
            case round =>
              obtain ⟨k, hk, rfl, hno, hb⟩ := hrel
              have HNO := Lib.hid hno
              have HB := Lib.hid hb
              clear hno hb
              by_cases hlt : k < X.size
              · obtain ⟨ad1, u1, rfl, hbl1, hx1, kc1⟩ := (HR1.out.below HB.out).at_ hlt
                obtain ⟨ad2, u2, rfl, hbl2, hx2, kc2⟩ := (HR2.out.below HB.out).at_ hlt
                rw [HWA.out k hlt] at hx1
                rw [HWB.out k (by have := HQ.out.2.1; omega)] at hx2
                injection hx1 with hx1
                injection hx2 with hx2
                subst hx1
                subst hx2
                clear hbl1 hbl2
                have hszl : X.size < 9223372036854775807 := by omega
                by_cases heq : fw g o k = fw h u k
                · have e5 : ((fw g o k : Int) != (fw h u k : Int)) = false := by simp [heq]
                  have HEQ := Lib.hid heq
                  clear heq
                  generalize hv1 : fw g o k = y1 at *
                  generalize hv2 : fw h u k = y2 at *
                  have HV1 := Lib.hid hv1
                  have HV2 := Lib.hid hv2
                  clear hv1 hv2
                  go_wp2_with fail
                  go_quiet (fail)
                  go_wp2_with fail
                  go_roundw
                  case rel =>
                    refine ⟨k + 1, by omega, by go_num, fun j hj => ?_, below_drewN HB.out _⟩
                    rcases Nat.lt_or_ge j k with h1 | h1
                    · exact HNO.out j h1
                    · obtain rfl : j = k := by omega
                      rw [HV1.out, HV2.out, HEQ.out]
                  case measure => simp [intOf]; omega
                · have e5 : ((fw g o k : Int) != (fw h u k : Int)) = true := by simp; omega
                  have HFD := Lib.hid (show od = some (5, k) by rw [HF.out, firstD_first hlt heq HNO.out]; rfl)
                  clear heq
                  generalize fw g o k = y1 at *
                  generalize fw h u k = y2 at *
                  go_wp2_with fail
                  go_quiet (fail)
                  have HBQ := Lib.hid (below_top HB6.out (below_drewN HB.out nq))
                  have HPQ := Lib.hid (HP.out.below HBQ.out)
                  clear kc1 kc2 HB
                  generalize wr.drewN nq = w7 at *
                  have p2 := HPQ.out.box.cell 2
                  rw [HEP.out] at p2
                  have kP := HKP.out _ HBQ.out
                  go_wp2_with fail
                  refine (HDF.out _ HBQ.out 5 k (by omega)).mono ?_
                  rintro e w8 ⟨rfl, hD⟩
                  go_wp2_with fail
                  go_ret
                  exact .inr ⟨5, k, HFD.out, rfl, hD⟩
              · obtain rfl : k = X.size := by omega
                have HFN := Lib.hid (show od = none by rw [HF.out, firstD_none.2 HNO.out]; rfl)
                have HBF := Lib.hid (below_top HB6.out HB.out)
                have HPF := Lib.hid (HP.out.below HBF.out)
                go_wp2_with fail
                go_ret
                exact .inl ⟨HFN.out, rfl, HPF.out, HBF.out⟩
end Go.Proofs.YtpajpdjjpgbklaaDoor
