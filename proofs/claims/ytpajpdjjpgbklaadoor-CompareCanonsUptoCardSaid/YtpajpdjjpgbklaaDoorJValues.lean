/- (*pair).values: two values on the way held against each other. -/
/- (*pair).objects: two objects held against each other, ahead of what they name. -/
import Derived.Test.YtpajpdjjpgbklaaDoorJCont2
import Derived.Test.YtpajpdjjpgbklaaDoorJUntil
import Derived.Test.YtpajpdjjpgbklaaDoorJCanK
import Derived.Deep.RegionHeld3
import Derived.Deep.QuietTactic
import Derived.BigQuiet
set_option linter.unusedVariables false
set_option linter.unusedSimpArgs false
set_option linter.unusedSectionVars false
namespace Go.Proofs.YtpajpdjjpgbklaaDoor
open Go.RowKit Go.Maps Go.Sort
attribute [local go_sem] Oper.semAt_some

theorem pairK_kind {l m : List Nd} {v u : Nat} (h : kindM v ≠ kindM u) : pairK l m v u = 1 := by unfold pairK; rw [if_pos h]
theorem pairK_none {l m : List Nd} {v u : Nat} (h : kindM v = kindM u) (h0 : kindM v = 0) : pairK l m v u = 0 := by unfold pairK; rw [if_neg (by simpa using h), if_pos h0]
theorem pairK_small {l m : List Nd} {v u : Nat} (h : kindM v = kindM u) (h1 : kindM v = 1) : pairK l m v u = if v = u then 0 else 2 := by unfold pairK; rw [if_neg (by simpa using h), if_neg (by omega), if_pos h1]
theorem pairK_obj {l m : List Nd} {v u : Nat} (h : kindM v = kindM u) (h2 : kindM v = 2) : pairK l m v u = if numF l v = numF m u then 0 else 6 := by unfold pairK; rw [if_neg (by simpa using h), if_neg (by omega), if_neg (by omega)]
theorem info_ints : (Tryd.prog.info? 33).map (fun i => (i.zero, i.size, i.bytes)) = some (some (.slice none 0 0), 1, 24) := by kernel_rfl
theorem Reads.ofBlock {w w' : World} {B B' n : Nat} {ad : Addr} {xs : List Value} (h : Reads w B 1 (some ad) n xs) (hs : w'.heap[ad.block]? = w.heap[ad.block]?) (hB : ad.block < B') : Reads w' B' 1 (some ad) n xs := by
  refine ⟨h.1, fun h0 => ?_⟩
  obtain ⟨ad', e, _, hc⟩ := h.2 h0
  injection e with e
  subst e
  exact ⟨ad, rfl, hB, fun j u hu => (World.cell?_of_block (by rw [block_of_add]; exact hs)).trans (hc j u hu)⟩
/-- What values tells. -/
def ValuesP (B : Nat) (x : PA) (hvA hvB : Value) (r : PRows) (t0 t1 t2 : Value) (l m : List Nd) (ps : List Value) (v u : Nat) (par fld : Int) (path : List Int) (w : World) (e : Ending) (w' : World) : Prop :=
  (pairK l m v u = 0 ∧ e = .returned (.bool false) ∧ ∃ r' ps', PAt w' B x hvA hvB r' t0 t1 t2 (meetN l v par fld 0) (meetN m u par fld 0) (meetN l v par fld 0) ps' ∧ PStep x r r' w w') ∨
    (pairK l m v u ≠ 0 ∧ DifferP B x hvA hvB r l m l ps (pairK l m v u) path 0 w e w')
set_option maxRecDepth 100000 in
set_option maxHeartbeats 4000000 in
theorem values_any {w : World} {B : Nat} {x : PA} {hvA hvB : Value} {r : PRows} {t0 t1 t2 : Value} {l m : List Nd} {ps : List Value} (P : PAt w B x hvA hvB r t0 t1 t2 l m l ps) (hl2 : ∀ y ∈ oopsOf l, kindM y = 2) (hm2 : ∀ y ∈ oopsOf m, kindM y = 2)
    (v u : Nat) (hv : v < 4294967296) (hu : u < 4294967296) {ad : Addr} {n c : Nat} {path : List Int} (hr : Reads w w.heap.size 1 (some ad) n (intZ path)) (hn : 0 < n) (hm : n ≤ 10000000) (hxb : ¬ x.has ad.block) (hrb : ¬ r.has ad.block)
    (S : Side l m) (par fld : Int) (hpl : par < (l.length : Int)) (hpath : path = if par < 0 then [fld] else pathM l par.toNat ++ [fld]) (hll : l.length ≤ 4000000) :
    Calls Tryd.prog 73 #[.pointer (some ⟨x.gP, 0, none⟩), .int .u32 v, .int .u32 u, .slice (some ad) n c] w (ValuesP B x hvA hvB r t0 t1 t2 l m ps v u par fld path w) := by
  have HKV := Lib.hid (ckind_any v hv w)
  have HKU := Lib.hid (ckind_any u hu w)
  have HDF := Lib.hid (fun kd (hk : kd ≤ 255) => differ_any P (c := c) hr hn hm kd 0 hk)
  have HP := Lib.hid P
  have HS := Lib.hid S
  have hkv : kindM v = 0 ∨ kindM v = 1 ∨ kindM v = 2 := by unfold kindM; split <;> (try split) <;> simp
  by_cases hkk : kindM v = kindM u
  case neg =>
    have HPK := Lib.hid (pairK_kind (l := l) (m := m) hkk)
    have en : ((kindM v : Int) != (kindM u : Int)) = true := by simp; omega
    have HD := Lib.hid (HDF.out 1 (by omega))
    clear hkk hkv hr P S HDF hpath hl2 hm2
    generalize kindM v = kv at *
    generalize kindM u = ku at *
    go_enter Tryd.func73, Tryd.ntmps73
    go_wp2_with fail
    refine HKV.out.mono ?_
    rintro e w1 ⟨rfl, rfl⟩
    go_wp2_with fail
    refine HKU.out.mono ?_
    rintro e w1 ⟨rfl, rfl⟩
    go_wp2_with fail
    refine HD.out.mono ?_
    rintro e w1 ⟨rfl, hD⟩
    go_wp2_with fail
    go_ret
    exact .inr ⟨by rw [HPK.out]; decide, by rw [HPK.out]; exact ⟨rfl, hD⟩⟩
  case pos =>
  rw [← hkk] at HKU
  rcases hkv with h0 | h1 | h2
  · have HPK := Lib.hid (pairK_none (l := l) (m := m) hkk h0)
    have HME := Lib.hid (show meetN l v par fld 0 = l ∧ meetN m u par fld 0 = m from ⟨meetN_old (fun e => by omega), meetN_old (fun e => by omega)⟩)
    rw [h0] at HKV HKU
    clear hkk h0 hr P S HDF hpath hl2 hm2
    go_enter Tryd.func73, Tryd.ntmps73
    go_wp2_with fail
    refine HKV.out.mono ?_
    rintro e w1 ⟨rfl, rfl⟩
    go_wp2_with fail
    refine HKU.out.mono ?_
    rintro e w1 ⟨rfl, rfl⟩
    go_wp2_with fail
    refine HKV.out.mono ?_
    rintro e w1 ⟨rfl, rfl⟩
    go_wp2_with fail
    go_ret
    exact .inl ⟨HPK.out, rfl, r, ps, by rw [HME.out.1, HME.out.2]; exact HP.out, .of_below (Below.refl _ _)⟩
  · have HME := Lib.hid (show meetN l v par fld 0 = l ∧ meetN m u par fld 0 = m from ⟨meetN_old (fun e => by omega), meetN_old (fun e => by omega)⟩)
    have HPK0 := Lib.hid (pairK_small (l := l) (m := m) hkk h1)
    rw [h1] at HKV HKU
    by_cases hvu : v = u
    · have HPK := Lib.hid (show pairK l m v u = 0 by rw [HPK0.out, if_pos hvu])
      have en : ((v : Int) != (u : Int)) = false := by simp [hvu]
      clear hkk h1 hr P S HDF hpath hl2 hm2 hvu HPK0
      go_enter Tryd.func73, Tryd.ntmps73
      go_wp2_with fail
      refine HKV.out.mono ?_
      rintro e w1 ⟨rfl, rfl⟩
      go_wp2_with fail
      refine HKU.out.mono ?_
      rintro e w1 ⟨rfl, rfl⟩
      go_wp2_with fail
      refine HKV.out.mono ?_
      rintro e w1 ⟨rfl, rfl⟩
      go_wp2_with fail
      refine HKV.out.mono ?_
      rintro e w1 ⟨rfl, rfl⟩
      go_wp2_with fail
      go_ret
      exact .inl ⟨HPK.out, rfl, r, ps, by rw [HME.out.1, HME.out.2]; exact HP.out, .of_below (Below.refl _ _)⟩
    · have HPK := Lib.hid (show pairK l m v u = 2 by rw [HPK0.out, if_neg hvu])
      have en : ((v : Int) != (u : Int)) = true := by simp; omega
      have HD := Lib.hid (HDF.out 2 (by omega))
      clear hkk h1 hr P S HDF hpath hl2 hm2 hvu HPK0
      go_enter Tryd.func73, Tryd.ntmps73
      go_wp2_with fail
      refine HKV.out.mono ?_
      rintro e w1 ⟨rfl, rfl⟩
      go_wp2_with fail
      refine HKU.out.mono ?_
      rintro e w1 ⟨rfl, rfl⟩
      go_wp2_with fail
      refine HKV.out.mono ?_
      rintro e w1 ⟨rfl, rfl⟩
      go_wp2_with fail
      refine HKV.out.mono ?_
      rintro e w1 ⟨rfl, rfl⟩
      go_wp2_with fail
      refine HD.out.mono ?_
      rintro e w1 ⟨rfl, hD⟩
      go_wp2_with fail
      go_ret
      exact .inr ⟨by rw [HPK.out]; decide, by rw [HPK.out]; exact ⟨rfl, hD⟩⟩
  · have HPK0 := Lib.hid (pairK_obj (l := l) (m := m) hkk h2)
    have HK2 := Lib.hid (show kindM v = 2 ∧ kindM u = 2 from ⟨h2, by omega⟩)
    rw [h2] at HKV HKU
    have hlkA := P.ga.num.look_ok oopTy hv
    have hlkB := P.gb.num.look_ok oopTy hu
    have p0 := P.box.cell 0
    have p1 := P.box.cell 1
    have a2 := P.ga.box.cell 2
    have b2 := P.gb.box.cell 2
    have hnA := numF_le l v
    have hnB := numF_le m u
    rw [S.len] at hnB
    by_cases hnum : numF l v = numF m u
    · by_cases hmem : v ∈ oopsOf l
      · have hmu : u ∈ oopsOf m := numF_pos.1 (by rw [← hnum]; exact numF_pos.2 hmem)
        have HPK := Lib.hid (show pairK l m v u = 0 by rw [HPK0.out, if_pos hnum])
        have HME := Lib.hid (show meetN l v par fld 0 = l ∧ meetN m u par fld 0 = m from ⟨meetN_old (fun e => e.2 hmem), meetN_old (fun e => e.2 hmu)⟩)
        rw [decide_eq_true hmem] at hlkA
        rw [decide_eq_true hmu, ← hnum] at hlkB
        have en : ((numF l v : Int) != (numF l v : Int)) = false := by simp
        clear hkk h2 hr P S HDF hpath hl2 hm2 HPK0 hmem hmu hnum
        generalize numF l v = k1 at *
        go_enter Tryd.func73, Tryd.ntmps73
        go_wp2_with fail
        refine HKV.out.mono ?_
        rintro e w1 ⟨rfl, rfl⟩
        go_wp2_with fail
        refine HKU.out.mono ?_
        rintro e w1 ⟨rfl, rfl⟩
        go_wp2_with fail
        refine HKV.out.mono ?_
        rintro e w1 ⟨rfl, rfl⟩
        go_wp2_with fail
        refine HKV.out.mono ?_
        rintro e w1 ⟨rfl, rfl⟩
        go_wp2_with fail
        go_ret
        exact .inl ⟨HPK.out, rfl, r, ps, by rw [HME.out.1, HME.out.2]; exact HP.out, .of_below (Below.refl _ _)⟩
      · have hmu : u ∉ oopsOf m := numF_zero.1 (by rw [← hnum]; exact numF_zero.2 hmem)
        have HPK := Lib.hid (show pairK l m v u = 0 by rw [HPK0.out, if_pos hnum])
        have HML := Lib.hid (meetN_new (l := l) (p := par) (f := fld) (d := 0) HK2.out.1 hmem)
        have HPP := Lib.hid (show ∀ i, i < l.length → pathM (meetN l v par fld 0) i = pathM l i from fun i hi => pathM_pre (meetN_pre _ _ _ _ _) S.up hi)
        have HPN := Lib.hid (show pathM (meetN l v par fld 0) l.length = path by rw [HML.out, pathM_new S.up v par fld 0 hpl, hpath])
        have HLN := Lib.hid (show (meetN l v par fld 0).length = l.length + 1 by rw [HML.out]; simp)
        have HMA := Lib.hid (meet_any P.ga hl2 v hv 0 (by omega) hll par fld)
        have HM2 := Lib.hid hm2
        have HRD := Lib.hid hr
        have hml : m.length ≤ 4000000 := by rw [S.len]; exact hll
        rw [decide_eq_false hmem] at hlkA
        rw [decide_eq_false hmu, ← hnum] at hlkB
        clear hkk h2 hr P S HDF hpath hl2 hm2 HPK0 hmem hmu hnum
        go_enter Tryd.func73, Tryd.ntmps73
        go_wp2_with fail
        refine HKV.out.mono ?_
        rintro e w1 ⟨rfl, rfl⟩
        go_wp2_with fail
        refine HKU.out.mono ?_
        rintro e w1 ⟨rfl, rfl⟩
        go_wp2_with fail
        refine HKV.out.mono ?_
        rintro e w1 ⟨rfl, rfl⟩
        go_wp2_with fail
        refine HKV.out.mono ?_
        rintro e w1 ⟨rfl, rfl⟩
        go_wp2_with fail
        refine HMA.out.mono ?_
        rintro e w1 ⟨rfl, vmA', vdA', GA1, sA⟩
        obtain ⟨P1, st1⟩ := HP.out.meetA GA1 sA
        have HP1 := Lib.hid P1
        have HST1 := Lib.hid st1
        have q1 := P1.box.cell 1
        have HMB := Lib.hid (meet_any P1.gb HM2.out u hu 0 (by omega) hml par fld)
        clear GA1 sA P1 st1 HMA p0 p1 a2 b2 hlkA hlkB
        go_wp2_with fail
        refine HMB.out.mono ?_
        rintro e w2 ⟨rfl, vmB', vdB', GB2, sB⟩
        obtain ⟨P2, st2⟩ := HP1.out.meetB GB2 sB
        have HP2 := Lib.hid P2
        have HST2 := Lib.hid (HST1.out.trans st2)
        clear GB2 sB P2 st2 HMB HP1 HST1 q1
        go_wp2_with fail
        refine wp_region_U 11 (fun w' => w'.cell? ⟨x.gP, 2, none⟩ = some r.vp) (by kernel_rfl) ?_
        have hbd : Below w2.heap.size w2 w2.drew := ⟨rfl, rfl, rfl, Nat.le_refl _, fun _ _ => rfl⟩
        have HP3 := Lib.hid (HP2.out.below hbd)
        have HST3 := Lib.hid (HST2.out.trans (PStep.of_below hbd))
        clear HP2 HST2 hbd
        generalize w2.drew = w3 at *
        have hadl : ad.block < w.heap.size := by
          obtain ⟨ad', e, h1, _⟩ := HRD.out.2 hn
          injection e with e; subst e; exact h1
        have HR3 := Lib.hid (HRD.out.ofBlock (HST3.out.block _ hadl hxb hrb) (show ad.block < w3.heap.size from Nat.lt_of_lt_of_le hadl HST3.out.size))
        have hS : w3.cell? ⟨x.gP, 2, none⟩ = some r.vp := HP3.out.box.cell 2
        obtain ⟨i0, hi0, hz0, hz1, hz2⟩ := info_parts info_ints
        have hpl5 : ps.length ≤ 4000000 := by rw [HP3.out.plen]; exact hll
        have hB3 := HP3.out.ga.hB
        refine U_read 0 (v := .pointer (some ⟨x.gP, 0, none⟩)) rfl (by kernel_rfl) (fun _ _ _ h => h) hS (by rfl) (fun w' hw' => by have h0 : w'.cell? ⟨x.gP, 2, none⟩ = some r.vp := hw'; go_simp) ?_
        try simp only [Act.put, List.setIfInBounds_toArray, List.set_cons_zero, List.set_cons_succ]
        refine U_read 1 (v := .pointer (some ⟨x.gP, 0, none⟩)) rfl (by kernel_rfl) (fun _ _ _ h => h) hS (by rfl) (fun w' hw' => by have h0 : w'.cell? ⟨x.gP, 2, none⟩ = some r.vp := hw'; go_simp) ?_
        try simp only [Act.put, List.setIfInBounds_toArray, List.set_cons_zero, List.set_cons_succ]
        refine U_read 2 (v := .pointer (some ⟨x.gP, 0, none⟩)) rfl (by kernel_rfl) (fun _ _ _ h => h) hS (by rfl) (fun w' hw' => by have h0 : w'.cell? ⟨x.gP, 2, none⟩ = some r.vp := hw'; go_simp) ?_
        try simp only [Act.put, List.setIfInBounds_toArray, List.set_cons_zero, List.set_cons_succ]
        refine U_read 3 (v := .pointer (some ⟨x.gP, 2, none⟩)) rfl (by kernel_rfl) (fun _ _ _ h => h) hS (by rfl) (fun w' hw' => by have h0 : w'.cell? ⟨x.gP, 2, none⟩ = some r.vp := hw'; go_simp) ?_
        try simp only [Act.put, List.setIfInBounds_toArray, List.set_cons_zero, List.set_cons_succ]
        refine U_read 4 (v := r.vp) rfl (by kernel_rfl) (fun _ _ _ h => h) hS (by rfl) (fun w' hw' => by have h0 : w'.cell? ⟨x.gP, 2, none⟩ = some r.vp := hw'; go_simp) ?_
        try simp only [Act.put, List.setIfInBounds_toArray, List.set_cons_zero, List.set_cons_succ]
        refine U_read 5 (v := .slice (some ad) n c) rfl (by kernel_rfl) (fun _ _ _ h => h) hS (by rfl) (fun w' hw' => by have h0 : w'.cell? ⟨x.gP, 2, none⟩ = some r.vp := hw'; go_simp) ?_
        try simp only [Act.put, List.setIfInBounds_toArray, List.set_cons_zero, List.set_cons_succ]
        refine U_one 6 (by kernel_rfl) rfl rfl (fun K hK => ?_)
        go_simp
        refine (clone_int (c := c) HR3.out hn hm).mono ?_
        rintro e w4 ⟨g, c1, rfl, hrow, hge, hb4⟩
        have HP4 := Lib.hid (HP3.out.below hb4)
        have HST4 := Lib.hid (HST3.out.trans (PStep.of_below hb4))
        have hS4 : w4.cell? ⟨x.gP, 2, none⟩ = some r.vp := HP4.out.box.cell 2
        rw [intZ_len] at *
        try dsimp only
        refine hK _ _ (fun _ => hS4) ?_
        clear hK K
        try simp only [Act.put, List.setIfInBounds_toArray, List.set_cons_zero, List.set_cons_succ]
        refine U_one 7 (by kernel_rfl) rfl rfl (fun K hK => ?_)
        go_simp
        refine hK _ _ (fun _ => (World.cell?_alloc_lt w4 _ _ HP4.out.box.lt).trans hS4) ?_
        clear hK K
        try simp only [Act.put, List.setIfInBounds_toArray, List.set_cons_zero, List.set_cons_succ]
        refine U_one 8 (by kernel_rfl) rfl rfl (fun K hK => ?_)
        refine wp_append_any _ (.tmp 90) (.tmp 93) _ rfl B 33 i0 _ 1 24 Tryd.underlying95 hi0 hz0 hz1 hz2 rfl (by omega) r.vp ps.length ps rfl (HP4.out.paths.alloc _) _ _ 1 1 [.slice (some ⟨g, 0, none⟩) path.length c1] rfl (row_one' (heap_alloc_new w4 _) (Nat.lt_succ_self _)) (by simp [Value.oneCell']) (by simp only [maxLen]; omega) (by omega) (by have := HP4.out.ga.hB; simp; omega) ?_
        intro v5 w5 hown5 hgrow5 hat5
        obtain ⟨A5, c5, rfl, -⟩ := own_slice hown5
        have G5 := Grows.alloc_ _ _ _ (Grows.of hgrow5 hat5)
        have BB5 : Blk w5 x.gP 97 _ := HP4.out.box.same (G5.g.block _ HP4.out.box.lt (fun e => own_ne_blk HP4.out.paths HP4.out.box (by decide) e.symm))
        have k5 := BB5.cell 2
        have z5 := BB5.frozen 2
        have HW := HP4.out.way (lw' := meetN l v par fld 0) G5 (by have := hown5; simpa using this) rfl hrow (Nat.le_trans hB3 hge) (fun e => by have := (HP3.out.ga.deep.lt g e).2; omega) (fun e => by have := (HP3.out.gb.deep.lt g e).2; omega) HLN.out HPP.out HPN.out
        have HFIN := Lib.hid (And.intro HW.1 (HST4.out.trans HW.2))
        try dsimp only
        refine hK _ _ (fun _ => k5) ?_
        clear hK K
        try simp only [Act.put, List.setIfInBounds_toArray, List.set_cons_zero, List.set_cons_succ]
        refine U_one 9 (by kernel_rfl) rfl rfl (fun K hK => ?_)
        go_simp
        refine hK _ _ (fun _ => k5) ?_
        clear hK K
        try simp only [Act.put, List.setIfInBounds_toArray, List.set_cons_zero, List.set_cons_succ]
        refine U_one 10 (by kernel_rfl) rfl rfl (fun K hK => ?_)
        go_simp
        refine hK _ _ (fun _ => k5) ?_
        clear hK K
        try simp only [Act.put, List.setIfInBounds_toArray, List.set_cons_zero, List.set_cons_succ]
        refine U_one 11 (by kernel_rfl) rfl rfl (fun K hK => ?_)
        go_simp
        refine hK _ _ (fun h => absurd h (by decide)) ?_
        clear hK K
        try simp only [Act.put, List.setIfInBounds_toArray, List.set_cons_zero, List.set_cons_succ]
        refine U_done (by kernel_rfl) ?_ _
        simp only [Calm, Exit.then]
        go_wp2_with fail
        go_ret
        exact .inl ⟨HPK.out, rfl, _, _, HFIN.out.1, HFIN.out.2⟩
    · have HPK := Lib.hid (show pairK l m v u = 6 by rw [HPK0.out, if_neg hnum])
      have HD := Lib.hid (HDF.out 6 (by omega))
      have en : ((numF l v : Int) != (numF m u : Int)) = true := by simp; omega
      have hor : decide (v ∈ oopsOf l) = true ∨ decide (v ∈ oopsOf l) = false ∧ decide (u ∈ oopsOf m) = true := by
        by_cases h1 : v ∈ oopsOf l
        · exact .inl (by simpa using h1)
        · refine .inr ⟨by simpa using h1, ?_⟩
          have e1 := numF_zero.2 h1
          have : 0 < numF m u := by omega
          simpa using numF_pos.1 this
      clear hkk h2 hr P S HDF hpath hl2 hm2 HPK0 hnum
      generalize numF l v = k1 at *
      generalize numF m u = k2 at *
      rcases hor with h1 | ⟨h1, h2⟩
      · rw [h1] at hlkA
        generalize decide (u ∈ oopsOf m) = bB at *
        clear h1
        go_enter Tryd.func73, Tryd.ntmps73
        go_wp2_with fail
        refine HKV.out.mono ?_
        rintro e w1 ⟨rfl, rfl⟩
        go_wp2_with fail
        refine HKU.out.mono ?_
        rintro e w1 ⟨rfl, rfl⟩
        go_wp2_with fail
        refine HKV.out.mono ?_
        rintro e w1 ⟨rfl, rfl⟩
        go_wp2_with fail
        refine HKV.out.mono ?_
        rintro e w1 ⟨rfl, rfl⟩
        go_wp2_with fail
        refine HD.out.mono ?_
        rintro e w1 ⟨rfl, hD⟩
        go_wp2_with fail
        go_ret
        exact .inr ⟨by rw [HPK.out]; decide, by rw [HPK.out]; exact ⟨rfl, hD⟩⟩
      · rw [h1] at hlkA
        rw [h2] at hlkB
        clear h1 h2
        go_enter Tryd.func73, Tryd.ntmps73
        go_wp2_with fail
        refine HKV.out.mono ?_
        rintro e w1 ⟨rfl, rfl⟩
        go_wp2_with fail
        refine HKU.out.mono ?_
        rintro e w1 ⟨rfl, rfl⟩
        go_wp2_with fail
        refine HKV.out.mono ?_
        rintro e w1 ⟨rfl, rfl⟩
        go_wp2_with fail
        refine HKV.out.mono ?_
        rintro e w1 ⟨rfl, rfl⟩
        go_wp2_with fail
        refine HD.out.mono ?_
        rintro e w1 ⟨rfl, hD⟩
        go_wp2_with fail
        go_ret
        exact .inr ⟨by rw [HPK.out]; decide, by rw [HPK.out]; exact ⟨rfl, hD⟩⟩
end Go.Proofs.YtpajpdjjpgbklaaDoor

namespace Go.Proofs.YtpajpdjjpgbklaaDoor
open Go.RowKit Go.Maps
attribute [local go_sem] Oper.semAt_some

theorem pathF_len (l : List Nd) : ∀ f i, (pathF l f i).length ≤ f
  | 0, _ => by simp [pathF]
  | f + 1, i => by
    unfold pathF
    split
    · simp
    · have := pathF_len l f (l.getD i default).par.toNat
      rw [List.length_append, List.length_cons, List.length_nil]; omega
theorem pathM_len (l : List Nd) (i : Nat) : (pathM l i).length ≤ i + 1 := pathF_len l _ _
theorem pathM_pos (l : List Nd) (i : Nat) : 0 < (pathM l i).length := by unfold pathM pathF; split <;> simp
/-- What objects tells. -/
def ObjectsP (B : Nat) (x : PA) (hvA hvB : Value) (r : PRows) (t0 t1 t2 : Value) (l m : List Nd) (ps : List Value) (od : Option (Nat × Nat)) (i : Nat) (w : World) (e : Ending) (w' : World) : Prop :=
  (od = none ∧ e = .returned (.bool false) ∧ PAt w' B x hvA hvB r t0 t1 t2 l m l ps ∧ Below w.heap.size w w') ∨
    (∃ k a, od = some (k, a) ∧ DifferP B x hvA hvB r l m l ps k (pathM l i) a w e w')
theorem DifferP.after {B : Nat} {x : PA} {hvA hvB : Value} {r : PRows} {l m lw : List Nd} {ps : List Value} {kd : Nat} {path : List Int} {at_ : Nat} {w w1 : World} {e : Ending} {w' : World} (h : DifferP B x hvA hvB r l m lw ps kd path at_ w1 e w') (hb : Below w.heap.size w w1) :
    DifferP B x hvA hvB r l m lw ps kd path at_ w e w' := by
  obtain ⟨h1, h2, g, c, h3, h4, h5⟩ := h
  exact ⟨h1, (PStep.of_below hb).trans h2, g, c, h3, h4, Nat.le_trans hb.size h5⟩
theorem fields_reads {w : World} {B : Nat} {A : Option Addr} {n : Nat} {ys : List Nat} (h : Reads w B 1 A n (u32s ys)) (hn : 0 < n) : ∃ ad, A = some ad ∧ ad.block < B := by
  obtain ⟨ad, e, hb, _⟩ := h.2 hn
  exact ⟨ad, e, hb⟩
/-- A row of words that is read. -/
def RdP (ys : List Nat) (n : Nat) (w : World) (e : Ending) (w' : World) : Prop :=
  ∃ A c, e = .returned (.slice A n c) ∧ Reads w' w'.heap.size 1 A n (u32s ys) ∧ Below w.heap.size w w'
theorem ContP.rd {h : HM} {o n : Nat} {w w' : World} {e : Ending} (H : ContP h o w e w') (hn : (h.fields o).length = n) : RdP (h.fields o) n w e w' := by
  obtain ⟨v, rfl, h1, h2⟩ := H
  obtain ⟨A, c, rfl, hr⟩ := own_slice h1
  subst hn
  exact ⟨A, c, rfl, hr, h2⟩
theorem fields_fwD {h : HM} {ls : List Ob} (G : h.Good ls) {o : Nat} (hi : h.isB o = true) {k : Nat} (hk : k < (h.hd (o / 2)).size) : (u32s (h.fields o))[k]? = some (.int .u32 (fw h o k : Nat)) := by
  obtain ⟨b, hb, e1, e2, ok, e3⟩ := good_at G hi
  have hk2 : k < b.fs.length := by have := ok.size; rw [e1] at hk; omega
  rw [e2, u32s_get hk2, e3 k hk2]
set_option maxRecDepth 100000 in
set_option maxHeartbeats 4000000 in
theorem objects_any {w : World} {B : Nat} {x : PA} {p q : HP} {g h : HM} {lg lh : List Ob} {r : PRows} {t0 t1 t2 : Value} {l m : List Nd} {ps : List Value} (P : PAt w B x (.pointer (some ⟨p.g, 0, none⟩)) (.pointer (some ⟨q.g, 0, none⟩)) r t0 t1 t2 l m l ps)
    (HA : HAt w p g) (GA : g.Good lg) (HB : HAt w q h) (GB : h.Good lh) (sp : Spares w) (S : Side l m) (ser : Bool) (i : Nat) (hi : i < l.length) (hll : l.length ≤ 4000000) (hiA : g.isB (oAt l i) = true) (hiB : h.isB (oAt m i) = true) :
    Calls Tryd.prog 74 #[.pointer (some ⟨x.gP, 0, none⟩), .int .i64 i, .bool ser] w (ObjectsP B x (.pointer (some ⟨p.g, 0, none⟩)) (.pointer (some ⟨q.g, 0, none⟩)) r t0 t1 t2 l m ps (g.odM h ser (oAt l i) (oAt m i)) i w) := by
  have HP := Lib.hid P
  have p0 := P.box.cell 0
  have p1 := P.box.cell 1
  have p2 := P.box.cell 2
  have a0 := P.ga.box.cell 0
  have a1 := P.ga.box.cell 1
  have b0 := P.gb.box.cell 0
  have b1 := P.gb.box.cell 1
  obtain ⟨AA, cA, eA, hrA⟩ := own_slice P.ga.met
  obtain ⟨AB, cB, eB, hrB⟩ := own_slice P.gb.met
  obtain ⟨AP, cP, eP, hrP⟩ := own_slice P.paths
  have hiM : i < m.length := by rw [S.len]; exact hi
  have hml : m.length ≤ 4000000 := by rw [S.len]; exact hll
  obtain ⟨adA, uA, rfl, hblA, hxA, kA⟩ := hrA.at_ hi
  obtain ⟨adB, uB, rfl, hblB, hxB, kB⟩ := hrB.at_ hiM
  rw [u32s_get (by rw [oopsOf_len]; exact hi), oops_oAt] at hxA
  rw [u32s_get (by rw [oopsOf_len]; exact hiM), oops_oAt] at hxB
  injection hxA with hxA
  injection hxB with hxB
  subst hxA
  subst hxB
  rw [eA] at a1
  rw [eB] at b1
  have hps : ps.length = l.length := P.plen
  obtain ⟨adP, uP, rfl, hblP, hxP, kP⟩ := hrP.at_ (k := i) (by omega)
  obtain ⟨gw, cw, hvw, hroww, -, -, -⟩ := P.ways i hi
  have huP : uP = .slice (some ⟨gw, 0, none⟩) (pathM l i).length cw := by
    rw [← hvw, List.getD_eq_getElem?_getD, hxP]; rfl
  subst huP
  have HEP := Lib.hid eP
  have HKP := Lib.hid (fun (w' : World) (hb : Below w.heap.size w w') => show w'.cell? (adP.add i) = some (.slice (some ⟨gw, 0, none⟩) (pathM l i).length cw) from (hb.cell (World.block_lt_of_cell? _ _ kP)).trans kP)
  have hpl := pathM_len l i
  have hpp := pathM_pos l i
  have HDF := Lib.hid (fun (w' : World) (hb : Below w.heap.size w w') (kd at_ : Nat) (hk : kd ≤ 255) => (differ_any (c := cw) (P.below hb) (show Reads w' w'.heap.size 1 (some ⟨gw, 0, none⟩) (pathM l i).length (intZ (pathM l i)) by
    have hr := (hroww.below hb).reads (hroww.below hb).lt
    rw [intZ_len] at hr
    exact hr) hpp (by omega) kd at_ hk).mono fun e w'' hd => hd.after hb)
  have ho32 : oAt l i < 4294967296 := by
    have h1 := HM.isB_lt hiA; have h2 := GA.fit.marks; have h3 := GA.fit.room; have h4 := GA.fit.hi; omega
  have hq32 : oAt m i < 4294967296 := by
    have h1 := HM.isB_lt hiB; have h2 := GB.fit.marks; have h3 := GB.fit.room; have h4 := GB.fit.hi; omega
  have HHA := Lib.hid (fun (w' : World) (hb : Below w.heap.size w w') => Header_any (HA.below hb) GA.fit GA.laid.heads (sp.below hb) _ ho32)
  have HHB := Lib.hid (fun (w' : World) (hb : Below w.heap.size w w') => Header_any (HB.below hb) GB.fit GB.laid.heads (sp.below hb) _ hq32)
  rw [show g.headerV (oAt l i) = .tuple #[.agg (hdC (g.hd (oAt l i / 2))), .int .i64 0] by unfold HM.headerV; rw [hiA]; rfl] at HHA
  rw [show h.headerV (oAt m i) = .tuple #[.agg (hdC (h.hd (oAt m i / 2))), .int .i64 0] by unfold HM.headerV; rw [hiB]; rfl] at HHB
  have HCA := Lib.hid (fun (w' : World) (hb : Below w.heap.size w w') (hp : (g.hd (oAt l i / 2)).ptrB = false) => contents_any (HA.below hb) GA GA.laid.heads (sp.below hb) _ ho32 hiA hp _ rfl rfl)
  have HCB := Lib.hid (fun (w' : World) (hb : Below w.heap.size w w') (hp : (h.hd (oAt m i / 2)).ptrB = false) (X : Hd) (hf : X.fmt = (h.hd (oAt m i / 2)).fmt) (hz : X.size = (h.hd (oAt m i / 2)).size) => contents_any (HB.below hb) GB GB.laid.heads (sp.below hb) _ hq32 hiB hp X hf hz)
  have HFA := Lib.hid (HM.fields_len (HM.isB_hd GA.laid.heads hiA))
  have HFB := Lib.hid (HM.fields_len (HM.isB_hd GB.laid.heads hiB))
  have HWA := Lib.hid (fun k (hk : k < (g.hd (oAt l i / 2)).size) => fields_fwD GA hiA hk)
  have HWB := Lib.hid (fun k (hk : k < (h.hd (oAt m i / 2)).size) => fields_fwD GB hiB hk)
  have hszX : (g.hd (oAt l i / 2)).size ≤ 1048576 := hd_size_le GA.fit (HM.isB_hd GA.laid.heads hiA)
  clear hrA hrB hrP eA eB eP kP hxP hvw hroww P HA HB sp S hiA hiB
  generalize hod : g.odM h ser (oAt l i) (oAt m i) = od at *
  have HOD := Lib.hid hod
  clear hod
  generalize hX : g.hd (oAt l i / 2) = X at *
  generalize hY : h.hd (oAt m i / 2) = Y at *
  unfold hdC at HHA HHB
  have HXE := Lib.hid hX
  have HYE := Lib.hid hY
  generalize oAt l i = o at *
  generalize oAt m i = u at *
  clear hX hY
  go_enter Tryd.func74, Tryd.ntmps74
  go_wp2_with fail
  go_quiet (fail)
  have HB1 := Lib.hid (below_drewN (Below.refl w.heap.size w) nq)
  clear p0 p1 p2 a0 a1 b0 b1 kA kB
  generalize w.drewN nq = w1 at *
  have HP1 := Lib.hid (HP.out.below HB1.out)
  have p0 := HP1.out.box.cell 0
  have a0 := HP1.out.ga.box.cell 0
  unfold ptr at HHA HHB HCA HCB
  go_wp2_with fail
  refine (HHA.out _ HB1.out).mono ?_
  rintro e w2 ⟨rfl, hb2⟩
  have hb3 := (below_top HB1.out hb2).alloc (below_top HB1.out hb2).size (.cells (hdC X) 55)
  have BX := Blk.new w2 55 (hdC X)
  unfold hdC at hb3 BX
  have P3 := HP.out.below hb3
  have p1 := P3.box.cell 1
  have b0 := P3.gb.box.cell 0
  have HB3 := Lib.hid hb3
  have HBX := Lib.hid BX
  clear hb2 hb3 BX P3 p0 a0 HP1 HB1
  go_wp2_with fail
  clear p1 b0
  generalize w2.heap.size = gX at *
  generalize w2.alloc (.cells #[.int .i64 X.size, .int .i64 X.fmt, .int .i64 X.spare, .int .u32 X.cls, .int .u32 X.ser] 55) = w3 at *
  refine (HHB.out _ HB3.out).mono ?_
  rintro e w4 ⟨rfl, hb4⟩
  have hb5 := (below_top HB3.out hb4).alloc (below_top HB3.out hb4).size (.cells (hdC Y) 55)
  have BY := Blk.new w4 55 (hdC Y)
  have BX := HBX.out.below (hb4.alloc hb4.size (.cells (hdC Y) 55)) HBX.out.lt
  unfold hdC at hb5 BY BX
  have HB5 := Lib.hid hb5
  have HBX5 := Lib.hid BX
  have HBY5 := Lib.hid BY
  have c0 := BX.cell 0
  have c1 := BX.cell 1
  have c2 := BX.cell 2
  have c4 := BX.cell 4
  have d0 := BY.cell 0
  have d1 := BY.cell 1
  have d2 := BY.cell 2
  have d4 := BY.cell 4
  clear hb4 hb5 BY BX HBX HB3
  go_upto_region 4 with fail
  clear HHA HHB
  generalize w4.heap.size = gY at *
  generalize w4.alloc (.cells #[.int .i64 Y.size, .int .i64 Y.fmt, .int .i64 Y.spare, .int .u32 Y.cls, .int .u32 Y.ser] 55) = w5 at *
  have HP5 := Lib.hid (HP.out.below HB5.out)
  have p2 := HP5.out.box.cell 2
  rw [HEP.out] at p2
  have kP := HKP.out _ HB5.out
  have HO3 := Lib.hid (fun (hc : X.fmt ≠ Y.fmt ∨ X.size ≠ Y.size ∨ X.spare ≠ Y.spare) => show od = some (3, 0) by
    rw [← HOD.out]; unfold HM.odM; rw [HXE.out, HYE.out, if_pos hc])
  have hor : X.fmt ≠ Y.fmt ∨ (X.fmt = Y.fmt ∧ X.size ≠ Y.size) ∨ (X.fmt = Y.fmt ∧ X.size = Y.size ∧ X.spare ≠ Y.spare) ∨ (X.fmt = Y.fmt ∧ X.size = Y.size ∧ X.spare = Y.spare) := by omega
  rcases hor with h1 | ⟨h1, h2⟩ | ⟨h1, h2, h3⟩ | ⟨h1, h2, h3⟩
  · have e1 : ((X.fmt : Int) != (Y.fmt : Int)) = true := by simp; omega
    have HF := Lib.hid (HO3.out (.inl h1))
    clear h1
    go_wp2_with fail
    refine (HDF.out _ HB5.out 3 0 (by omega)).mono ?_
    rintro e w6 ⟨rfl, hD⟩
    go_wp2_with fail
    go_ret
    exact .inr ⟨3, 0, HF.out, rfl, hD⟩
  · have e1 : ((X.fmt : Int) != (Y.fmt : Int)) = false := by simp; omega
    have e2 : ((X.size : Int) != (Y.size : Int)) = true := by simp; omega
    have HF := Lib.hid (HO3.out (.inr (.inl h2)))
    clear h1 h2
    go_wp2_with fail
    refine (HDF.out _ HB5.out 3 0 (by omega)).mono ?_
    rintro e w6 ⟨rfl, hD⟩
    go_wp2_with fail
    go_ret
    exact .inr ⟨3, 0, HF.out, rfl, hD⟩
  · have e1 : ((X.fmt : Int) != (Y.fmt : Int)) = false := by simp; omega
    have e2 : ((X.size : Int) != (Y.size : Int)) = false := by simp; omega
    have e3 : ((X.spare : Int) != (Y.spare : Int)) = true := by simp; omega
    have HF := Lib.hid (HO3.out (.inr (.inr h3)))
    clear h1 h2 h3
    go_wp2_with fail
    refine (HDF.out _ HB5.out 3 0 (by omega)).mono ?_
    rintro e w6 ⟨rfl, hD⟩
    go_wp2_with fail
    go_ret
    exact .inr ⟨3, 0, HF.out, rfl, hD⟩
  · have e1 : ((X.fmt : Int) != (Y.fmt : Int)) = false := by simp; omega
    have e2 : ((X.size : Int) != (Y.size : Int)) = false := by simp; omega
    have e3 : ((X.spare : Int) != (Y.spare : Int)) = false := by simp; omega
    have HN3 := Lib.hid (show ¬ (X.fmt ≠ Y.fmt ∨ X.size ≠ Y.size ∨ X.spare ≠ Y.spare) by omega)
    have HQ := Lib.hid (And.intro h1 (And.intro h2 h3))
    clear h1 h2 h3 HO3
    by_cases hs : ser = true ∧ X.ser ≠ Y.ser
    · obtain ⟨rfl, hs⟩ := hs
      have e4 : ((X.ser : Int) != (Y.ser : Int)) = true := by simp; omega
      have HF := Lib.hid (show od = some (4, 0) by rw [← HOD.out]; unfold HM.odM; rw [HXE.out, HYE.out, if_neg HN3.out, if_pos ⟨rfl, hs⟩])
      clear hs
      go_wp2_with fail
      refine (HDF.out _ HB5.out 4 0 (by omega)).mono ?_
      rintro e w6 ⟨rfl, hD⟩
      go_wp2_with fail
      go_ret
      exact .inr ⟨4, 0, HF.out, rfl, hD⟩
    · have HN4 := Lib.hid hs
      have hs2 : ser = false ∨ (ser = true ∧ ((X.ser : Int) != (Y.ser : Int)) = false) := by
        cases ser
        · exact .inl rfl
        · refine .inr ⟨rfl, ?_⟩
          have : X.ser = Y.ser := Decidable.byContradiction fun e => hs ⟨rfl, e⟩
          simp [this]
      clear hs
      go_upto_region 6 with fail
      go_cut [95] (fun v W' => v = .bool false ∧ W' = w5)
      case first =>
        rcases hs2 with rfl | ⟨rfl, e4⟩
        · go_wp2_with fail
          go_meet
          exact ⟨rfl, rfl⟩
        · go_wp2_with fail
          go_meet
          exact ⟨rfl, rfl⟩
      case rest =>
        obtain ⟨rfl, rfl⟩ := hcut
        clear hs2
        cases hp : X.ptrB
        case true =>
          have HCP := Lib.hid (cpointers_any X.fmt wc)
          rw [show (decide (X.fmt = 1) || decide (X.fmt = 4)) = true from hp] at HCP
          have HF := Lib.hid (show od = none by rw [← HOD.out]; unfold HM.odM; rw [HXE.out, HYE.out, if_neg HN3.out, if_neg HN4.out, if_pos hp])
          clear hp
          go_wp2_with fail
          refine HCP.out.mono ?_
          rintro e w6 ⟨rfl, rfl⟩
          go_wp2_with fail
          go_ret
          exact .inl ⟨HF.out, rfl, HP5.out, HB5.out⟩
        case false =>
          have HCP := Lib.hid (cpointers_any X.fmt wc)
          rw [show (decide (X.fmt = 1) || decide (X.fmt = 4)) = false from hp] at HCP
          have HF := Lib.hid (show od = (firstD X.size (fw g o) (fw h u)).map fun k => (5, k) by rw [← HOD.out]; unfold HM.odM; rw [HXE.out, HYE.out, if_neg HN3.out, if_neg HN4.out, if_neg (by simp [hp])])
          have HPY := Lib.hid (show Y.ptrB = false by have := HQ.out.1; unfold Hd.ptrB at hp ⊢; rw [← this]; exact hp)
          have HPX := Lib.hid hp
          clear hp
          go_wp2_with fail
          refine HCP.out.mono ?_
          rintro e w6 ⟨rfl, rfl⟩
          clear HCP
          have HC1 := Lib.hid (fun (w' : World) (hb : Below wc.heap.size wc w') => (HCA.out w' (below_top HB5.out hb) HPX.out).mono fun e w'' hc => hc.rd HFA.out)
          have HC2 := Lib.hid (fun (w' : World) (hb : Below wc.heap.size wc w') => (HCB.out w' (below_top HB5.out hb) HPY.out X HQ.out.1 HQ.out.2.1).mono fun e w'' hc => hc.rd (HFB.out.trans HQ.out.2.1.symm))
          have HK := Lib.hid (fun (w' : World) (hb : Below wc.heap.size wc w') => show w'.cell? ⟨x.gP, 0, none⟩ = some (.pointer (some ⟨x.gA, 0, none⟩)) ∧ w'.cell? ⟨x.gP, 1, none⟩ = some (.pointer (some ⟨x.gB, 0, none⟩)) ∧ w'.cell? ⟨x.gA, 0, none⟩ = some (.pointer (some ⟨p.g, 0, none⟩)) ∧ w'.cell? ⟨x.gB, 0, none⟩ = some (.pointer (some ⟨q.g, 0, none⟩)) ∧ w'.cell? ⟨gX, 0, none⟩ = some (.int .i64 X.size) ∧ w'.cell? ⟨gX, 1, none⟩ = some (.int .i64 X.fmt) ∧ w'.cell? ⟨gX, 2, none⟩ = some (.int .i64 X.spare) ∧ w'.cell? ⟨gX, 3, none⟩ = some (.int .u32 X.cls) ∧ w'.cell? ⟨gX, 4, none⟩ = some (.int .u32 X.ser) from by
            have P6 := HP5.out.below hb
            have B6 := HBX5.out.below hb HBX5.out.lt
            exact ⟨P6.box.cell 0, P6.box.cell 1, P6.ga.box.cell 0, P6.gb.box.cell 0, B6.cell 0, B6.cell 1, B6.cell 2, B6.cell 3, B6.cell 4⟩)
          unfold Hd.val at HC1 HC2
          clear p2 kP c0 c1 c2 c4 d0 d1 d2 d4 e1 e2 e3 HCA HCB
          go_upto_region 10 with fail
          go_cut [13, 14] (fun v1 v2 W' => ∃ A1 k1 A2 k2, v1 = .slice A1 X.size k1 ∧ v2 = .slice A2 X.size k2 ∧ Reads W' W'.heap.size 1 A1 X.size (u32s (g.fields o)) ∧ Reads W' W'.heap.size 1 A2 X.size (u32s (h.fields u)) ∧ Below wc.heap.size wc W')
          case first =>
            have hB0 : Below wc.heap.size wc wc.drew := below_drew (Below.refl _ _)
            go_region_held3 (fun w' => w'.cell? ⟨x.gP, 0, none⟩ = some (.pointer (some ⟨x.gA, 0, none⟩)) ∧ w'.cell? ⟨x.gP, 1, none⟩ = some (.pointer (some ⟨x.gB, 0, none⟩)) ∧ w'.cell? ⟨x.gA, 0, none⟩ = some (.pointer (some ⟨p.g, 0, none⟩)) ∧ w'.cell? ⟨x.gB, 0, none⟩ = some (.pointer (some ⟨q.g, 0, none⟩)) ∧ w'.cell? ⟨gX, 0, none⟩ = some (.int .i64 X.size) ∧ w'.cell? ⟨gX, 1, none⟩ = some (.int .i64 X.fmt) ∧ w'.cell? ⟨gX, 2, none⟩ = some (.int .i64 X.spare) ∧ w'.cell? ⟨gX, 3, none⟩ = some (.int .u32 X.cls) ∧ w'.cell? ⟨gX, 4, none⟩ = some (.int .u32 X.ser))
              (first | exact HK.out _ (by assumption) | go_keep)
              (first
                | (go_at_call 103; (with_reducible refine (HC1.out _ (by assumption)).mono ?_); rintro e w1 ⟨A1, k1, rfl, rd1, hb1⟩; have hB1 := below_top (by assumption) hb1)
                | (go_at_call 103; (with_reducible refine (HC2.out _ (by assumption)).mono ?_); rintro e w2 ⟨A2, k2, rfl, rd2, hb2⟩; have hB2 := below_top (by assumption) hb2))
            all_goals go_wp2_with fail
            all_goals go_meet
            all_goals first
              | exact ⟨_, _, _, _, rfl, rfl, (rd1.below hb2).more hb2.size, rd2, hB2⟩
              | exact ⟨_, _, _, _, rfl, rfl, rd1, (rd2.below hb1).more hb1.size, hB1⟩
          case rest =>
            obtain ⟨A1, k1, A2, k2, rfl, rfl, rd1, rd2, hb6⟩ := hcut
            have HR1 := Lib.hid rd1
            have HR2 := Lib.hid rd2
            have HB6 := Lib.hid (below_top HB5.out hb6)
            clear rd1 rd2 hb6 HC1 HC2 HK HBX5 HBY5
            go_wp2_with fail
            go_loopw [130] (fun iv wr => ∃ k : Nat, k ≤ X.size ∧ iv = .int .i64 k ∧ (∀ j, j < k → fw g o j = fw h u j) ∧ Below wc.heap.size wc wr) (fun iv _ => X.size - (intOf iv).toNat)
            case atStart => exact ⟨0, by omega, rfl, fun j hj => by omega, Below.refl _ _⟩
            case round =>
              obtain ⟨k, hk, rfl, hno, hb⟩ := hrel
              have HNO := Lib.hid hno
              have HB := Lib.hid hb
              clear hno hb
              by_cases hlt : k < X.size
              · obtain ⟨ad1, u1, rfl, hbl1, hx1, kc1⟩ := (HR1.out.below HB.out).at_ hlt
                obtain ⟨ad2, u2, rfl, hbl2, hx2, kc2⟩ := (HR2.out.below HB.out).at_ hlt
                rw [HWA.out k hlt] at hx1
                rw [HWB.out k (by have := HQ.out.2.1; omega)] at hx2
                injection hx1 with hx1
                injection hx2 with hx2
                subst hx1
                subst hx2
                clear hbl1 hbl2
                have hszl : X.size < 9223372036854775807 := by omega
                by_cases heq : fw g o k = fw h u k
                · have e5 : ((fw g o k : Int) != (fw h u k : Int)) = false := by simp [heq]
                  have HEQ := Lib.hid heq
                  clear heq
                  generalize hv1 : fw g o k = y1 at *
                  generalize hv2 : fw h u k = y2 at *
                  have HV1 := Lib.hid hv1
                  have HV2 := Lib.hid hv2
                  clear hv1 hv2
                  go_wp2_with fail
                  go_quiet (fail)
                  go_wp2_with fail
                  go_roundw
                  case rel =>
                    refine ⟨k + 1, by omega, by go_num, fun j hj => ?_, below_drewN HB.out _⟩
                    rcases Nat.lt_or_ge j k with h1 | h1
                    · exact HNO.out j h1
                    · obtain rfl : j = k := by omega
                      rw [HV1.out, HV2.out, HEQ.out]
                  case measure => simp [intOf]; omega
                · have e5 : ((fw g o k : Int) != (fw h u k : Int)) = true := by simp; omega
                  have HFD := Lib.hid (show od = some (5, k) by rw [HF.out, firstD_first hlt heq HNO.out]; rfl)
                  clear heq
                  generalize fw g o k = y1 at *
                  generalize fw h u k = y2 at *
                  go_wp2_with fail
                  go_quiet (fail)
                  have HBQ := Lib.hid (below_top HB6.out (below_drewN HB.out nq))
                  have HPQ := Lib.hid (HP.out.below HBQ.out)
                  clear kc1 kc2 HB
                  generalize wr.drewN nq = w7 at *
                  have p2 := HPQ.out.box.cell 2
                  rw [HEP.out] at p2
                  have kP := HKP.out _ HBQ.out
                  go_wp2_with fail
                  refine (HDF.out _ HBQ.out 5 k (by omega)).mono ?_
                  rintro e w8 ⟨rfl, hD⟩
                  go_wp2_with fail
                  go_ret
                  exact .inr ⟨5, k, HFD.out, rfl, hD⟩
              · obtain rfl : k = X.size := by omega
                have HFN := Lib.hid (show od = none by rw [HF.out, firstD_none.2 HNO.out]; rfl)
                have HBF := Lib.hid (below_top HB6.out HB.out)
                have HPF := Lib.hid (HP.out.below HBF.out)
                go_wp2_with fail
                go_ret
                exact .inl ⟨HFN.out, rfl, HPF.out, HBF.out⟩
end Go.Proofs.YtpajpdjjpgbklaaDoor
