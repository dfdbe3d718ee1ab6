/- (*pair).values: two values on the way held against each other. -/
import Derived.Test.YtpajpdjjpgbklaaDoorJPair
import Derived.Test.YtpajpdjjpgbklaaDoorJUntil
import Derived.Test.YtpajpdjjpgbklaaDoorJCanK
set_option linter.unusedVariables false
set_option linter.unusedSimpArgs false
namespace Go.Proofs.YtpajpdjjpgbklaaDoor
open Go.RowKit Go.Maps Go.Sort
attribute [local go_sem] Oper.semAt_some

theorem pairK_kind {l m : List Nd} {v u : Nat} (h : kindM v ≠ kindM u) : pairK l m v u = 1 := by unfold pairK; rw [if_pos h]
theorem pairK_none {l m : List Nd} {v u : Nat} (h : kindM v = kindM u) (h0 : kindM v = 0) : pairK l m v u = 0 := by unfold pairK; rw [if_neg (by simpa using h), if_pos h0]
theorem pairK_small {l m : List Nd} {v u : Nat} (h : kindM v = kindM u) (h1 : kindM v = 1) : pairK l m v u = if v = u then 0 else 2 := by unfold pairK; rw [if_neg (by simpa using h), if_neg (by omega), if_pos h1]
theorem pairK_obj {l m : List Nd} {v u : Nat} (h : kindM v = kindM u) (h2 : kindM v = 2) : pairK l m v u = if numF l v = numF m u then 0 else 6 := by unfold pairK; rw [if_neg (by simpa using h), if_neg (by omega), if_neg (by omega)]
theorem info_ints : (Tryd.prog.info? 33).map (fun i => (i.zero, i.size, i.bytes)) = some (some (.slice none 0 0), 1, 24) := by kernel_rfl
theorem Reads.ofBlock {w w' : World} {B B' n : Nat} {ad : Addr} {xs : List Value} (h : Reads w B 1 (some ad) n xs) (hs : w'.heap[ad.block]? = w.heap[ad.block]?) (hB : ad.block < B') : Reads w' B' 1 (some ad) n xs := by
  refine ⟨h.1, fun h0 => ?_⟩
  obtain ⟨ad', e, _, hc⟩ := h.2 h0
  injection e with e
  subst e
  exact ⟨ad, rfl, hB, fun j u hu => (World.cell?_of_block (by rw [block_of_add]; exact hs)).trans (hc j u hu)⟩
/-- What values tells. -/
def ValuesP (B : Nat) (x : PA) (hvA hvB : Value) (r : PRows) (t0 t1 t2 : Value) (l m : List Nd) (ps : List Value) (v u : Nat) (par fld : Int) (path : List Int) (w : World) (e : Ending) (w' : World) : Prop :=
  (pairK l m v u = 0 ∧ e = .returned (.bool false) ∧ ∃ r' ps', PAt w' B x hvA hvB r' t0 t1 t2 (meetN l v par fld 0) (meetN m u par fld 0) (meetN l v par fld 0) ps' ∧ PStep x r r' w w') ∨
    (pairK l m v u ≠ 0 ∧ DifferP B x hvA hvB r l m l ps (pairK l m v u) path 0 w e w')
set_option maxRecDepth 100000 in
set_option maxHeartbeats 4000000 in
theorem values_any {w : World} {B : Nat} {x : PA} {hvA hvB : Value} {r : PRows} {t0 t1 t2 : Value} {l m : List Nd} {ps : List Value} (P : PAt w B x hvA hvB r t0 t1 t2 l m l ps) (hl2 : ∀ y ∈ oopsOf l, kindM y = 2) (hm2 : ∀ y ∈ oopsOf m, kindM y = 2)
    (v u : Nat) (hv : v < 4294967296) (hu : u < 4294967296) {ad : Addr} {n c : Nat} {path : List Int} (hr : Reads w w.heap.size 1 (some ad) n (intZ path)) (hn : 0 < n) (hm : n ≤ 10000000) (hxb : ¬ x.has ad.block) (hrb : ¬ r.has ad.block)
    (S : Side l m) (par fld : Int) (hpl : par < (l.length : Int)) (hpath : path = if par < 0 then [fld] else pathM l par.toNat ++ [fld]) (hll : l.length ≤ 4000000) :
    Calls Tryd.prog 73 #[.pointer (some ⟨x.gP, 0, none⟩), .int .u32 v, .int .u32 u, .slice (some ad) n c] w (ValuesP B x hvA hvB r t0 t1 t2 l m ps v u par fld path w) := by
  have HKV := Lib.hid (ckind_any v hv w)
  have HKU := Lib.hid (ckind_any u hu w)
  have HDF := Lib.hid (fun kd (hk : kd ≤ 255) => differ_any P (c := c) hr hn hm kd 0 hk)
  have HP := Lib.hid P
  have HS := Lib.hid S
  have hkv : kindM v = 0 ∨ kindM v = 1 ∨ kindM v = 2 := by unfold kindM; split <;> (try split) <;> simp
  by_cases hkk : kindM v = kindM u
  case neg =>
    have HPK := Lib.hid (pairK_kind (l := l) (m := m) hkk)
    have en : ((kindM v : Int) != (kindM u : Int)) = true := by simp; omega
    have HD := Lib.hid (HDF.out 1 (by omega))
    clear hkk hkv hr P S HDF hpath hl2 hm2
    generalize kindM v = kv at *
    generalize kindM u = ku at *
    go_enter Tryd.func73, Tryd.ntmps73
    go_wp2_with fail
    refine HKV.out.mono ?_
    rintro e w1 ⟨rfl, rfl⟩
    go_wp2_with fail
    refine HKU.out.mono ?_
    rintro e w1 ⟨rfl, rfl⟩
    go_wp2_with fail
    refine HD.out.mono ?_
    rintro e w1 ⟨rfl, hD⟩
    go_wp2_with fail
    go_ret
    exact .inr ⟨by rw [HPK.out]; decide, by rw [HPK.out]; exact ⟨rfl, hD⟩⟩
  case pos =>
  rw [← hkk] at HKU
  rcases hkv with h0 | h1 | h2
  · have HPK := Lib.hid (pairK_none (l := l) (m := m) hkk h0)
    have HME := Lib.hid (show meetN l v par fld 0 = l ∧ meetN m u par fld 0 = m from ⟨meetN_old (fun e => by omega), meetN_old (fun e => by omega)⟩)
    rw [h0] at HKV HKU
    clear hkk h0 hr P S HDF hpath hl2 hm2
    go_enter Tryd.func73, Tryd.ntmps73
    go_wp2_with fail
    refine HKV.out.mono ?_
    rintro e w1 ⟨rfl, rfl⟩
    go_wp2_with fail
    refine HKU.out.mono ?_
    rintro e w1 ⟨rfl, rfl⟩
    go_wp2_with fail
    refine HKV.out.mono ?_
    rintro e w1 ⟨rfl, rfl⟩
    go_wp2_with fail
    go_ret
    exact .inl ⟨HPK.out, rfl, r, ps, by rw [HME.out.1, HME.out.2]; exact HP.out, .of_below (Below.refl _ _)⟩
  · have HME := Lib.hid (show meetN l v par fld 0 = l ∧ meetN m u par fld 0 = m from ⟨meetN_old (fun e => by omega), meetN_old (fun e => by omega)⟩)
    have HPK0 := Lib.hid (pairK_small (l := l) (m := m) hkk h1)
    rw [h1] at HKV HKU
    by_cases hvu : v = u
    · have HPK := Lib.hid (show pairK l m v u = 0 by rw [HPK0.out, if_pos hvu])
      have en : ((v : Int) != (u : Int)) = false := by simp [hvu]
      clear hkk h1 hr P S HDF hpath hl2 hm2 hvu HPK0
      go_enter Tryd.func73, Tryd.ntmps73
      go_wp2_with fail
      refine HKV.out.mono ?_
      rintro e w1 ⟨rfl, rfl⟩
      go_wp2_with fail
      refine HKU.out.mono ?_
      rintro e w1 ⟨rfl, rfl⟩
      go_wp2_with fail
      refine HKV.out.mono ?_
      rintro e w1 ⟨rfl, rfl⟩
      go_wp2_with fail
      refine HKV.out.mono ?_
      rintro e w1 ⟨rfl, rfl⟩
      go_wp2_with fail
      go_ret
      exact .inl ⟨HPK.out, rfl, r, ps, by rw [HME.out.1, HME.out.2]; exact HP.out, .of_below (Below.refl _ _)⟩
    · have HPK := Lib.hid (show pairK l m v u = 2 by rw [HPK0.out, if_neg hvu])
      have en : ((v : Int) != (u : Int)) = true := by simp; omega
      have HD := Lib.hid (HDF.out 2 (by omega))
      clear hkk h1 hr P S HDF hpath hl2 hm2 hvu HPK0
      go_enter Tryd.func73, Tryd.ntmps73
      go_wp2_with fail
      refine HKV.out.mono ?_
      rintro e w1 ⟨rfl, rfl⟩
      go_wp2_with fail
      refine HKU.out.mono ?_
      rintro e w1 ⟨rfl, rfl⟩
      go_wp2_with fail
      refine HKV.out.mono ?_
      rintro e w1 ⟨rfl, rfl⟩
      go_wp2_with fail
      refine HKV.out.mono ?_
      rintro e w1 ⟨rfl, rfl⟩
      go_wp2_with fail
      refine HD.out.mono ?_
      rintro e w1 ⟨rfl, hD⟩
      go_wp2_with fail
      go_ret
      exact .inr ⟨by rw [HPK.out]; decide, by rw [HPK.out]; exact ⟨rfl, hD⟩⟩
  · have HPK0 := Lib.hid (pairK_obj (l := l) (m := m) hkk h2)
    have HK2 := Lib.hid (show kindM v = 2 ∧ kindM u = 2 from ⟨h2, by omega⟩)
    rw [h2] at HKV HKU
    have hlkA := P.ga.num.look_ok oopTy hv
    have hlkB := P.gb.num.look_ok oopTy hu
    have p0 := P.box.cell 0
    have p1 := P.box.cell 1
    have a2 := P.ga.box.cell 2
    have b2 := P.gb.box.cell 2
    have hnA := numF_le l v
    have hnB := numF_le m u
    rw [S.len] at hnB
    by_cases hnum : numF l v = numF m u
    · by_cases hmem : v ∈ oopsOf l
      · have hmu : u ∈ oopsOf m := numF_pos.1 (by rw [← hnum]; exact numF_pos.2 hmem)
        have HPK := Lib.hid (show pairK l m v u = 0 by rw [HPK0.out, if_pos hnum])
        have HME := Lib.hid (show meetN l v par fld 0 = l ∧ meetN m u par fld 0 = m from ⟨meetN_old (fun e => e.2 hmem), meetN_old (fun e => e.2 hmu)⟩)
        rw [decide_eq_true hmem] at hlkA
        rw [decide_eq_true hmu, ← hnum] at hlkB
        have en : ((numF l v : Int) != (numF l v : Int)) = false := by simp
        clear hkk h2 hr P S HDF hpath hl2 hm2 HPK0 hmem hmu hnum
        generalize numF l v = k1 at *
        go_enter Tryd.func73, Tryd.ntmps73
        go_wp2_with fail
        refine HKV.out.mono ?_
        rintro e w1 ⟨rfl, rfl⟩
        go_wp2_with fail
        refine HKU.out.mono ?_
        rintro e w1 ⟨rfl, rfl⟩
        go_wp2_with fail
        refine HKV.out.mono ?_
        rintro e w1 ⟨rfl, rfl⟩
        go_wp2_with fail
        refine HKV.out.mono ?_
        rintro e w1 ⟨rfl, rfl⟩
        go_wp2_with fail
        go_ret
        exact .inl ⟨HPK.out, rfl, r, ps, by rw [HME.out.1, HME.out.2]; exact HP.out, .of_below (Below.refl _ _)⟩
      · have hmu : u ∉ oopsOf m := numF_zero.1 (by rw [← hnum]; exact numF_zero.2 hmem)
        have HPK := Lib.hid (show pairK l m v u = 0 by rw [HPK0.out, if_pos hnum])
        have HML := Lib.hid (meetN_new (l := l) (p := par) (f := fld) (d := 0) HK2.out.1 hmem)
        have HPP := Lib.hid (show ∀ i, i < l.length → pathM (meetN l v par fld 0) i = pathM l i from fun i hi => pathM_pre (meetN_pre _ _ _ _ _) S.up hi)
        have HPN := Lib.hid (show pathM (meetN l v par fld 0) l.length = path by rw [HML.out, pathM_new S.up v par fld 0 hpl, hpath])
        have HLN := Lib.hid (show (meetN l v par fld 0).length = l.length + 1 by rw [HML.out]; simp)
        have HMA := Lib.hid (meet_any P.ga hl2 v hv 0 (by omega) hll par fld)
        have HM2 := Lib.hid hm2
        have HRD := Lib.hid hr
        have hml : m.length ≤ 4000000 := by rw [S.len]; exact hll
        rw [decide_eq_false hmem] at hlkA
        rw [decide_eq_false hmu, ← hnum] at hlkB
        clear hkk h2 hr P S HDF hpath hl2 hm2 HPK0 hmem hmu hnum
        go_enter Tryd.func73, Tryd.ntmps73
        go_wp2_with fail
        refine HKV.out.mono ?_
        rintro e w1 ⟨rfl, rfl⟩
        go_wp2_with fail
        refine HKU.out.mono ?_
        rintro e w1 ⟨rfl, rfl⟩
        go_wp2_with fail
        refine HKV.out.mono ?_
        rintro e w1 ⟨rfl, rfl⟩
        go_wp2_with fail
        refine HKV.out.mono ?_
        rintro e w1 ⟨rfl, rfl⟩
        go_wp2_with fail
        refine HMA.out.mono ?_
        rintro e w1 ⟨rfl, vmA', vdA', GA1, sA⟩
        obtain ⟨P1, st1⟩ := HP.out.meetA GA1 sA
        have HP1 := Lib.hid P1
        have HST1 := Lib.hid st1
        have q1 := P1.box.cell 1
        have HMB := Lib.hid (meet_any P1.gb HM2.out u hu 0 (by omega) hml par fld)
        clear GA1 sA P1 st1 HMA p0 p1 a2 b2 hlkA hlkB
        go_wp2_with fail
        refine HMB.out.mono ?_
        rintro e w2 ⟨rfl, vmB', vdB', GB2, sB⟩
        obtain ⟨P2, st2⟩ := HP1.out.meetB GB2 sB
        have HP2 := Lib.hid P2
        have HST2 := Lib.hid (HST1.out.trans st2)
        clear GB2 sB P2 st2 HMB HP1 HST1 q1
        go_wp2_with fail
        refine wp_region_U 11 (fun w' => w'.cell? ⟨x.gP, 2, none⟩ = some r.vp) (by kernel_rfl) ?_
        have hbd : Below w2.heap.size w2 w2.drew := ⟨rfl, rfl, rfl, Nat.le_refl _, fun _ _ => rfl⟩
        have HP3 := Lib.hid (HP2.out.below hbd)
        have HST3 := Lib.hid (HST2.out.trans (PStep.of_below hbd))
        clear HP2 HST2 hbd
        generalize w2.drew = w3 at *
        have hadl : ad.block < w.heap.size := by
          obtain ⟨ad', e, h1, _⟩ := HRD.out.2 hn
          injection e with e; subst e; exact h1
        have HR3 := Lib.hid (HRD.out.ofBlock (HST3.out.block _ hadl hxb hrb) (show ad.block < w3.heap.size from Nat.lt_of_lt_of_le hadl HST3.out.size))
        have hS : w3.cell? ⟨x.gP, 2, none⟩ = some r.vp := HP3.out.box.cell 2
        obtain ⟨i0, hi0, hz0, hz1, hz2⟩ := info_parts info_ints
        have hpl5 : ps.length ≤ 4000000 := by rw [HP3.out.plen]; exact hll
        have hB3 := HP3.out.ga.hB
        refine U_read 0 (v := .pointer (some ⟨x.gP, 0, none⟩)) rfl (by kernel_rfl) (fun _ _ _ h => h) hS (by rfl) (fun w' hw' => by have h0 : w'.cell? ⟨x.gP, 2, none⟩ = some r.vp := hw'; go_simp) ?_
        try simp only [Act.put, List.setIfInBounds_toArray, List.set_cons_zero, List.set_cons_succ]
        refine U_read 1 (v := .pointer (some ⟨x.gP, 0, none⟩)) rfl (by kernel_rfl) (fun _ _ _ h => h) hS (by rfl) (fun w' hw' => by have h0 : w'.cell? ⟨x.gP, 2, none⟩ = some r.vp := hw'; go_simp) ?_
        try simp only [Act.put, List.setIfInBounds_toArray, List.set_cons_zero, List.set_cons_succ]
        refine U_read 2 (v := .pointer (some ⟨x.gP, 0, none⟩)) rfl (by kernel_rfl) (fun _ _ _ h => h) hS (by rfl) (fun w' hw' => by have h0 : w'.cell? ⟨x.gP, 2, none⟩ = some r.vp := hw'; go_simp) ?_
        try simp only [Act.put, List.setIfInBounds_toArray, List.set_cons_zero, List.set_cons_succ]
        refine U_read 3 (v := .pointer (some ⟨x.gP, 2, none⟩)) rfl (by kernel_rfl) (fun _ _ _ h => h) hS (by rfl) (fun w' hw' => by have h0 : w'.cell? ⟨x.gP, 2, none⟩ = some r.vp := hw'; go_simp) ?_
        try simp only [Act.put, List.setIfInBounds_toArray, List.set_cons_zero, List.set_cons_succ]
        refine U_read 4 (v := r.vp) rfl (by kernel_rfl) (fun _ _ _ h => h) hS (by rfl) (fun w' hw' => by have h0 : w'.cell? ⟨x.gP, 2, none⟩ = some r.vp := hw'; go_simp) ?_
        try simp only [Act.put, List.setIfInBounds_toArray, List.set_cons_zero, List.set_cons_succ]
        refine U_read 5 (v := .slice (some ad) n c) rfl (by kernel_rfl) (fun _ _ _ h => h) hS (by rfl) (fun w' hw' => by have h0 : w'.cell? ⟨x.gP, 2, none⟩ = some r.vp := hw'; go_simp) ?_
        try simp only [Act.put, List.setIfInBounds_toArray, List.set_cons_zero, List.set_cons_succ]
        refine U_one 6 (by kernel_rfl) rfl rfl (fun K hK => ?_)
        go_simp
        refine (clone_int (c := c) HR3.out hn hm).mono ?_
        rintro e w4 ⟨g, c1, rfl, hrow, hge, hb4⟩
        have HP4 := Lib.hid (HP3.out.below hb4)
        have HST4 := Lib.hid (HST3.out.trans (PStep.of_below hb4))
        have hS4 : w4.cell? ⟨x.gP, 2, none⟩ = some r.vp := HP4.out.box.cell 2
        rw [intZ_len] at *
        try dsimp only
        refine hK _ _ (fun _ => hS4) ?_
        clear hK K
        try simp only [Act.put, List.setIfInBounds_toArray, List.set_cons_zero, List.set_cons_succ]
        refine U_one 7 (by kernel_rfl) rfl rfl (fun K hK => ?_)
        go_simp
        refine hK _ _ (fun _ => (World.cell?_alloc_lt w4 _ _ HP4.out.box.lt).trans hS4) ?_
        clear hK K
        try simp only [Act.put, List.setIfInBounds_toArray, List.set_cons_zero, List.set_cons_succ]
        refine U_one 8 (by kernel_rfl) rfl rfl (fun K hK => ?_)
        refine wp_append_any _ (.tmp 90) (.tmp 93) _ rfl B 33 i0 _ 1 24 Tryd.underlying95 hi0 hz0 hz1 hz2 rfl (by omega) r.vp ps.length ps rfl (HP4.out.paths.alloc _) _ _ 1 1 [.slice (some ⟨g, 0, none⟩) path.length c1] rfl (row_one' (heap_alloc_new w4 _) (Nat.lt_succ_self _)) (by simp [Value.oneCell']) (by simp only [maxLen]; omega) (by omega) (by have := HP4.out.ga.hB; simp; omega) ?_
        intro v5 w5 hown5 hgrow5 hat5
        obtain ⟨A5, c5, rfl, -⟩ := own_slice hown5
        have G5 := Grows.alloc_ _ _ _ (Grows.of hgrow5 hat5)
        have BB5 : Blk w5 x.gP 97 _ := HP4.out.box.same (G5.g.block _ HP4.out.box.lt (fun e => own_ne_blk HP4.out.paths HP4.out.box (by decide) e.symm))
        have k5 := BB5.cell 2
        have z5 := BB5.frozen 2
        have HW := HP4.out.way (lw' := meetN l v par fld 0) G5 (by have := hown5; simpa using this) rfl hrow (Nat.le_trans hB3 hge) (fun e => by have := (HP3.out.ga.deep.lt g e).2; omega) (fun e => by have := (HP3.out.gb.deep.lt g e).2; omega) HLN.out HPP.out HPN.out
        have HFIN := Lib.hid (And.intro HW.1 (HST4.out.trans HW.2))
        try dsimp only
        refine hK _ _ (fun _ => k5) ?_
        clear hK K
        try simp only [Act.put, List.setIfInBounds_toArray, List.set_cons_zero, List.set_cons_succ]
        refine U_one 9 (by kernel_rfl) rfl rfl (fun K hK => ?_)
        go_simp
        refine hK _ _ (fun _ => k5) ?_
        clear hK K
        try simp only [Act.put, List.setIfInBounds_toArray, List.set_cons_zero, List.set_cons_succ]
        refine U_one 10 (by kernel_rfl) rfl rfl (fun K hK => ?_)
        go_simp
        refine hK _ _ (fun _ => k5) ?_
        clear hK K
        try simp only [Act.put, List.setIfInBounds_toArray, List.set_cons_zero, List.set_cons_succ]
        refine U_one 11 (by kernel_rfl) rfl rfl (fun K hK => ?_)
        go_simp
        refine hK _ _ (fun h => absurd h (by decide)) ?_
        clear hK K
        try simp only [Act.put, List.setIfInBounds_toArray, List.set_cons_zero, List.set_cons_succ]
        refine U_done (by kernel_rfl) ?_ _
        simp only [Calm, Exit.then]
        go_wp2_with fail
        go_ret
        exact .inl ⟨HPK.out, rfl, _, _, HFIN.out.1, HFIN.out.2⟩
    · have HPK := Lib.hid (show pairK l m v u = 6 by rw [HPK0.out, if_neg hnum])
      have HD := Lib.hid (HDF.out 6 (by omega))
      have en : ((numF l v : Int) != (numF m u : Int)) = true := by simp; omega
      have hor : decide (v ∈ oopsOf l) = true ∨ decide (v ∈ oopsOf l) = false ∧ decide (u ∈ oopsOf m) = true := by
        by_cases h1 : v ∈ oopsOf l
        · exact .inl (by simpa using h1)
        · refine .inr ⟨by simpa using h1, ?_⟩
          have e1 := numF_zero.2 h1
          have : 0 < numF m u := by omega
          simpa using numF_pos.1 this
      clear hkk h2 hr P S HDF hpath hl2 hm2 HPK0 hnum
      generalize numF l v = k1 at *
      generalize numF m u = k2 at *
      rcases hor with h1 | ⟨h1, h2⟩
      · rw [h1] at hlkA
        generalize decide (u ∈ oopsOf m) = bB at *
        clear h1
        go_enter Tryd.func73, Tryd.ntmps73
        go_wp2_with fail
        refine HKV.out.mono ?_
        rintro e w1 ⟨rfl, rfl⟩
        go_wp2_with fail
        refine HKU.out.mono ?_
        rintro e w1 ⟨rfl, rfl⟩
        go_wp2_with fail
        refine HKV.out.mono ?_
        rintro e w1 ⟨rfl, rfl⟩
        go_wp2_with fail
        refine HKV.out.mono ?_
        rintro e w1 ⟨rfl, rfl⟩
        go_wp2_with fail
        refine HD.out.mono ?_
        rintro e w1 ⟨rfl, hD⟩
        go_wp2_with fail
        go_ret
        exact .inr ⟨by rw [HPK.out]; decide, by rw [HPK.out]; exact ⟨rfl, hD⟩⟩
      · rw [h1] at hlkA
        rw [h2] at hlkB
        clear h1 h2
        go_enter Tryd.func73, Tryd.ntmps73
        go_wp2_with fail
        refine HKV.out.mono ?_
        rintro e w1 ⟨rfl, rfl⟩
        go_wp2_with fail
        refine HKU.out.mono ?_
        rintro e w1 ⟨rfl, rfl⟩
        go_wp2_with fail
        refine HKV.out.mono ?_
        rintro e w1 ⟨rfl, rfl⟩
        go_wp2_with fail
        refine HKV.out.mono ?_
        rintro e w1 ⟨rfl, rfl⟩
        go_wp2_with fail
        refine HD.out.mono ?_
        rintro e w1 ⟨rfl, hD⟩
        go_wp2_with fail
        go_ret
        exact .inr ⟨by rw [HPK.out]; decide, by rw [HPK.out]; exact ⟨rfl, hD⟩⟩
end Go.Proofs.YtpajpdjjpgbklaaDoor
