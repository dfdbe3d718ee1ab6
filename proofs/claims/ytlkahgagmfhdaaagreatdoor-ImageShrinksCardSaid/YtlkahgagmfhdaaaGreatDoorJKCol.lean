import Derived.Test.YtlkahgagmfhdaaaGreatDoorJSoAll
import Derived.Test.YtlkahgagmfhdaaaGreatDoorJLoad2
import Derived.Test.YtlkahgagmfhdaaaGreatDoorJAll
import Derived.Test.YtlkahgagmfhdaaaGreatDoorJUntil
import Derived.Test.YtlkahgagmfhdaaaGreatDoorJRoundW
import Derived.Test.YtlkahgagmfhdaaaGreatDoorJLive
import Derived.Test.YtlkahgagmfhdaaaGreatDoorJSameL
import Derived.Test.YtlkahgagmfhdaaaGreatDoorJINew
import Derived.Carry
import Derived.Sort.CutIn
import Derived.Deep.RegionHeld3
set_option linter.unusedVariables false
set_option linter.unusedSimpArgs false
set_option linter.unusedSectionVars false
namespace Go.Proofs.YtlkahgagmfhdaaaGreatDoor
section
open Go.RowKit
attribute [local go_sem] Oper.semAt_some
def PlA (w : World) (g : Nat) (pl : List (Nat × Nat)) : Prop := g < w.heap.size ∧ ∀ k q, pl[k]? = some q → w.cell? ⟨g, k * 2, none⟩ = some (.int .u32 (q.1 : Int)) ∧ w.cell? ⟨g, k * 2 + 1, none⟩ = some (.int .u32 (q.2 : Int))
theorem PlA.same {w w' : World} {g : Nat} {pl : List (Nat × Nat)} (h : PlA w g pl) (hz : w.heap.size ≤ w'.heap.size) (he : w'.heap[g]? = w.heap[g]?) : PlA w' g pl :=
 ⟨Nat.lt_of_lt_of_le h.1 hz, fun k q hk => ⟨(World.cell?_of_block he).trans (h.2 k q hk).1, (World.cell?_of_block he).trans (h.2 k q hk).2⟩⟩
theorem own_two {w : World} {B n : Nat} {v : Value} {pl : List (Nat × Nat)} (O : w.ownsRow B 176 2 v n (mvs pl)) :
 ∃ A g c, v = .slice A n c ∧ B ≤ g ∧ (0 < n → A = some ⟨g, 0, none⟩ ∧ PlA w g pl) := by
 rcases O.2 with ⟨h1, h2⟩ | ⟨g, cap, cur, h1, h2, h3, h4, h5, h6, h7⟩
 ·subst h2
  exact ⟨none, B, 0, h1, Nat.le_refl _, fun h => absurd h (Nat.lt_irrefl _)⟩
 ·refine ⟨_, g, cap, h1, h2, fun _ => ⟨rfl, (Array.getElem?_eq_some_iff.1 h3).1, fun k q hk => ?_⟩⟩
  have hb : Blk w g 176 cur := h3
  obtain ⟨g1, g2⟩ := mvs_get pl k 0 q hk
  rw [← h7, List.getElem?_take] at g1 g2
  have hc : ∀ i : Nat, cur[i]? = cur.toList[i]? := fun i => by simp
  constructor
  ·refine (hb.cell _).trans ?_
   rw [hc]
   split at g1
   ·exact g1
   ·cases g1
  ·refine (hb.cell _).trans ?_
   rw [hc]
   split at g2
   ·exact g2
   ·cases g2
def mvd (pl : List (Nat × Nat)) : Nat := (pl.filter (fun p => decide (p.1 ≠ p.2))).length
set_option maxRecDepth 100000 in
set_option maxHeartbeats 8000000 in
theorem collect_any {w : World} {p : HP} {h : HM} {l : List Ob} (H : HAt w p h) (G : h.Good l) (hs : Spares w) (hsp : ∀ k, w.heap.size ≤ k → k ≠ 0 ∧ k ≠ 0) :
 Calls Tryz.prog 28 #[ptr p.g] w (Made p (colH h l) (colV h l) w) := by
 have HH := Lib.hid (fun (w' : World) (hb : Below w.heap.size w w') => H.below hb)
 have HS := Lib.hid (fun (w' : World) (hb : Below w.heap.size w w') => hs.below hb)
 have HG := Lib.hid G
 have HSP := Lib.hid hsp
 have hlo := G.fit.lo
 have hz : ((h.size : Int) == 0) = false := by simp; omega
 have hb1 : Below w.heap.size w (w.alloc (.cells #[.int .i64 0, .int .i64 0, .int .i64 0, .int .i64 0, .int .i64 0] 62)) := (Below.refl _ _).alloc (Nat.le_refl _) _
 have HF1 := Lib.hid hb1
 have HZ1 := Lib.hid (Blk.new w 62 #[.int .i64 0, .int .i64 0, .int .i64 0, .int .i64 0, .int .i64 0])
 have HSZ := Lib.hid (size_any (HH.out _ hb1) G.fit)
 clear H G hs hsp hb1
 unfold ptr at HSZ ⊢
 refine (callsIn_wide (n := 6)).1 ?_
 refine callsIn_of_wp_marks Tryz.func28 rfl trivial ?_ rfl
 simp only [Tryz.ntmps28, List.size_toArray, List.length_cons, List.length_nil, Nat.reduceAdd, Nat.reduceSub, Array.replicate_succ, Array.replicate_zero, List.push_toArray, List.append_toArray, List.nil_append, List.cons_append]
 gi_upto_region 1 with fail
 have hg1 : w.heap.size < (w.alloc (.cells #[.int .i64 0, .int .i64 0, .int .i64 0, .int .i64 0, .int .i64 0] 62)).heap.size := by simp
 generalize w.alloc (.cells #[.int .i64 0, .int .i64 0, .int .i64 0, .int .i64 0, .int .i64 0] 62) = W1 at *
 gi_wp2_with fail
 refine ⟨trivial, (callsIn_wide.2 HSZ.out).mono ?_⟩
 rintro e w1 ⟨rfl, rfl⟩
 clear HSZ
 have hmm := @run_makeMap Tryz.prog
 gi_wp2_with fail
 have M0 := mov_start W1 (.pointer (some ⟨p.g, 0, none⟩))
 have hb3 : Below W1.heap.size W1 (((W1.alloc (.map #[] 0)).alloc (.cells #[.int .u32 0] 32)).alloc (.cells #[.pointer (some ⟨p.g, 0, none⟩), .map (some W1.heap.size), .slice (some ⟨W1.heap.size + 1, 0, none⟩) 1 1, .int .i64 0, .int .i64 0, .int .i64 0, .int .i64 0, .int .i64 0] 172)) :=
  (((Below.refl _ _).alloc (Nat.le_refl _) _).alloc (by simp) _).alloc (by simp; omega) _
 have HF3 := Lib.hid (below_top HF1.out hb3)
 have HZ3 := Lib.hid (HZ1.out.below hb3 HZ1.out.lt)
 generalize ((W1.alloc (.map #[] 0)).alloc (.cells #[.int .u32 0] 32)).alloc (.cells #[.pointer (some ⟨p.g, 0, none⟩), .map (some W1.heap.size), .slice (some ⟨W1.heap.size + 1, 0, none⟩) 1 1, .int .i64 0, .int .i64 0, .int .i64 0, .int .i64 0, .int .i64 0] 172) = W3 at *
 have HPL := Lib.hid (plan_any (HH.out _ HF3.out) HG.out (HS.out _ HF3.out))
 have HMG := Lib.hid (show w.heap.size < W1.heap.size from hg1)
 clear HF1 HZ1 hg1 hb3 hmm
 rw [show W1.heap.size + 2 = W1.heap.size + 1 + 1 from rfl] at M0
 have hmne : W1.heap.size ≠ W1.heap.size + 1 + 1 := by omega
 have hown0 : ∀ k, (Value.slice (some ⟨W1.heap.size + 1, 0, none⟩) 1 1).ownBlock = some k → W1.heap.size ≤ k := fun k hk => by
  simp only [Value.ownBlock] at hk
  injection hk with hk
  omega
 have hown1 : ∀ k, (Value.slice (some ⟨W1.heap.size + 1, 0, none⟩) 1 1).ownBlock = some k → k < W3.heap.size := fun k hk => (M0.own.lt k hk).2
 generalize (Value.slice (some ⟨W1.heap.size + 1, 0, none⟩) 1 1) = v0 at *
 unfold ptr at HPL
 generalize hmgE : W1.heap.size + 1 + 1 = mg at *
 have HV0 := Lib.hid (show ∀ k, v0.ownBlock = some k → W1.heap.size ≤ k ∧ k < W3.heap.size from fun k hk => ⟨hown0 k hk, hown1 k hk⟩)
 clear hown0 hown1
 have HB3 := Lib.hid (show W1.heap.size ≤ W3.heap.size by have := M0.map.lt; omega)
 clear hmgE
 generalize W1.heap.size = mb at *
 refine ⟨trivial, (callsIn_wide.2 HPL.out).mono ?_⟩
 rintro e W4 ⟨vp, rfl, hown, hb4⟩
 obtain ⟨Ap, gp, cp, rfl, hgp, hA⟩ := own_two hown
 have HA := Lib.hid hA
 have HM4 := Lib.hid (M0.below hb4)
 have HF4 := Lib.hid (below_top HF3.out hb4)
 have HZ4 := Lib.hid (HZ3.out.below hb4 HZ3.out.lt)
 have HG3 := Lib.hid (show W3.heap.size ≤ gp ∧ W3.heap.size ≤ W4.heap.size ∧ mg < W3.heap.size ∧ mb < W3.heap.size from ⟨hgp, hb4.size, M0.box.lt, M0.map.lt⟩)
 have HND := Lib.hid (show ((planM h l).map (·.1)).Nodup by rw [planM_fst, ← keepZ_fst]; exact keepZ_nodup h l)
 have HP32 := Lib.hid (show ∀ (k : Nat) (q : Nat × Nat), (planM h l)[k]? = some q → q.1 < 4294967296 ∧ q.2 < 4294967296 from fun k q hk => by
  have hm := List.mem_of_getElem? hk
  have h1 : q.1 ∈ liveO h l := by rw [← planM_fst]; exact List.mem_map.2 ⟨q, hm, rfl⟩
  refine ⟨isB_u32 HG.out (walk_isB HG.out HG.out.sound.roots _ ((mem_liveO HG.out).1 h1)), ?_⟩
  rw [← goesM_at HND.out hk]
  exact goes_lt HG.out _)
 have HPN := Lib.hid (show (planM h l).length ≤ 1048576 by
  have h1 := congrArg List.length (planM_fst h l)
  rw [List.length_map] at h1
  have h2 := (List.filter_sublist (l := oopsL l) (p := fun o => decide (o ∈ metO (walkM (heldM h) h.roots)))).length_le
  have h3 := oopsL_le HG.out
  unfold liveO at h1
  omega)
 have hpn := HPN.out
 have HMV := Lib.hid (show movedN h l = mvd (planM h l) from rfl)
 have HLV := Lib.hid (show (liveO h l).length = (planM h l).length by rw [← planM_fst, List.length_map])
 clear hown hA M0 hb4 HF3 HZ3 HPL hgp
 gi_wp2_with fail
 gi_loopw [27] (fun iv wr => ∃ k : Nat, iv = .int .i64 k ∧ k ≤ (planM h l).length ∧ MovAt wr mb mg mb (.pointer (some ⟨p.g, 0, none⟩)) v0 [0] ((planM h l).take k) 0 0 0 (mvd ((planM h l).take k)) 0 ∧ Fr2 mg mb W4 wr) (fun iv _ => (planM h l).length - (intOf iv).toNat)
 case atStart => exact ⟨0, rfl, by omega, HM4.out, Fr2.refl _ _ _⟩
 case round =>
  clear HM4
  obtain ⟨k, rfl, hk, hm, hf⟩ := hrel
  have HM := Lib.hid hm
  have HF := Lib.hid hf
  clear hm hf
  by_cases hlt : k < (planM h l).length
  ·obtain ⟨rfl, hpa⟩ := HA.out (by omega)
   have hq := List.getElem?_eq_getElem hlt
   have HQ := Lib.hid (hpa.same HF.out.size (HF.out.same gp hpa.1 (by have := HG3.out; omega) (by have := HG3.out; omega)))
   obtain ⟨hc0, hc1⟩ := HQ.out.2 k _ hq
   obtain ⟨hq1, hq2⟩ := HP32.out k _ hq
   have htk : (planM h l).take (k + 1) = (planM h l).take k ++ [(planM h l)[k]] := by rw [List.take_add_one, hq]; rfl
   have HTK := Lib.hid htk
   have HNI := Lib.hid (show ((planM h l)[k]).1 ∉ ((planM h l).take k).map (·.1) from fun hx => by
    have h1 : (((planM h l).take (k + 1)).map (·.1)).Nodup := (List.take_sublist (k + 1) _ |>.map _).nodup HND.out
    rw [htk, List.map_append, List.nodup_append] at h1
    exact h1.2.2 _ hx _ (by simp) rfl)
   clear hpa htk hq
   generalize (planM h l)[k] = q at *
   obtain ⟨x, y⟩ := q
   simp only at hc0 hc1 hq1 hq2
   gi_wp2_with fail
   have hb5 : Below wr.heap.size wr (wr.alloc (.cells #[.int .u32 (x : Int), .int .u32 (y : Int)] 176)) := (Below.refl _ _).alloc (Nat.le_refl _) _
   have HM5 := Lib.hid (HM.out.below hb5)
   have HX5 := Lib.hid (Blk.new wr 176 #[.int .u32 (x : Int), .int .u32 (y : Int)])
   have HF5 := Lib.hid (HF.out.trans (Fr2.of_below hb5))
   have HG5 := Lib.hid (show mg < wr.heap.size ∧ mb < wr.heap.size from ⟨HM.out.box.lt, HM.out.map.lt⟩)
   clear hb5 HM HF hc0 hc1 HQ
   generalize wr.alloc (.cells #[.int .u32 (x : Int), .int .u32 (y : Int)] 176) = W5 at *
   generalize wr.heap.size = b6 at *
   refine wpIn_region_W 8 (fun w' => w'.cell? ⟨mg, 1, none⟩ = some (.map (some mb)) ∧ w'.cell? ⟨b6, 0, none⟩ = some (.int .u32 (x : Int)) ∧ w'.cell? ⟨b6, 1, none⟩ = some (.int .u32 (y : Int))) (by kernel_rfl) (by kernel_rfl) ?_
   have HMq := Lib.hid HM5.out.drew
   have HXq := Lib.hid (show Blk W5.drew b6 176 #[.int .u32 (x : Int), .int .u32 (y : Int)] from HX5.out)
   have HFq := Lib.hid (HF5.out.trans (Fr2.of_below (⟨rfl, rfl, rfl, Nat.le_refl _, fun _ _ => rfl⟩ : Below W5.heap.size W5 W5.drew)))
   clear HM5 HX5 HF5
   generalize W5.drew = Wq at *
   obtain ⟨W9, hpt, hM9, hg9⟩ := mov_put (q := (x, y)) HMq.out HNI.out hq1 hq2 (by rw [List.length_take]; omega)
   simp only at hpt
   have HM9 := Lib.hid hM9
   have hb69 : b6 ≠ mb := fun e => by have := HG5.out; omega
   have HX9 := Lib.hid (HXq.out.same (hg9.block b6 HXq.out.lt (fun e => hb69 (by first | exact Option.some.inj e | exact (Option.some.inj e).symm))))
   have HF9 := Lib.hid (HFq.out.trans (Fr2.grown hg9))
   have hS : Wq.cell? ⟨mg, 1, none⟩ = some (.map (some mb)) ∧ Wq.cell? ⟨b6, 0, none⟩ = some (.int .u32 (x : Int)) ∧ Wq.cell? ⟨b6, 1, none⟩ = some (.int .u32 (y : Int)) := ⟨HMq.out.box.cell 1, HXq.out.cell 0, HXq.out.cell 1⟩
   clear hM9 hg9 HMq HXq HFq
   refine U_read 0 (v := (.pointer (some ⟨mg, 0, none⟩))) rfl (by kernel_rfl) (fun _ _ _ h => h) hS (by rfl) (fun w' hw' => by obtain ⟨h0, h1, h2⟩ := hw'; go_simp) ?_
   try simp only [Act.put, List.setIfInBounds_toArray, List.set_cons_zero, List.set_cons_succ]
   refine U_read 1 (v := (.pointer (some ⟨mg, 0, none⟩))) rfl (by kernel_rfl) (fun _ _ _ h => h) hS (by rfl) (fun w' hw' => by obtain ⟨h0, h1, h2⟩ := hw'; go_simp) ?_
   try simp only [Act.put, List.setIfInBounds_toArray, List.set_cons_zero, List.set_cons_succ]
   refine U_read 2 (v := (.pointer (some ⟨mg, 1, none⟩))) rfl (by kernel_rfl) (fun _ _ _ h => h) hS (by rfl) (fun w' hw' => by obtain ⟨h0, h1, h2⟩ := hw'; go_simp) ?_
   try simp only [Act.put, List.setIfInBounds_toArray, List.set_cons_zero, List.set_cons_succ]
   refine U_read 3 (v := (.map (some mb))) rfl (by kernel_rfl) (fun _ _ _ h => h) hS (by rfl) (fun w' hw' => by obtain ⟨h0, h1, h2⟩ := hw'; go_simp) ?_
   try simp only [Act.put, List.setIfInBounds_toArray, List.set_cons_zero, List.set_cons_succ]
   refine U_read 4 (v := (.pointer (some ⟨b6, 0, none⟩))) rfl (by kernel_rfl) (fun _ _ _ h => h) hS (by rfl) (fun w' hw' => by obtain ⟨h0, h1, h2⟩ := hw'; go_simp) ?_
   try simp only [Act.put, List.setIfInBounds_toArray, List.set_cons_zero, List.set_cons_succ]
   refine U_read 5 (v := (.int .u32 (x : Int))) rfl (by kernel_rfl) (fun _ _ _ h => h) hS (by rfl) (fun w' hw' => by obtain ⟨h0, h1, h2⟩ := hw'; go_simp) ?_
   try simp only [Act.put, List.setIfInBounds_toArray, List.set_cons_zero, List.set_cons_succ]
   refine U_read 6 (v := (.pointer (some ⟨b6, 1, none⟩))) rfl (by kernel_rfl) (fun _ _ _ h => h) hS (by rfl) (fun w' hw' => by obtain ⟨h0, h1, h2⟩ := hw'; go_simp) ?_
   try simp only [Act.put, List.setIfInBounds_toArray, List.set_cons_zero, List.set_cons_succ]
   refine U_read 7 (v := (.int .u32 (y : Int))) rfl (by kernel_rfl) (fun _ _ _ h => h) hS (by rfl) (fun w' hw' => by obtain ⟨h0, h1, h2⟩ := hw'; go_simp) ?_
   try simp only [Act.put, List.setIfInBounds_toArray, List.set_cons_zero, List.set_cons_succ]
   refine U_one 8 (by kernel_rfl) rfl rfl (fun K hK => ?_)
   go_simp
   refine hK _ _ (fun h => absurd h (by decide)) ?_
   clear hK K
   try simp only [Act.put, List.setIfInBounds_toArray, List.set_cons_zero, List.set_cons_succ]
   refine U_done (by kernel_rfl) ?_ _
   simp only [Calm, Exit.then]
   clear hS hpt
   have x0 := HX9.out.cell 0
   have x1 := HX9.out.cell 1
   have hmvl : mvd ((planM h l).take k) ≤ 1048576 := by
    have h1 := List.length_filter_le (fun p : Nat × Nat => decide (p.1 ≠ p.2)) ((planM h l).take k)
    rw [List.length_take] at h1
    unfold mvd
    omega
   have HMD := Lib.hid (show mvd ((planM h l).take (k + 1)) = mvd ((planM h l).take k) + (if x = y then 0 else 1) by
    rw [HTK.out]
    unfold mvd
    rw [List.filter_append, List.length_append]
    congr 1
    by_cases e : x = y
    ·simp [e]
    ·simp [e])
   have hm6 := HM9.out.box.cell 6
   have hz6 := HM9.out.box.frozen 6
   rw [← HTK.out] at HM9
   clear HX9 hb69 HNI HTK
   by_cases hxy : x = y
   ·have hne : ((x : Int) != (y : Int)) = false := by simp [hxy]
    have HE := Lib.hid (show mvd ((planM h l).take (k + 1)) = mvd ((planM h l).take k) by rw [HMD.out, if_pos hxy]; rfl)
    clear hxy HMD hm6 hz6
    rw [← HE.out] at HM9
    gi_wp2_with fail
    go_roundw
    case rel => exact ⟨k + 1, by go_num, by omega, HM9.out, HF9.out⟩
    case measure => simp [intOf]; omega
   ·have hne : ((x : Int) != (y : Int)) = true := by simp; omega
    have HE := Lib.hid (show mvd ((planM h l).take (k + 1)) = mvd ((planM h l).take k) + 1 by rw [HMD.out, if_neg hxy])
    clear hxy HMD
    generalize mvd ((planM h l).take k) = T at *
    have HM0 := Lib.hid (mov_cells (w' := W9.setCell ⟨mg, 6, none⟩ (.int .i64 ((T : Int) + 1))) (u0 := 0) (u1 := 0) (u2 := 0) (u3 := T + 1) (u4 := 0) HM9.out (HM9.out.box.set_ 6 _) (fun q hq => Below.heap_setCell W9 ⟨mg, 6, none⟩ _ q hq))
    have HF0 := Lib.hid (HF9.out.trans (Fr2.setA (b := mb) W9 ⟨mg, 6, none⟩ (.int .i64 ((T : Int) + 1))))
    rw [← HE.out] at HM0
    clear HM9 HF9
    gi_wp2_with fail
    go_roundw
    case rel => exact ⟨k + 1, by go_num, by omega, HM0.out, HF0.out⟩
    case measure => simp [intOf]; omega
  ·obtain rfl : k = (planM h l).length := by omega
   have hE := HM.out
   rw [List.take_length] at hE
   have HME := Lib.hid hE
   clear hE HM
   have hb7 : Below wr.heap.size wr (wr.alloc (.cells #[.int .i64 0] 3)) := (Below.refl _ _).alloc (Nat.le_refl _) _
   have HM7 := Lib.hid (HME.out.below hb7)
   have HB7 := Lib.hid (Blk.new wr 3 #[.int .i64 0])
   have HG6 := Lib.hid (show mg < wr.heap.size ∧ mb < wr.heap.size ∧ W4.heap.size ≤ wr.heap.size from ⟨HME.out.box.lt, HME.out.map.lt, HF.out.size⟩)
   have HF7 := Lib.hid (show Below w.heap.size w (wr.alloc (.cells #[.int .i64 0] 3)) from below_top (HF4.out.trans (HF.out.below (by have := HG3.out; have := HMG.out; have := HME.out.hg; omega) (by have := HMG.out; omega) HF4.out.size)) hb7)
   have HZ7 := Lib.hid ((HZ4.out.same (HF.out.same _ HZ4.out.lt (by have := HME.out.hg; have := HMG.out; omega) (by have := HMG.out; omega))).below hb7 (HZ4.out.same (HF.out.same _ HZ4.out.lt (by have := HME.out.hg; have := HMG.out; omega) (by have := HMG.out; omega))).lt)
   have HA7 := Lib.hid (show 0 < (planM h l).length → Ap = some ⟨gp, 0, none⟩ ∧ PlA (wr.alloc (.cells #[.int .i64 0] 3)) gp (planM h l) from fun hn => by
    obtain ⟨e, ha⟩ := HA.out hn
    have h1 := ha.same HF.out.size (HF.out.same gp ha.1 (by have := HG3.out; omega) (by have := HG3.out; omega))
    exact ⟨e, h1.same hb7.size (hb7.block _ h1.1)⟩)
   have HGA := Lib.hid (show gp < W4.heap.size ∨ (planM h l).length = 0 from by
    by_cases h0 : 0 < (planM h l).length
    ·exact .inl (HA.out h0).2.1
    ·exact .inr (by omega))
   clear hb7 HA HF4 HZ4 HME HF
   gi_upto_region 13 with fail
   generalize hbA : wr.heap.size = bA at *
   generalize wr.alloc (.cells #[.int .i64 0] 3) = W7 at *
   clear hbA
   gi_wp2_with fail
   refine ⟨trivial, (callsIn_wide.2 (all_any p.g W7)).mono ?_⟩
   rintro e W8 ⟨rfl, rfl⟩
   have hb8 : Below W7.heap.size W7 (W7.alloc (.cells #[ptr p.g] 23)) := (Below.refl _ _).alloc (Nat.le_refl _) _
   have HBH := Lib.hid (Blk.new W7 23 #[ptr p.g])
   have HM8 := Lib.hid (HM7.out.below hb8)
   have HB8 := Lib.hid (HB7.out.below hb8 HB7.out.lt)
   have HF8 := Lib.hid (below_top HF7.out hb8)
   have HZ8 := Lib.hid (HZ7.out.below hb8 HZ7.out.lt)
   have HA8 := Lib.hid (show 0 < (planM h l).length → Ap = some ⟨gp, 0, none⟩ ∧ PlA (W7.alloc (.cells #[ptr p.g] 23)) gp (planM h l) from fun hn => ⟨(HA7.out hn).1, (HA7.out hn).2.same hb8.size (hb8.block _ (HA7.out hn).2.1)⟩)
   have HG8 := Lib.hid (show bA < W7.heap.size from HB7.out.lt)
   have HH8 := Lib.hid (HH.out _ HF8.out)
   have HS8 := Lib.hid (HS.out _ HF8.out)
   have hspA : 0 < bA := by
    have := World.block_lt_of_cell? _ _ ((HS.out w (Below.refl _ _)) 0 (by omega))
    simp only at this
    have := HG6.out
    have := HMG.out
    omega
   have HPW := Lib.hid (show ∀ j, p.has j → j < w.heap.size from fun j hj => (HH.out w (Below.refl _ _)).lt hj)
   have h80 : W7.heap.size < (W7.alloc (.cells #[ptr p.g] 23)).heap.size := by simp
   clear HM7 HB7 HF7 HZ7 HA7 hb8
   unfold ptr at HBH
   gi_wp2_with fail
   unfold ptr at *
   generalize W7.alloc (.cells #[.pointer (some ⟨p.g, 0, none⟩)] 23) = W0 at *
   generalize W7.heap.size = bH at *
   refine wpIn_rangeFunc_ownH (F := Fence.wide) rfl (by omega) (gf := 129) (lb := #[.pointer (some ⟨bH, 0, none⟩)]) rfl trivial (enters_of Tryz.func129 (by kernel_rfl) rfl)
    (all_stops HH8.out HG.out HS8.out 5 bH bA (HBH.out.cell 0) hspA) KpB.trans (fun W l o o' _ h1 h2 _ => KpB.book W l o o' h1 h2) (Below.refl _ _) (fun _ => rfl)
    (fun pre W => Blk W bA 3 #[.int .i64 (pre.length : Nat)] ∧ (∀ k, k < W0.heap.size → k ≠ bA → W.heap[k]? = W0.heap[k]?) ∧ Below w.heap.size w W ∧ W0.heap.size ≤ W.heap.size)
    (fun c pre W => False)
    (fun pre A B row hs hg hr => ⟨blk_ownW hs.1 hg hr, fun k h1 h2 => (hg.block k (by have := hs.2.2.2; omega) (fun e => by have := (hr k e.symm).1; omega)).trans (hs.2.1 k h1 h2), hs.2.2.1.grown hg hs.2.2.1.size (fun k e => by have h1 := (hr k e).1; have h2 := HF8.out.size; omega), Nat.le_trans hs.2.2.2 hg.size⟩)
    (fun c pre A B row hs hg hr => hs.elim)
    ⟨HB8.out, fun _ _ _ => rfl, HF8.out, Nat.le_refl _⟩
    (fun x a' W => a' = { tmps := #[.pointer (some ⟨p.g, 0, none⟩), undef, .pointer (some ⟨w.heap.size, 0, none⟩), .pointer (some ⟨mg, 0, none⟩), .slice Ap (planM h l).length cp, undef, u6, .pointer (some ⟨bA, 0, none⟩), undef, undef, undef, undef, undef, undef, .pointer (some ⟨p.g, 0, none⟩), .int .i64 (h.size : Int), .bool false, undef, .pointer (some ⟨p.g, 0, none⟩), .map (some mb), v0, .agg #[.pointer (some ⟨p.g, 0, none⟩), .map (some mb), v0, .int .i64 0, .int .i64 0, .int .i64 0, .int .i64 0, .int .i64 0], .pointer (some ⟨mg, 0, none⟩), .pointer (some ⟨p.g, 0, none⟩), .slice Ap (planM h l).length cp, .slice Ap (planM h l).length cp, .int .i64 ((planM h l).length : Int), .int .i64 ((planM h l).length : Int), .bool false, u29, u30, u31, u32, u33, u34, u35, u36, u37, u38, u39, u40, u41, u42, u43, u44, u45, u46, u47, u48, u49, u50, u51, u52, u53, .pointer (some ⟨p.g, 0, none⟩), .func (.func 129) #[] #[.pointer (some ⟨bH, 0, none⟩)], .int .u32 ((2 * posOf (l.take x.1) : Nat) : Int), (l[x.1]'x.2).x.val, undef, undef, undef, undef, undef, undef, undef, undef, undef, undef, undef, undef, undef, undef, undef, undef, undef, undef, undef, undef, undef, undef, undef, undef, undef, undef, undef, undef, undef, undef, undef, undef, undef, undef, undef, undef, undef, undef, undef, undef, undef, undef, undef, undef, undef, undef, undef, undef, undef, undef, undef, undef, undef, undef, undef, undef, undef, undef, undef, undef, undef, undef, undef, undef, undef, undef, undef, undef, undef, undef, undef, undef, undef, undef, undef, undef, undef], defers := [] })
    (fun x a' _ X Y row hs hg hr => hs)
    ?assign ?body ?done ?stop
   case assign =>
    rintro lp pre x W K hI hK
    rw [show allV l x = #[.int .u32 ((2 * posOf (l.take x.1) : Nat) : Int), (l[x.1]'x.2).x.val] from rfl]
    have HI0 := Lib.hid hI
    have HK := Lib.hid hK
    clear hK hI
    generalize (l[x.1]'x.2).x.val = X at *
    generalize 2 * posOf (l.take x.1) = o at *
    gi_wp2_with fail
    exact HK.out _ _ ((KeepsOthers.refl _).from _) (KpB.refl _ _ _) HI0.out rfl
   case body =>
    rintro lp pre x a' W hl hlr ⟨B1, K1, F1, Z1⟩ rfl hltx
    have hpl : pre.length ≤ 1048576 := by have h1 := oopsL_le HG.out; rw [oopsL_len] at h1; omega
    have hwi : IntKind.i64.wrap ((pre.length : Int) + 1) = (pre.length : Int) + 1 := IntWalk.i64_in _ (by omega)
    have y1 := B1.cell 0
    have f1 := B1.frozen 0
    have hbA0 : bA < W0.heap.size := HB8.out.lt
    have hne : ∀ k, k ≠ bA → (W.setCell ⟨bA, 0, none⟩ (.int .i64 ((pre.length : Int) + 1))).heap[k]? = W.heap[k]? := fun k h => Below.heap_setCell W ⟨bA, 0, none⟩ _ k h
    have hsz : (W.setCell ⟨bA, 0, none⟩ (.int .i64 ((pre.length : Int) + 1))).heap.size = W.heap.size := by simp [World.setCell]
    have HFN := Lib.hid (show KeepsFrom W0.heap.size W (W.setCell ⟨bA, 0, none⟩ (.int .i64 ((pre.length : Int) + 1))) ∧ KpB bA W0.heap.size W (W.setCell ⟨bA, 0, none⟩ (.int .i64 ((pre.length : Int) + 1))) ∧
     Blk (W.setCell ⟨bA, 0, none⟩ (.int .i64 ((pre.length : Int) + 1))) bA 3 #[.int .i64 ((pre ++ [x]).length : Nat)] ∧
     (∀ k, k < W0.heap.size → k ≠ bA → (W.setCell ⟨bA, 0, none⟩ (.int .i64 ((pre.length : Int) + 1))).heap[k]? = W0.heap[k]?) ∧ Below w.heap.size w (W.setCell ⟨bA, 0, none⟩ (.int .i64 ((pre.length : Int) + 1))) ∧
     W0.heap.size ≤ (W.setCell ⟨bA, 0, none⟩ (.int .i64 ((pre.length : Int) + 1))).heap.size from by
     refine ⟨⟨Nat.le_of_eq hsz.symm, fun k o' hk ho' hc => (hne k (by omega)).trans ho'⟩, (KpB.refl bA W0.heap.size W).setCell (Nat.le_refl _) hbA0 _, ?_, fun k h1 h2 => (hne k h2).trans (K1 k h1 h2), F1.setCell (p := ⟨bA, 0, none⟩) (by have := HG6.out; have := HMG.out; simp only; omega) _, by rw [hsz]; exact Z1⟩
     rw [show (((pre ++ [x]).length : Nat) : Int) = (pre.length : Int) + 1 by simp]
     exact B1.set_ 0 _)
    clear hne hsz B1 K1 F1
    apply wpIn_block
    gi_wp2_with fail
    exact HFN.out
   case done =>
    rintro D xs W hD rfl ⟨B1, K1, F1, Z1⟩ hK
    rw [List.length_finRange] at B1
    gi_upto_region 15 with fail
    have HLE := Lib.hid (show (planM h l).length ≤ l.length by
     have h1 := congrArg List.length (planM_fst h l)
     rw [List.length_map] at h1
     have h2 := (List.filter_sublist (l := oopsL l) (p := fun o => decide (o ∈ metO (walkM (heldM h) h.roots)))).length_le
     rw [oopsL_len] at h2
     unfold liveO at h1
     omega)
    have HLL := Lib.hid (show l.length ≤ 1048576 by have h1 := oopsL_le HG.out; rw [oopsL_len] at h1; exact h1)
    have hbAg : mg < bA ∧ mb < bA := ⟨HG6.out.1, HG6.out.2.1⟩
    have hbA0 : bA < W0.heap.size := HB8.out.lt
    have HM1 := Lib.hid (mov_same HM8.out (K1 mg HM8.out.box.lt (by omega)) (K1 mb HM8.out.map.lt (by omega)) (fun k hk => K1 k (HM8.out.own.lt k hk).2 (by have := HV0.out k hk; have := HG3.out; have := HG6.out; omega)))
    have HB1 := Lib.hid B1
    have HF1 := Lib.hid F1
    have HZ1 := Lib.hid (HZ8.out.same (K1 _ HZ8.out.lt (by have := HMG.out; omega)))
    have HA1 := Lib.hid (show 0 < (planM h l).length → Ap = some ⟨gp, 0, none⟩ ∧ PlA W gp (planM h l) from fun hn => ⟨(HA8.out hn).1, (HA8.out hn).2.same Z1 (K1 gp (HA8.out hn).2.1 (by have := HG6.out; have := HGA.out; omega))⟩)
    have HK := Lib.hid hK
    have hcv : ((l.length - (planM h l).length : Nat) : Int) = (l.length : Int) - ((planM h l).length : Int) := by have := HLE.out; omega
    have hws : IntKind.i64.wrap ((l.length : Int) - ((planM h l).length : Int)) = (l.length : Int) - ((planM h l).length : Int) := IntWalk.i64_in _ (by have := HLL.out; omega)
    have HCV := Lib.hid hcv
    clear B1 K1 F1 hK HM8 HB8 HF8 HZ8 HA8 HH8 HS8 HBH h80 hspA hcv
    refine wpIn_region_W 15 (fun w' => w'.cell? ⟨bA, 0, none⟩ = some (.int .i64 (l.length : Int)) ∧ True) (by kernel_rfl) (by kernel_rfl) ?_
    have hbd : Below W.heap.size W W.drew := ⟨rfl, rfl, rfl, Nat.le_refl _, fun _ _ => rfl⟩
    have HM2 := Lib.hid (HM1.out.below hbd)
    have hBAq : Blk W.drew bA 3 #[.int .i64 (l.length : Int)] := HB1.out
    have hS : W.drew.cell? ⟨bA, 0, none⟩ = some (.int .i64 (l.length : Int)) ∧ True := ⟨hBAq.cell 0, trivial⟩
    have HF2 := Lib.hid (below_top HF1.out hbd)
    have HZ2 := Lib.hid (HZ1.out.below hbd HZ1.out.lt)
    have HA2 := Lib.hid (show 0 < (planM h l).length → Ap = some ⟨gp, 0, none⟩ ∧ PlA W.drew gp (planM h l) from HA1.out)
    have HK2 := Lib.hid (show W.drew.heap[D]? = some (.deferred (some [])) from HK.out)
    have Z2 : W0.heap.size ≤ W.drew.heap.size := Z1
    clear hbd HM1 HF1 HZ1 HA1 HK HB1 Z1
    generalize W.drew = Wq at *
    have hm3 := HM2.out.box.cell 3
    have hz3 := HM2.out.box.frozen 3
    have hb3' := HM2.out.box.set_ 3 (.int .i64 ((planM h l).length : Int))
    have hm4 := hb3'.cell 4
    have hz4 := hb3'.frozen 4
    have hS3 : (Wq.setCell ⟨mg, 3, none⟩ (.int .i64 ((planM h l).length : Int))).cell? ⟨bA, 0, none⟩ = some (.int .i64 (l.length : Int)) ∧ True := ⟨(World.cell?_of_block (Below.heap_setCell Wq ⟨mg, 3, none⟩ _ bA (by simp only; omega))).trans hS.1, trivial⟩
    refine U_read 0 (v := (.pointer (some ⟨mg, 0, none⟩))) rfl (by kernel_rfl) (fun _ _ _ h => h) hS (by rfl) (fun w' hw' => by obtain ⟨h0, _⟩ := hw'; go_simp) ?_
    try simp only [Act.put, List.setIfInBounds_toArray, List.set_cons_zero, List.set_cons_succ]
    refine U_read 1 (v := (.pointer (some ⟨mg, 0, none⟩))) rfl (by kernel_rfl) (fun _ _ _ h => h) hS (by rfl) (fun w' hw' => by obtain ⟨h0, _⟩ := hw'; go_simp) ?_
    try simp only [Act.put, List.setIfInBounds_toArray, List.set_cons_zero, List.set_cons_succ]
    refine U_read 2 (v := (.slice Ap (planM h l).length cp)) rfl (by kernel_rfl) (fun _ _ _ h => h) hS (by rfl) (fun w' hw' => by obtain ⟨h0, _⟩ := hw'; go_simp) ?_
    try simp only [Act.put, List.setIfInBounds_toArray, List.set_cons_zero, List.set_cons_succ]
    refine U_read 3 (v := (.int .i64 ((planM h l).length : Int))) rfl (by kernel_rfl) (fun _ _ _ h => h) hS (by rfl) (fun w' hw' => by obtain ⟨h0, _⟩ := hw'; go_simp) ?_
    try simp only [Act.put, List.setIfInBounds_toArray, List.set_cons_zero, List.set_cons_succ]
    refine U_read 4 (v := (.int .i64 (l.length : Int))) rfl (by kernel_rfl) (fun _ _ _ h => h) hS (by rfl) (fun w' hw' => by obtain ⟨h0, _⟩ := hw'; go_simp) ?_
    try simp only [Act.put, List.setIfInBounds_toArray, List.set_cons_zero, List.set_cons_succ]
    refine U_read 5 (v := (.slice Ap (planM h l).length cp)) rfl (by kernel_rfl) (fun _ _ _ h => h) hS (by rfl) (fun w' hw' => by obtain ⟨h0, _⟩ := hw'; go_simp) ?_
    try simp only [Act.put, List.setIfInBounds_toArray, List.set_cons_zero, List.set_cons_succ]
    refine U_read 6 (v := (.int .i64 ((planM h l).length : Int))) rfl (by kernel_rfl) (fun _ _ _ h => h) hS (by rfl) (fun w' hw' => by obtain ⟨h0, _⟩ := hw'; go_simp) ?_
    try simp only [Act.put, List.setIfInBounds_toArray, List.set_cons_zero, List.set_cons_succ]
    refine U_read 7 (v := (.int .i64 ((l.length : Int) - ((planM h l).length : Int)))) rfl (by kernel_rfl) (fun _ _ _ h => h) hS (by rfl) (fun w' hw' => by obtain ⟨h0, _⟩ := hw'; go_simp) ?_
    try simp only [Act.put, List.setIfInBounds_toArray, List.set_cons_zero, List.set_cons_succ]
    refine U_read 8 (v := (.pointer (some ⟨mg, 0, none⟩))) rfl (by kernel_rfl) (fun _ _ _ h => h) hS (by rfl) (fun w' hw' => by obtain ⟨h0, _⟩ := hw'; go_simp) ?_
    try simp only [Act.put, List.setIfInBounds_toArray, List.set_cons_zero, List.set_cons_succ]
    refine U_read 9 (v := (.pointer (some ⟨mg, 3, none⟩))) rfl (by kernel_rfl) (fun _ _ _ h => h) hS (by rfl) (fun w' hw' => by obtain ⟨h0, _⟩ := hw'; go_simp) ?_
    try simp only [Act.put, List.setIfInBounds_toArray, List.set_cons_zero, List.set_cons_succ]
    refine U_read 10 (v := (.pointer (some ⟨mg, 3, none⟩))) rfl (by kernel_rfl) (fun _ _ _ h => h) hS (by rfl) (fun w' hw' => by obtain ⟨h0, _⟩ := hw'; go_simp) ?_
    try simp only [Act.put, List.setIfInBounds_toArray, List.set_cons_zero, List.set_cons_succ]
    refine U_one 11 (by kernel_rfl) rfl rfl (fun K hK => ?_)
    go_simp
    refine hK _ _ (fun _ => hS3) ?_
    clear hK K
    try simp only [Act.put, List.setIfInBounds_toArray, List.set_cons_zero, List.set_cons_succ]
    clear hS
    have hS := hS3
    refine U_one 12 (by kernel_rfl) rfl rfl (fun K hK => ?_)
    go_simp
    refine hK _ _ (fun _ => hS) ?_
    clear hK K
    try simp only [Act.put, List.setIfInBounds_toArray, List.set_cons_zero, List.set_cons_succ]
    refine U_one 13 (by kernel_rfl) rfl rfl (fun K hK => ?_)
    go_simp
    refine hK _ _ (fun _ => hS) ?_
    clear hK K
    try simp only [Act.put, List.setIfInBounds_toArray, List.set_cons_zero, List.set_cons_succ]
    refine U_one 14 (by kernel_rfl) rfl rfl (fun K hK => ?_)
    go_simp
    refine hK _ _ (fun _ => hS) ?_
    clear hK K
    try simp only [Act.put, List.setIfInBounds_toArray, List.set_cons_zero, List.set_cons_succ]
    refine U_one 15 (by kernel_rfl) rfl rfl (fun K hK => ?_)
    go_simp
    refine hK _ _ (fun h => absurd h (by decide)) ?_
    clear hK K
    try simp only [Act.put, List.setIfInBounds_toArray, List.set_cons_zero, List.set_cons_succ]
    refine U_done (by kernel_rfl) ?_ _
    simp only [Calm, Exit.then]
    have HB9 := Lib.hid hb3'
    clear hS hS3 hm3 hz3 hm4 hz4 hb3' hBAq hws hbAg
    have hmgne : ∀ q, q ≠ mg → ((Wq.setCell ⟨mg, 3, none⟩ (.int .i64 ((planM h l).length : Int))).setCell ⟨mg, 4, none⟩ (.int .i64 ((l.length : Int) - ((planM h l).length : Int)))).heap[q]? = Wq.heap[q]? := fun q hq => (Below.heap_setCell _ ⟨mg, 4, none⟩ _ q hq).trans (Below.heap_setCell _ ⟨mg, 3, none⟩ _ q hq)
    have HM3 := Lib.hid (mov_cells (u0 := (planM h l).length) (u1 := l.length - (planM h l).length) (u2 := 0) (u3 := mvd (planM h l)) (u4 := 0) HM2.out (by rw [HCV.out]; exact HB9.out.set_ 4 _) hmgne)
    have hwmg : w.heap.size < mg := by have := HM2.out.hg; have := HMG.out; omega
    have HF3 := Lib.hid ((HF2.out.setCell (p := ⟨mg, 3, none⟩) (Nat.le_of_lt hwmg) (.int .i64 ((planM h l).length : Int))).setCell (p := ⟨mg, 4, none⟩) (Nat.le_of_lt hwmg) (.int .i64 ((l.length : Int) - ((planM h l).length : Int))))
    have HZ3 := Lib.hid (HZ2.out.same (hmgne _ (by omega)))
    have hszq : ((Wq.setCell ⟨mg, 3, none⟩ (.int .i64 ((planM h l).length : Int))).setCell ⟨mg, 4, none⟩ (.int .i64 ((l.length : Int) - ((planM h l).length : Int)))).heap.size = Wq.heap.size := by simp [World.setCell]
    have HA3 := Lib.hid (show 0 < (planM h l).length → Ap = some ⟨gp, 0, none⟩ ∧ PlA ((Wq.setCell ⟨mg, 3, none⟩ (.int .i64 ((planM h l).length : Int))).setCell ⟨mg, 4, none⟩ (.int .i64 ((l.length : Int) - ((planM h l).length : Int)))) gp (planM h l) from fun hn => ⟨(HA2.out hn).1, (HA2.out hn).2.same (Nat.le_of_eq hszq.symm) (hmgne gp (by have := HG3.out; omega))⟩)
    have HK3 := Lib.hid ((hmgne D (by have := HG6.out; omega)).trans HK2.out)
    have HG9 := Lib.hid (show W0.heap.size ≤ ((Wq.setCell ⟨mg, 3, none⟩ (.int .i64 ((planM h l).length : Int))).setCell ⟨mg, 4, none⟩ (.int .i64 ((l.length : Int) - ((planM h l).length : Int)))).heap.size by rw [hszq]; exact Z2)
    clear HM2 HF2 HZ2 HA2 HK2 Z2 hmgne hszq HB9
    generalize (Wq.setCell ⟨mg, 3, none⟩ (.int .i64 ((planM h l).length : Int))).setCell ⟨mg, 4, none⟩ (.int .i64 ((l.length : Int) - ((planM h l).length : Int))) = W9 at *
    have HRT := Lib.hid (roots_any (HH.out W9 HF3.out) HG.out.fit)
    unfold ptr at HRT
    have HL2 := Lib.hid (show (u32s h.roots).length = 64 by rw [u32s_len]; exact HG.out.fit.roots)
    gi_wp2_with fail
    refine ⟨trivial, (callsIn_wide.2 HRT.out).mono ?_⟩
    rintro e w10 ⟨gr, cr, rfl, hrr, hgr, hb10⟩
    rw [HL2.out]
    have HRR := Lib.hid hrr
    have HB10 := Lib.hid hb10
    clear hrr hb10 HRT
    gi_wp2_with fail
    gi_loopw [78] (fun iv wr => ∃ k : Nat, iv = .int .i64 k ∧ k ≤ 64 ∧ Row wr gr 54 cr (u32s ((h.roots.take k).map (whereM (planM h l)) ++ h.roots.drop k)) ∧ Below W9.heap.size W9 wr) (fun iv _ => 64 - (intOf iv).toNat)
    case atStart => exact ⟨0, rfl, by omega, by simpa using HRR.out, HB10.out⟩
    case round =>
     clear HRR HB10
     obtain ⟨k, rfl, hk, hro, hb⟩ := hrel
     have HRO := Lib.hid hro
     have HB := Lib.hid hb
     clear hro hb
     by_cases hlt : k < 64
     ·have hlr : k < h.roots.length := by rw [HG.out.fit.roots]; exact hlt
      have hcl := HRO.out.cell (u32s_get (l := (h.roots.take k).map (whereM (planM h l)) ++ h.roots.drop k) (i := k) (by simp; omega))
      rw [map_elem _ _ _ hlr] at hcl
      have hr32 : h.roots.getD k 0 < 4294967296 := by
       have := List.getElem_mem hlr
       rw [List.getD_eq_getElem?_getD, List.getElem?_eq_getElem hlr]
       exact HG.out.fit.r32 _ this
      have HWX := Lib.hid (where_any (HM3.out.below HB.out) hr32)
      have HST := Lib.hid (map_step (whereM (planM h l)) h.roots k hlr)
      have hcn : (wr.cell? ⟨gr, k, none⟩).isSome = true := by rw [hcl]; rfl
      clear hlr hr32
      generalize h.roots.getD k 0 = r at *
      generalize whereM (planM h l) r = r' at *
      gi_wp2_with fail
      refine ⟨trivial, (callsIn_wide.2 HWX.out).mono ?_⟩
      rintro e w11 ⟨rfl, rfl⟩
      have hzk := HRO.out.frozen k
      have HR1 := Lib.hid (HRO.out.set k (.int .u32 (r' : Int)))
      rw [HST.out] at HR1
      have HB1 := Lib.hid (HB.out.setCell (p := ⟨gr, k, none⟩) hgr (.int .u32 (r' : Int)))
      clear HRO HB HWX HST
      gi_wp2_with fail
      go_roundw
      case rel => exact ⟨k + 1, by go_num, by omega, HR1.out, HB1.out⟩
      case measure => simp [intOf]; omega
     ·obtain rfl : k = 64 := by omega
      have hE := HRO.out
      rw [List.take_of_length_le (by rw [HG.out.fit.roots]; omega), List.drop_of_length_le (by rw [HG.out.fit.roots]; omega), List.append_nil] at hE
      have HRE := Lib.hid (show Row wr gr 54 cr (u32s (colR h l)) from hE)
      clear hE HRO
      have HFr := Lib.hid (below_top HF3.out HB.out)
      have HWD := Lib.hid (words_any (HH.out wr HFr.out) HG.out.fit)
      unfold ptr at HWD
      have HL1 := Lib.hid (u32s_len h.words)
      gi_wp2_with fail
      refine ⟨trivial, (callsIn_wide.2 HWD.out).mono ?_⟩
      rintro e w12 ⟨go, co, rfl, hrw, hgo, hb12⟩
      rw [HL1.out]
      have HB12 := Lib.hid (below_top HB.out hb12)
      have HRE2 := Lib.hid (HRE.out.below hb12)
      have HRW := Lib.hid hrw
      have HRL := Lib.hid (show W9.heap.size ≤ wr.heap.size ∧ wr.heap.size ≤ w12.heap.size from ⟨HB.out.size, hb12.size⟩)
      clear hrw hb12 HB HRE HWD HFr
      have HV2 := Lib.hid (show (u32s (colR h l))[0]? = some (.int .u32 (voidM h l : Int)) by
       rw [u32s_get (by unfold colR; rw [List.length_map, HG.out.fit.roots]; omega)]
       unfold colR voidM
       rw [List.getD_eq_getElem?_getD, List.getElem?_map, List.getElem?_eq_getElem (by rw [HG.out.fit.roots]; omega), List.getD_eq_getElem?_getD, List.getElem?_eq_getElem (by rw [HG.out.fit.roots]; omega)]
       rfl)
      have HKZ := Lib.hid (show (keepZ h l).length = (planM h l).length by rw [keepZ_len, HLV.out])
      have HM12 := Lib.hid (HM3.out.below HB12.out)
      have HF12 := Lib.hid (below_top HF3.out HB12.out)
      have HW9 := Lib.hid (show mg < W9.heap.size ∧ W9.heap.size ≤ w12.heap.size from ⟨HM3.out.box.lt, HB12.out.size⟩)
      have HGR := Lib.hid hgr
      have HGO := Lib.hid (show W9.heap.size ≤ go from Nat.le_trans HRL.out.1 hgo)
      clear HRL
      clear hgr hgo
      gi_wp2_with fail
      gi_loopw [97] (fun iv wx => ∃ (k : Nat) (v : Value), iv = .int .i64 k ∧ k ≤ (planM h l).length ∧ MovAt wx mb mg mb (.pointer (some ⟨p.g, 0, none⟩)) v ([0] ++ wsOf ((colL h l).take k)) (planM h l) (planM h l).length (l.length - (planM h l).length) 0 (mvd (planM h l)) (clrN (planM h l) ((keepZ h l).take k)) ∧ MFr mg v0 v w12 wx) (fun iv _ => (planM h l).length - (intOf iv).toNat)
      case atStart => exact ⟨0, v0, rfl, by omega, by simpa [wsOf, clrN] using HM12.out, MFr.refl _ _ _⟩
      case round =>
       clear HM12
       obtain ⟨k, v, rfl, hk, hm, hf⟩ := hrel
       have HM := Lib.hid hm
       have HF := Lib.hid hf
       clear hm hf
       by_cases hlt : k < (planM h l).length
       ·have hlz : k < (keepZ h l).length := by rw [HKZ.out]; exact hlt
        obtain ⟨rfl, hpa⟩ := HA3.out (by omega)
        have hq := List.getElem?_eq_getElem hlt
        have hgpb : gp < W4.heap.size ∧ W3.heap.size ≤ gp := ⟨by have := HGA.out; omega, HG3.out.1⟩
        have hW9W4 : W4.heap.size ≤ W9.heap.size := by have := HG6.out; have := HG9.out; have := HG8.out; omega
        have hv0n : ∀ q, W3.heap.size ≤ q → v0.ownBlock ≠ some q := fun q hq e => by have := HV0.out q e; omega
        have hgpw : W9.heap.size ≤ w12.heap.size := HW9.out.2
        have hsame12 : w12.heap[gp]? = W9.heap[gp]? := HB12.out.block gp (by omega)
        have hPw := (hpa.same hgpw hsame12).same HF.out.size (HF.out.same gp (by omega) (by have := HG3.out; omega) (hv0n gp (by omega)))
        obtain ⟨hc0, hc1⟩ := hPw.2 k _ hq
        have hfst : ((planM h l)[k]).1 = ((keepZ h l)[k]).1 := by
         have h1 := planM_fst h l
         rw [← keepZ_fst] at h1
         have h2 := congrArg (fun z => z[k]?) h1
         simp only [List.getElem?_map, hq, List.getElem?_eq_getElem hlz, Option.map_some] at h2
         exact Option.some.inj h2
        obtain ⟨j, hj, hp1, hp2, hp3⟩ := keepZ_mem (List.getElem_mem hlz)
        obtain ⟨o, ho⟩ : ∃ o, o = 2 * posOf (l.take j) := ⟨_, rfl⟩
        have HO := Lib.hid ho
        rw [hfst, hp1, ← ho] at hc0
        clear ho
        have hmg3 : mg < W3.heap.size := HG3.out.2.2.1
        obtain ⟨hrow, hne⟩ := HF.out.row HRW.out (by have := HGO.out; omega) (hv0n go (by have := HGO.out; have := HG3.out; omega))
        have hrr := HF.out.row HRE2.out (by have := HGR.out; omega) (hv0n gr (by have := HGR.out; have := HG3.out; omega))
        have hBel : Below w.heap.size w wr := by
         have h1 := HF.out.below (B := w.heap.size) (by omega) (fun q e => by have := HV0.out q e; have := HMG.out; omega) HF12.out.size
         exact HF12.out.trans h1
        have HBEL := Lib.hid hBel
        have HROW := Lib.hid hrow
        have HNE := Lib.hid hne
        have HRR := Lib.hid hrr.1
        have htk : (colL h l).take (k + 1) = (colL h l).take k ++ [relob (planM h l) (voidM h l) (l[j])] := by
         have hcl : (colL h l)[k]? = some (relob (planM h l) (voidM h l) (l[j])) := by
          unfold colL
          rw [List.getElem?_map, List.getElem?_eq_getElem hlz, Option.map_some, hp2]
         rw [List.take_add_one, hcl]
         rfl
        have hzk : (keepZ h l).take (k + 1) = (keepZ h l).take k ++ [(keepZ h l)[k]] := by rw [List.take_add_one, List.getElem?_eq_getElem hlz]; rfl
        have HWS := Lib.hid (show [0] ++ wsOf ((colL h l).take (k + 1)) = ([0] ++ wsOf ((colL h l).take k)) ++ (relob (planM h l) (voidM h l) (l[j])).ws by
         rw [htk, wsOf_app, wsOf_cons, wsOf_nil, List.append_nil, List.append_assoc])
        have HCL := Lib.hid (show clrN (planM h l) ((keepZ h l).take (k + 1)) = clrN (planM h l) ((keepZ h l).take k) + clearedB (planM h l) (l[j]) by
         rw [hzk, clr_snoc, hp2])
        have hwsl : ([0] ++ wsOf ((colL h l).take k)).length ≤ 1048576 := by
         have h1 := wsOf_sub (List.take_sublist k (colL h l))
         have h2 := col_room HG.out
         have h3 := HG.out.fit.room
         have h4 := HG.out.fit.hi
         simp only [List.length_append, List.length_cons, List.length_nil] at *
         omega
        have hcll : clrN (planM h l) ((keepZ h l).take k) ≤ 1000000000000 := by
         have h1 := clr_le (planM h l) ((keepZ h l).take k)
         have h2 : (wsOf (((keepZ h l).take k).map (·.2))).length ≤ (wsOf l).length := wsOf_sub (((List.take_sublist k _).map _).trans (keepZ_snd h l))
         have h3 := HG.out.fit.room
         have h4 := HG.out.fit.hi
         have h5 := congrArg List.length HG.out.laid.words
         rw [List.length_cons] at h5
         omega
        have hvoid := HRR.out.cell HV2.out
        have HJ := Lib.hid hj
        generalize ((planM h l)[k]).2 = y at hc1
        clear hpa hq hgpb hW9W4 hv0n hgpw hsame12 hPw hfst hp1 hp2 hp3 htk hzk hlz hmg3 hrow hne hrr hBel
        gi_upto_region 26 with fail
        have hb5 : Below wr.heap.size wr (wr.alloc (.cells #[.int .u32 (o : Int), .int .u32 (y : Int)] 176)) := (Below.refl _ _).alloc (Nat.le_refl _) _
        have HM5 := Lib.hid (HM.out.below hb5)
        have HX5 := Lib.hid (Blk.new wr 176 #[.int .u32 (o : Int), .int .u32 (y : Int)])
        have HF5 := Lib.hid (HF.out.trans (MFr.of_below (mg := mg) (v := v) hb5))
        have HR5 := Lib.hid (HROW.out.below hb5)
        have HQ5 := Lib.hid (HRR.out.below hb5)
        have HB5 := Lib.hid (below_top HBEL.out hb5)
        clear hb5 HM HF HROW HRR HBEL hc0 hc1 hvoid
        generalize wr.alloc (.cells #[.int .u32 (o : Int), .int .u32 (y : Int)] 176) = W5 at *
        generalize wr.heap.size = b6 at *
        refine wpIn_region_W 7 (fun w' => w'.cell? ⟨b6, 0, none⟩ = some (.int .u32 (o : Int)) ∧ w'.cell? ⟨gr, 0, none⟩ = some (.int .u32 (voidM h l : Int))) (by kernel_rfl) (by kernel_rfl) ?_
        have hbd : Below W5.heap.size W5 W5.drew := ⟨rfl, rfl, rfl, Nat.le_refl _, fun _ _ => rfl⟩
        have HMq := Lib.hid HM5.out.drew
        have HFq := Lib.hid (HF5.out.trans (MFr.of_below (mg := mg) (v := v) hbd))
        have HRq := Lib.hid (HR5.out.below hbd)
        have HBq := Lib.hid (below_top HB5.out hbd)
        have hS : W5.drew.cell? ⟨b6, 0, none⟩ = some (.int .u32 (o : Int)) ∧ W5.drew.cell? ⟨gr, 0, none⟩ = some (.int .u32 (voidM h l : Int)) := ⟨HX5.out.cell 0, HQ5.out.cell HV2.out⟩
        clear hbd HM5 HX5 HF5 HR5 HQ5 HB5
        generalize W5.drew = Wq at *
        have hBm : mb ≤ Wq.heap.size := Nat.le_of_lt HMq.out.map.lt
        have HLAY := Lib.hid (lay_any (void := voidM h l) HMq.out (HH.out Wq HBq.out) HG.out (HS.out Wq HBq.out) HJ.out HRq.out HNE.out hBm (fun x hx => where_lt HG.out hx) (void_lt HG.out) hwsl hcll)
        unfold LayQ at HLAY
        rw [← HWS.out, ← HCL.out, ← HO.out] at HLAY
        generalize voidM h l = void at *
        refine U_read 0 (v := (.pointer (some ⟨mg, 0, none⟩))) rfl (by kernel_rfl) (fun _ _ _ h => h) hS (by rfl) (fun w' hw' => by obtain ⟨h0, h1⟩ := hw'; go_simp) ?_
        try simp only [Act.put, List.setIfInBounds_toArray, List.set_cons_zero, List.set_cons_succ]
        refine U_readC 1 [2, 7] (v := (.pointer (some ⟨b6, 0, none⟩))) rfl (by kernel_rfl) (fun _ _ _ h => h) hS (by rfl) (fun w' hw' => by obtain ⟨h0, h1⟩ := hw'; go_simp) ?_
        try simp only [Act.put, List.setIfInBounds_toArray, List.set_cons_zero, List.set_cons_succ]
        refine U_read 2 (v := (.int .u32 (o : Int))) rfl (by kernel_rfl) (fun _ _ _ h => h) hS (by rfl) (fun w' hw' => by obtain ⟨h0, h1⟩ := hw'; go_simp) ?_
        try simp only [Act.put, List.setIfInBounds_toArray, List.set_cons_zero, List.set_cons_succ]
        refine U_read 3 (v := (.slice (some ⟨go, 0, none⟩) h.words.length co)) rfl (by kernel_rfl) (fun _ _ _ h => h) hS (by rfl) (fun w' hw' => by obtain ⟨h0, h1⟩ := hw'; go_simp) ?_
        try simp only [Act.put, List.setIfInBounds_toArray, List.set_cons_zero, List.set_cons_succ]
        refine U_readC 4 [5, 6, 7] (v := (.slice (some ⟨gr, 0, none⟩) 64 cr)) rfl (by kernel_rfl) (fun _ _ _ h => h) hS (by rfl) (fun w' hw' => by obtain ⟨h0, h1⟩ := hw'; go_simp) ?_
        try simp only [Act.put, List.setIfInBounds_toArray, List.set_cons_zero, List.set_cons_succ]
        refine U_readC 5 [6, 7] (v := (.pointer (some ⟨gr, 0, none⟩))) rfl (by kernel_rfl) (fun _ _ _ h => h) hS (by rfl) (fun w' hw' => by obtain ⟨h0, h1⟩ := hw'; go_simp) ?_
        try simp only [Act.put, List.setIfInBounds_toArray, List.set_cons_zero, List.set_cons_succ]
        refine U_read 6 (v := (.int .u32 (void : Int))) rfl (by kernel_rfl) (fun _ _ _ h => h) hS (by rfl) (fun w' hw' => by obtain ⟨h0, h1⟩ := hw'; go_simp) ?_
        try simp only [Act.put, List.setIfInBounds_toArray, List.set_cons_zero, List.set_cons_succ]
        refine U_one 7 (by kernel_rfl) rfl rfl (fun K hK => ?_)
        go_simp
        refine HLAY.out.mono ?_
        rintro e W8 ⟨rfl, v', hm8, hf8⟩
        have HM8 := Lib.hid hm8
        have HF8 := Lib.hid (HFq.out.trans hf8)
        clear hm8 hf8 HLAY HMq HFq HRq HBq hS
        refine hK _ _ (fun h => absurd h (by decide)) ?_
        clear hK K
        try simp only [Act.put, List.setIfInBounds_toArray, List.set_cons_zero, List.set_cons_succ]
        refine U_done (by kernel_rfl) ?_ _
        simp only [Calm, Exit.then]
        gi_wp2_with fail
        go_roundw
        case rel => exact ⟨k + 1, v', by go_num, by omega, HM8.out, HF8.out⟩
        case measure => simp [intOf]; omega
       ·obtain rfl : k = (planM h l).length := by omega
        have hE := HM.out
        rw [List.take_of_length_le (by rw [colL_len, HKZ.out]; exact Nat.le_refl _), List.take_of_length_le (by rw [HKZ.out]; exact Nat.le_refl _)] at hE
        obtain ⟨gv, cv, hvv, hrv, -, hgv⟩ := Row.of_any hE.own (by simp)
        have hBel : Below w.heap.size w wr := by
         have h1 := HF.out.below (B := w.heap.size) (by have := HMG.out; have := hE.hg; omega) (fun q e => by have := HV0.out q e; have := HMG.out; omega) HF12.out.size
         exact HF12.out.trans h1
        have hv0n : ∀ q, W3.heap.size ≤ q → v0.ownBlock ≠ some q := fun q hq e => by have := HV0.out q e; omega
        have hmg3 : mg < W3.heap.size := HG3.out.2.2.1
        have h39 : W3.heap.size ≤ W9.heap.size := by have := HG6.out; have := HG9.out; have := HG8.out; have := HG3.out; omega
        have hrr := (HF.out.row HRE2.out (by have := HGR.out; omega) (hv0n gr (by have := HGR.out; omega))).1
        have hD0 : W0.heap.size ≤ D := hD
        have hW30 : W3.heap.size ≤ W0.heap.size := by have := HG6.out; have := HG8.out; have := HG3.out; omega
        have hK12 := (HB12.out.block D (lt_of_get HK3.out)).trans HK3.out
        have hKr : wr.heap[D]? = some (.deferred (some [])) := (HF.out.same D (lt_of_get hK12) (by omega) (hv0n D (by omega))).trans hK12
        have hzr : Blk wr w.heap.size 62 #[.int .i64 0, .int .i64 0, .int .i64 0, .int .i64 0, .int .i64 0] :=
         (HZ3.out.same (HB12.out.block _ HZ3.out.lt)).same (HF.out.same _ (Nat.lt_of_lt_of_le HZ3.out.lt HW9.out.2) (by have := hE.hg; have := HMG.out; omega) (fun e => by have := HV0.out _ e; have := HMG.out; omega))
        have HME := Lib.hid hE
        have HRV := Lib.hid hrv
        have HBL := Lib.hid hBel
        have HRR := Lib.hid hrr
        have HKR := Lib.hid hKr
        have HZR := Lib.hid hzr
        have HCR := Lib.hid (col_room HG.out)
        have HFIT := Lib.hid (show h.words.length ≤ 1048576 by have h1 := HG.out.fit.room; have h2 := HG.out.fit.hi; omega)
        have HWS := Lib.hid (show [0] ++ wsOf (colL h l) = 0 :: wsOf (colL h l) from rfl)
        subst hvv
        clear hE hrv hBel hv0n hmg3 h39 hrr hD0 hW30 hK12 hKr hzr HM HF
        rw [HWS.out] at HME HRV
        have hlw : (0 :: wsOf (colL h l)).length = 1 + (wsOf (colL h l)).length := by rw [List.length_cons]; omega
        have hcw := HCR.out
        have hfw := HFIT.out
        have HLD := Lib.hid (show ∀ Wq : World, Below w.heap.size w Wq → Row Wq gv 32 cv (u32s (0 :: wsOf (colL h l))) → Row Wq gr 54 cr (u32s (colR h l)) →
         Calls Tryz.prog 94 #[ptr p.g, .slice (some ⟨gv, 0, none⟩) (0 :: wsOf (colL h l)).length cv, .slice (some ⟨gr, 0, none⟩) 64 cr, .int .u32 (h.last : Nat)] Wq (Made p (colH h l) (.int .i64 0) Wq) from fun Wq hb r1 r2 => by
         have hR : (colR h l).length = 64 := by unfold colR; rw [List.length_map]; exact HG.out.fit.roots
         have hn1 := r1.reads (B := Wq.heap.size) r1.lt
         have hn2 := r2.reads (B := Wq.heap.size) r2.lt
         rw [u32s_len] at hn1 hn2
         rw [hR] at hn2
         have hro := HG.out.fit.room
         have h0 := loadE_ok (size := h.size) (ws := 0 :: wsOf (colL h l)) (rs := colR h l) (last := h.last) (by rw [hR]; simp only [List.length_cons] at *; omega) (col_loadOk HG.out)
         have h1 := Load_any (HH.out Wq hb) HG.out.fit (HS.out Wq hb) (fun k hk => HSP.out k (Nat.le_trans hb.size hk)) _ _ cv _ (by omega) hn1 (col_w32 HG.out) _ _ cr _ (by omega) hn2 (col_r32 HG.out) h.last HG.out.fit.l32
         rw [h0, show h.loadH (0 :: wsOf (colL h l)) (colR h l) h.last = colH h l by unfold HM.loadH; rw [if_pos h0]; rfl] at h1
         exact h1)
        unfold ptr at HLD
        have HLS := Lib.hid (fun (Wq : World) (hb : Below w.heap.size w Wq) => last_any (HH.out Wq hb) HG.out.fit)
        unfold ptr at HLS
        have HCOL := Lib.hid (show ∀ LW, LW = (0 :: wsOf (colL h l)).length → colV h l = .agg #[.int .i64 ((planM h l).length : Nat), .int .i64 ((l.length - (planM h l).length : Nat) : Nat), .int .i64 ((h.words.length - LW : Nat) : Nat), .int .i64 (mvd (planM h l) : Nat), .int .i64 (clrN (planM h l) (keepZ h l) : Nat)] from fun LW e => by
         unfold colV
         rw [HLV.out, e, hlw]
         rfl)
        have HCOL := Lib.hid (HCOL.out _ rfl)
        clear hlw HWS
        generalize (0 :: wsOf (colL h l)).length = LW at *
        have hws : IntKind.i64.wrap ((h.words.length : Int) - (LW : Int)) = (h.words.length : Int) - (LW : Int) := IntWalk.i64_in _ (by omega)
        have hcv : ((h.words.length - LW : Nat) : Int) = (h.words.length : Int) - (LW : Int) := by omega
        have HCV2 := Lib.hid hcv
        have hm2 := HME.out.box.cell 2
        have hm5 := HME.out.box.cell 5
        have hz5 := HME.out.box.frozen 5
        clear hcv hcw hfw
        gi_upto_region 29 with fail
        have hmgne : ∀ q, q ≠ mg → (wr.setCell ⟨mg, 5, none⟩ (.int .i64 ((h.words.length : Int) - (LW : Int)))).heap[q]? = wr.heap[q]? := fun q hq => Below.heap_setCell wr ⟨mg, 5, none⟩ _ q hq
        have hbx := HME.out.box.set_ 5 (.int .i64 ((h.words.length : Int) - (LW : Int)))
        have hgvm : gv ≠ mg := fun e => own_ne_blk HME.out.own HME.out.box (by decide) (by rw [← e]; rfl)
        have hgrm : gr ≠ mg := by have := HGR.out; have := HW9.out; omega
        have hwmg' : w.heap.size < mg := by have := HME.out.hg; have := HMG.out; omega
        have HBX := Lib.hid hbx
        have HRV1 := Lib.hid (HRV.out.same (hmgne gv hgvm))
        have HRR1 := Lib.hid (HRR.out.same (hmgne gr hgrm))
        have HKR1 := Lib.hid ((hmgne D (by have := HG6.out; have := HG8.out; omega)).trans HKR.out)
        have HZR1 := Lib.hid (HZR.out.same (hmgne _ (by omega)))
        have HBL1 := Lib.hid (HBL.out.setCell (p := ⟨mg, 5, none⟩) (Nat.le_of_lt hwmg') (.int .i64 ((h.words.length : Int) - (LW : Int))))
        clear hbx hmgne hgvm hgrm hm2 hm5 hz5 hws HME HRV HRR HKR HZR HBL
        generalize wr.setCell ⟨mg, 5, none⟩ (.int .i64 ((h.words.length : Int) - (LW : Int))) = W28 at *
        refine wpIn_region_W 8 (fun w' => w'.cell? ⟨mg, 2, none⟩ = some (.slice (some ⟨gv, 0, none⟩) LW cv) ∧ True) (by kernel_rfl) (by kernel_rfl) ?_
        have hbd : Below W28.heap.size W28 W28.drew := ⟨rfl, rfl, rfl, Nat.le_refl _, fun _ _ => rfl⟩
        have HBXq := Lib.hid (HBX.out.below hbd HBX.out.lt)
        have HRVq := Lib.hid (HRV1.out.below hbd)
        have HRRq := Lib.hid (HRR1.out.below hbd)
        have HKRq := Lib.hid (show W28.drew.heap[D]? = some (.deferred (some [])) from HKR1.out)
        have HZRq := Lib.hid (HZR1.out.below hbd HZR1.out.lt)
        have HBLq := Lib.hid (below_top HBL1.out hbd)
        clear hbd HBX HRV1 HRR1 HKR1 HZR1 HBL1
        generalize W28.drew = Wq at *
        have hS : Wq.cell? ⟨mg, 2, none⟩ = some (.slice (some ⟨gv, 0, none⟩) LW cv) ∧ True := ⟨HBXq.out.cell 2, trivial⟩
        have HLDq := Lib.hid (HLD.out Wq HBLq.out HRVq.out HRRq.out)
        have HLSq := Lib.hid (HLS.out Wq HBLq.out)
        refine U_read 0 (v := (.pointer (some ⟨p.g, 0, none⟩))) rfl (by kernel_rfl) (fun _ _ _ h => h) hS (by rfl) (fun w' hw' => by obtain ⟨h0, _⟩ := hw'; go_simp) ?_
        try simp only [Act.put, List.setIfInBounds_toArray, List.set_cons_zero, List.set_cons_succ]
        refine U_readC 1 [2, 3, 4, 8] (v := (.pointer (some ⟨mg, 0, none⟩))) rfl (by kernel_rfl) (fun _ _ _ h => h) hS (by rfl) (fun w' hw' => by obtain ⟨h0, _⟩ := hw'; go_simp) ?_
        try simp only [Act.put, List.setIfInBounds_toArray, List.set_cons_zero, List.set_cons_succ]
        refine U_readC 2 [3, 4, 8] (v := (.pointer (some ⟨mg, 0, none⟩))) rfl (by kernel_rfl) (fun _ _ _ h => h) hS (by rfl) (fun w' hw' => by obtain ⟨h0, _⟩ := hw'; go_simp) ?_
        try simp only [Act.put, List.setIfInBounds_toArray, List.set_cons_zero, List.set_cons_succ]
        refine U_readC 3 [4, 8] (v := (.pointer (some ⟨mg, 2, none⟩))) rfl (by kernel_rfl) (fun _ _ _ h => h) hS (by rfl) (fun w' hw' => by obtain ⟨h0, _⟩ := hw'; go_simp) ?_
        try simp only [Act.put, List.setIfInBounds_toArray, List.set_cons_zero, List.set_cons_succ]
        refine U_read 4 (v := (.slice (some ⟨gv, 0, none⟩) LW cv)) rfl (by kernel_rfl) (fun _ _ _ h => h) hS (by rfl) (fun w' hw' => by obtain ⟨h0, _⟩ := hw'; go_simp) ?_
        try simp only [Act.put, List.setIfInBounds_toArray, List.set_cons_zero, List.set_cons_succ]
        refine U_read 5 (v := (.slice (some ⟨gr, 0, none⟩) 64 cr)) rfl (by kernel_rfl) (fun _ _ _ h => h) hS (by rfl) (fun w' hw' => by obtain ⟨h0, _⟩ := hw'; go_simp) ?_
        try simp only [Act.put, List.setIfInBounds_toArray, List.set_cons_zero, List.set_cons_succ]
        refine U_readC 6 [7, 8] (v := (.pointer (some ⟨p.g, 0, none⟩))) rfl (by kernel_rfl) (fun _ _ _ h => h) hS (by rfl) (fun w' hw' => by obtain ⟨h0, _⟩ := hw'; go_simp) ?_
        try simp only [Act.put, List.setIfInBounds_toArray, List.set_cons_zero, List.set_cons_succ]
        refine U_one 7 (by kernel_rfl) rfl rfl (fun K hK => ?_)
        go_simp
        refine HLSq.out.mono ?_
        rintro e w7 ⟨rfl, rfl⟩
        refine hK _ _ (fun _ => hS) ?_
        clear hK K
        try simp only [Act.put, List.setIfInBounds_toArray, List.set_cons_zero, List.set_cons_succ]
        refine U_one 8 (by kernel_rfl) rfl rfl (fun K hK => ?_)
        go_simp
        refine HLDq.out.mono ?_
        rintro e W30 ⟨p', rfl, hH30, hst⟩
        have HH30 := Lib.hid hH30
        have HST := Lib.hid hst
        have HPM := Lib.hid (show ∀ j, p.has j → j < w.heap.size from HPW.out)
        have HBX3 := Lib.hid (HBXq.out.same (hst.block mg HBXq.out.lt (fun e => by have := HPW.out mg e; omega)))
        have HZR3 := Lib.hid (HZRq.out.same (hst.block _ HZRq.out.lt (fun e => by have := HPW.out _ e; omega)))
        have HKR3 := Lib.hid ((hst.block D (lt_of_get HKRq.out) (fun e => by have := HPW.out D e; have := HG6.out; have := HG8.out; omega)).trans HKRq.out)
        clear hH30 hst HLDq HLSq hS HLD HLS
        refine hK _ _ (fun h => absurd h (by decide)) ?_
        clear hK K
        try simp only [Act.put, List.setIfInBounds_toArray, List.set_cons_zero, List.set_cons_succ]
        refine U_done (by kernel_rfl) ?_ _
        simp only [Calm, Exit.then]
        generalize hT1 : ((l.length - (planM h l).length : Nat) : Int) = T1 at *
        generalize hT2 : (clrN (planM h l) (keepZ h l) : Int) = T2 at *
        generalize hT3 : (mvd (planM h l) : Int) = T3 at *
        have e3 : W30.cell? ⟨mg, 3, none⟩ = some (.int .i64 ((planM h l).length : Int)) := (HBX3.out.cell 3).trans (by simp)
        have e4 : W30.cell? ⟨mg, 4, none⟩ = some (.int .i64 T1) := (HBX3.out.cell 4).trans (by simp)
        have e5 : W30.cell? ⟨mg, 5, none⟩ = some (.int .i64 ((h.words.length : Int) - (LW : Int))) := (HBX3.out.cell 5).trans (by simp)
        have e6 : W30.cell? ⟨mg, 6, none⟩ = some (.int .i64 T3) := (HBX3.out.cell 6).trans (by simp)
        have e7 : W30.cell? ⟨mg, 7, none⟩ = some (.int .i64 T2) := (HBX3.out.cell 7).trans (by simp)
        have z0 := HZR3.out.frozen 0
        have z1 := HZR3.out.frozen 1
        have z2 := HZR3.out.frozen 2
        have z3 := HZR3.out.frozen 3
        have z4 := HZR3.out.frozen 4
        have d0 := HZR3.out.cell 0
        have d1 := HZR3.out.cell 1
        have d2 := HZR3.out.cell 2
        have d3 := HZR3.out.cell 3
        have d4 := HZR3.out.cell 4
        have HZ5 := Lib.hid (HZR3.out.setAll5 (.int .i64 ((planM h l).length : Int)) (.int .i64 T1) (.int .i64 ((h.words.length : Int) - (LW : Int))) (.int .i64 T3) (.int .i64 T2))
        have HFAR := Lib.hid (show ∀ k, k ≠ w.heap.size → (((((W30.setCell ⟨w.heap.size, 0, none⟩ (.int .i64 ((planM h l).length : Int))).setCell ⟨w.heap.size, 1, none⟩ (.int .i64 T1)).setCell ⟨w.heap.size, 2, none⟩ (.int .i64 ((h.words.length : Int) - (LW : Int)))).setCell ⟨w.heap.size, 3, none⟩ (.int .i64 T3)).setCell ⟨w.heap.size, 4, none⟩ (.int .i64 T2)).heap[k]? = W30.heap[k]? from fun k h => by
         rw [Below.heap_setCell _ ⟨w.heap.size, 4, none⟩ _ k h, Below.heap_setCell _ ⟨w.heap.size, 3, none⟩ _ k h, Below.heap_setCell _ ⟨w.heap.size, 2, none⟩ _ k h, Below.heap_setCell _ ⟨w.heap.size, 1, none⟩ _ k h, Below.heap_setCell _ ⟨w.heap.size, 0, none⟩ _ k h])
        have HOS := Lib.hid (show (((((W30.setCell ⟨w.heap.size, 0, none⟩ (.int .i64 ((planM h l).length : Int))).setCell ⟨w.heap.size, 1, none⟩ (.int .i64 T1)).setCell ⟨w.heap.size, 2, none⟩ (.int .i64 ((h.words.length : Int) - (LW : Int)))).setCell ⟨w.heap.size, 3, none⟩ (.int .i64 T3)).setCell ⟨w.heap.size, 4, none⟩ (.int .i64 T2)).os = W30.os ∧ (((((W30.setCell ⟨w.heap.size, 0, none⟩ (.int .i64 ((planM h l).length : Int))).setCell ⟨w.heap.size, 1, none⟩ (.int .i64 T1)).setCell ⟨w.heap.size, 2, none⟩ (.int .i64 ((h.words.length : Int) - (LW : Int)))).setCell ⟨w.heap.size, 3, none⟩ (.int .i64 T3)).setCell ⟨w.heap.size, 4, none⟩ (.int .i64 T2)).tape = W30.tape ∧ (((((W30.setCell ⟨w.heap.size, 0, none⟩ (.int .i64 ((planM h l).length : Int))).setCell ⟨w.heap.size, 1, none⟩ (.int .i64 T1)).setCell ⟨w.heap.size, 2, none⟩ (.int .i64 ((h.words.length : Int) - (LW : Int)))).setCell ⟨w.heap.size, 3, none⟩ (.int .i64 T3)).setCell ⟨w.heap.size, 4, none⟩ (.int .i64 T2)).output = W30.output ∧ (((((W30.setCell ⟨w.heap.size, 0, none⟩ (.int .i64 ((planM h l).length : Int))).setCell ⟨w.heap.size, 1, none⟩ (.int .i64 T1)).setCell ⟨w.heap.size, 2, none⟩ (.int .i64 ((h.words.length : Int) - (LW : Int)))).setCell ⟨w.heap.size, 3, none⟩ (.int .i64 T3)).setCell ⟨w.heap.size, 4, none⟩ (.int .i64 T2)).heap.size = W30.heap.size from ⟨rfl, rfl, rfl, by simp [World.setCell]⟩)
        gi_wp2_with fail
        generalize (((((W30.setCell ⟨w.heap.size, 0, none⟩ (.int .i64 ((planM h l).length : Int))).setCell ⟨w.heap.size, 1, none⟩ (.int .i64 T1)).setCell ⟨w.heap.size, 2, none⟩ (.int .i64 ((h.words.length : Int) - (LW : Int)))).setCell ⟨w.heap.size, 3, none⟩ (.int .i64 T3)).setCell ⟨w.heap.size, 4, none⟩ (.int .i64 T2)) = WF at *
        clear e3 e4 e5 e6 e7 z0 z1 z2 z3 z4 d0 d1 d2 d3 d4
        have hDw : w.heap.size < D := by have := HG6.out; have := HG8.out; have := HMG.out; omega
        have hKD : WF.heap[D]? = some (.deferred (some [])) := (HFAR.out D (by omega)).trans HKR3.out
        refine ⟨by simp, .inl ⟨_, _, rfl, run_takeDeferred hKD, ?_⟩⟩
        have hg := grownBy_putObj' WF D (.deferred none)
        have HP := blk_ownW (B := W0.heap.size) HZ5.out hg (fun r e => by cases e; exact ⟨hD, _, hKD, rfl⟩)
        have f0 := HP.cell 0
        have f1 := HP.cell 1
        have f2 := HP.cell 2
        have f3 := HP.cell 3
        have f4 := HP.cell 4
        refine ⟨.agg #[.int .i64 ((planM h l).length : Int), .int .i64 T1, .int .i64 ((h.words.length : Int) - (LW : Int)), .int .i64 T3, .int .i64 T2], by simp [results, Tryz.results28, go_sem, f0, f1, f2, f3, f4], ?_⟩
        have hDq : D < Wq.heap.size := lt_of_get HKRq.out
        have hwq : w.heap.size ≤ Wq.heap.size := HBLq.out.size
        have hall : ∀ k, k ≠ w.heap.size → k ≠ D → (WF.putObj D (.deferred none)).heap[k]? = W30.heap[k]? := fun k h1 h2 => by
         by_cases hk : k < WF.heap.size
         ·exact (hg.block k hk (fun e => h2 (by first | exact Option.some.inj e | exact (Option.some.inj e).symm))).trans (HFAR.out k h1)
         ·have hs : (WF.putObj D (.deferred none)).heap.size = WF.heap.size := by simp [World.putObj]
          rw [Array.getElem?_eq_none (by omega), Array.getElem?_eq_none (by have := HOS.out.2.2.2; omega)]
        have hnp : ∀ k, p'.has k → k ≠ w.heap.size ∧ k ≠ D := fun k hk => by
         rcases HST.out.rows k hk with h1 | h1
         ·have := HPM.out k h1; omega
         ·have h2 := HZRq.out.lt; omega
        refine ⟨p', by rw [HCOL.out, HCV2.out], HH30.out.same (fun k hk => hall k (hnp k hk).1 (hnp k hk).2), ?_⟩
        exact ⟨hg.os.trans (HOS.out.1.trans (HST.out.os.trans HBLq.out.os)), hg.tape.trans (HOS.out.2.1.trans (HST.out.tape.trans HBLq.out.tape)), hg.output.trans (HOS.out.2.2.1.trans (HST.out.output.trans HBLq.out.output)),
         by have h1 := hg.size; have h2 := HOS.out.2.2.2; have h3 := HST.out.size; omega,
         fun k hk hn => (hall k (by omega) (by omega)).trans ((HST.out.block k (by omega) hn).trans (HBLq.out.block k hk)), HST.out.g,
         fun k hk => (HST.out.rows k hk).imp id (fun h1 => by omega)⟩
   case stop =>
    rintro D c pre W hD hp hx hK
    exact hx.elim
end
section
open Go.RowKit
end
section
open Go.RowKit
end
section
open Go.RowKit
end
section
open Go.RowKit
theorem Live.collect {W w : World} {p : HP} {g : Nat} {h : HM} {l : List Ob} (L : Live W w p g h) (G : h.Good l) : Calls Tryz.prog 28 #[.pointer (some ⟨g, 0, none⟩)] w (Done W p g (colH h l) (colV h l) w) := by
 have hh := collect_any L.at_ G L.envw.spares (fun k hk => by
  have h1 := L.envw.spares.lt
  have h2 := L.envw.pow.lt
  exact ⟨by omega, by omega⟩)
 rw [L.hg] at hh
 exact hh.mono fun _ _ H => L.of_made ⟨_, col_good G⟩ H
end
section
open Go.RowKit
attribute [local go_sem] Oper.semAt_some
section
variable {w : World} {h : HM} {l : List Ob} {A A' : Option Addr} {n c n' c' : Nat}
end
end
section
open Go.RowKit
section
variable {h : HM} {l : List Ob}
end
end
section
open Go.RowKit
section
variable {pl : List (Nat × Nat)} {void : Nat} {b : Ob}
end
section
variable {h : HM} {l : List Ob}
theorem fld_live {pl : List (Nat × Nat)} {void x : Nat} (hd : deadB pl x = false) : fldM pl void x = whereM pl x := by
 unfold deadB at hd
 unfold fldM
 rw [if_neg (of_decide_eq_false hd)]
end
end
section
open Go.RowKit
section
variable {h : HM} {l : List Ob}
theorem colL_get {k : Nat} (hk : k < (keepZ h l).length) : (colL h l)[k]'(by rw [colL_len]; exact hk) = relob (planM h l) (voidM h l) ((keepZ h l)[k]).2 := by
 unfold colL
 rw [List.getElem_map]
theorem held_new (G : h.Good l) {k : Nat} (hk : k < (colL h l).length) : heldM (colH h l) (2 * posOf ((colL h l).take k)) = ((colL h l)[k]).x.cls :: (if ((colL h l)[k]).x.fmt = 1 then ((colL h l)[k]).fs else []) := by
 have L := col_laid G
 rw [split_at (colL h l) k hk] at L
 unfold heldM
 rw [half_pos]
 have e1 := L.hd_at
 have e2 := L.fields_at
 rw [e1, e2]
theorem live_kz {o : Nat} (ho : o ∈ liveO h l) : ∃ k, ∃ hk : k < (keepZ h l).length, ((keepZ h l)[k]).1 = o ∧ goesM (planM h l) o = 2 * posOf ((colL h l).take k) := by
 rw [← keepZ_fst] at ho
 obtain ⟨p, hp, rfl⟩ := List.mem_map.1 ho
 obtain ⟨k, hk, rfl⟩ := List.getElem_of_mem hp
 exact ⟨k, hk, rfl, goesM_at (by rw [planM_fst, ← keepZ_fst]; exact keepZ_nodup h l) (plan_get h l hk)⟩
theorem again_met (G : h.Good l) : ∀ o ∈ metO (walkM (heldM h) h.roots), o ∈ liveO h l ∧ goesM (planM h l) o ∈ metO (walkM (heldM (colH h l)) (colH h l).roots) := by
 have G' := col_good G
 refine walkM_all (P := fun o => o ∈ liveO h l ∧ goesM (planM h l) o ∈ metO (walkM (heldM (colH h l)) (colH h l).roots)) (fun x hx hk => ?_) (fun o ho x hx hk => ?_)
 ·have hl := live_of_root G hx hk
  refine ⟨hl, walk_root ?_ (isB_kind (col_isB G hl))⟩
  show goesM (planM h l) x ∈ colR h l
  unfold colR
  refine List.mem_map.2 ⟨x, hx, ?_⟩
  unfold whereM
  rw [if_pos hk]
 ·obtain ⟨k, hkz, he, hg⟩ := live_kz ho.1
  have hp := List.getElem_mem hkz
  rw [← he] at hx
  have hxl := live_of_held G hp hx hk
  have hkl : k < (colL h l).length := by rw [colL_len]; exact hkz
  have hw : whereM (planM h l) x = goesM (planM h l) x := by unfold whereM; rw [if_pos hk]
  have hfl : fldM (planM h l) (voidM h l) x = goesM (planM h l) x := by
   rw [← hw]
   refine fld_live ?_
   unfold deadB
   exact decide_eq_false (fun hd => hd.2 (by rw [planM_fst]; exact hxl))
  refine ⟨hxl, walk_shut G' G'.sound.roots ho.2 ?_ (isB_kind (col_isB G hxl))⟩
  rw [hg, held_new G hkl, colL_get hkz]
  rw [keepZ_held G hp] at hx
  generalize ((keepZ h l)[k]).2 = b at *
  rcases List.mem_cons.1 hx with rfl | hx
  ·refine List.mem_cons.2 (.inl ?_)
   exact hw.symm
  ·refine List.mem_cons.2 (.inr ?_)
   by_cases h1 : b.x.fmt = 1
   ·rw [if_pos h1] at hx
    have hp1 : b.x.ptrB = true := by unfold Hd.ptrB; simp [h1]
    unfold relob
    simp only [hp1, if_true, h1]
    exact List.mem_map.2 ⟨x, hx, hfl⟩
   ·rw [if_neg h1] at hx
    cases hx
theorem live_again (G : h.Good l) : liveO (colH h l) (colL h l) = oopsL (colL h l) := by
 unfold liveO
 rw [List.filter_eq_self]
 intro o ho
 unfold oopsL at ho
 obtain ⟨k, hk, rfl⟩ := List.mem_map.1 ho
 have hk := List.mem_range.1 hk
 have hkz : k < (keepZ h l).length := by rw [← colL_len]; exact hk
 have hl : ((keepZ h l)[k]).1 ∈ liveO h l := by rw [← keepZ_fst]; exact List.mem_map.2 ⟨_, List.getElem_mem hkz, rfl⟩
 have hg := goesM_at (by rw [planM_fst, ← keepZ_fst]; exact keepZ_nodup h l) (plan_get h l hkz)
 have := (again_met G _ ((mem_liveO G).1 hl)).2
 rw [hg] at this
 simpa using this
theorem kz_all (ha : liveO h l = oopsL l) : keepZ h l = (oopsL l).zip l := by
 unfold keepZ
 rw [List.filter_eq_self]
 rintro ⟨o, b⟩ hp
 have h1 : o ∈ oopsL l := (List.of_mem_zip hp).1
 rw [← ha] at h1
 unfold liveO at h1
 exact (List.mem_filter.1 h1).2
theorem kz_snd (ha : liveO h l = oopsL l) : (keepZ h l).map (·.2) = l := by
 rw [kz_all ha]
 exact List.map_snd_zip (by rw [oopsL_len]; exact Nat.le_refl _)
theorem plan_same (ha : liveO h l = oopsL l) : ∀ p ∈ planM h l, p.1 = p.2 := by
 intro p hp
 obtain ⟨k, hk, rfl⟩ := List.getElem_of_mem hp
 have hkz : k < (keepZ h l).length := by have := planF_len 1 (keepZ h l); unfold planM at hk; omega
 have hg := plan_get h l hkz
 rw [List.getElem?_eq_getElem hk] at hg
 injection hg with hg
 rw [hg]
 dsimp only
 have hkl : k < l.length := by have := congrArg List.length (kz_snd ha); rw [List.length_map] at this; omega
 have h1 : ((keepZ h l)[k]).1 = 2 * posOf (l.take k) := by
  have h2 := keepZ_fst h l
  rw [ha] at h2
  have h3 := oopsL_get hkl
  rw [← h2, List.getElem?_map, List.getElem?_eq_getElem hkz] at h3
  injection h3
 rw [h1]
 congr 1
 unfold posOf
 rw [colL_eq, kz_snd ha, ← List.map_take, wsOf_same (relob_len _ _)]
theorem goes_same (ha : liveO h l = oopsL l) {x : Nat} (hx : x ∈ oopsL l) : goesM (planM h l) x = x := by
 rw [← ha] at hx
 obtain ⟨k, hk, he, _⟩ := live_kz hx
 have hg := plan_get h l hk
 have h1 := plan_same ha _ (List.mem_of_getElem? hg)
 have h2 := goesM_at (by rw [planM_fst, ← keepZ_fst]; exact keepZ_nodup h l) hg
 dsimp only at h1 h2
 rw [he] at h1 h2
 rw [h2, ← h1]
theorem where_same (G : h.Good l) (ha : liveO h l = oopsL l) {x : Nat} (hx : kindM x = 2 → h.isB x = true) : whereM (planM h l) x = x := by
 unfold whereM
 split
 ·rename_i hk
  exact goes_same ha (isB_mem G (hx hk))
 ·rfl
theorem dead_none (G : h.Good l) (ha : liveO h l = oopsL l) {x : Nat} (hx : kindM x = 2 → h.isB x = true) : deadB (planM h l) x = false := by
 unfold deadB
 refine decide_eq_false (fun hd => hd.2 ?_)
 rw [planM_fst, ha]
 exact isB_mem G (hx hd.1)
theorem valB_B {x : Nat} (hv : h.valB x = true) : kindM x = 2 → h.isB x = true := by
 intro hk
 unfold HM.valB objB at hv
 simpa [hk] using hv
theorem clsB_B {x : Nat} (hv : h.clsB x = true) : kindM x = 2 → h.isB x = true := by
 intro hk
 unfold HM.clsB at hv
 rw [Bool.or_eq_true] at hv
 rcases hv with hv | hv
 ·have : x = 0 := by simpa using hv
  subst this
  simp [kindM] at hk
 ·exact hv
theorem relob_same (G : h.Good l) (ha : liveO h l = oopsL l) {b : Ob} (hb : b ∈ l) : relob (planM h l) (voidM h l) b = b := by
 unfold relob
 have h1 := where_same G ha (clsB_B (G.sound.cls b hb))
 by_cases hp : b.x.ptrB = true
 ·rw [if_pos hp, h1]
  have h2 : b.fs.map (fldM (planM h l) (voidM h l)) = b.fs := by
   conv => rhs; rw [← List.map_id b.fs]
   apply List.map_congr_left
   intro x hx
   have hv := valB_B (G.sound.flds b hb hp x hx)
   rw [fld_live (dead_none G ha hv), where_same G ha hv]
   rfl
  rw [h2]
 ·rw [if_neg hp, h1]
theorem colL_same (G : h.Good l) (ha : liveO h l = oopsL l) : colL h l = l := by
 rw [colL_eq, kz_snd ha]
 conv => rhs; rw [← List.map_id l]
 apply List.map_congr_left
 intro b hb
 exact relob_same G ha hb
theorem colV_again (G : h.Good l) : colV (colH h l) (colL h l) = .agg #[.int .i64 ((liveO h l).length : Nat), .int .i64 0, .int .i64 0, .int .i64 0, .int .i64 0] := by
 have G' := col_good G
 have ha := live_again G
 have hm : movedN (colH h l) (colL h l) = 0 := by
  unfold movedN
  rw [List.length_eq_zero_iff, List.filter_eq_nil_iff]
  intro p hp
  have := plan_same ha p hp
  simpa using this
 have hc : clearedN (colH h l) (colL h l) = 0 := by
  unfold clearedN
  have : ∀ z : List (Nat × Ob), (∀ p ∈ z, p.2 ∈ colL h l) → (z.map (fun p => clearedB (planM (colH h l) (colL h l)) p.2)).sum = 0 := by
   intro z
   induction z with
   | nil => intro _; rfl
   | cons p z ih =>
     intro hz
     rw [List.map_cons, List.sum_cons, ih (fun q hq => hz q (List.mem_cons_of_mem _ hq)), Nat.add_zero]
     unfold clearedB
     split
     ·rename_i hpb
      rw [List.length_eq_zero_iff, List.filter_eq_nil_iff]
      intro x hx
      rw [dead_none G' ha (valB_B (G'.sound.flds p.2 (hz p (List.mem_cons_self ..)) hpb x hx))]
      decide
     ·rfl
  refine this _ (fun p hp => ?_)
  obtain ⟨j, hj, _, h2, _⟩ := keepZ_mem hp
  rw [h2]
  exact List.getElem_mem hj
 have hl1 : (liveO (colH h l) (colL h l)).length = (liveO h l).length := by
  rw [ha, oopsL_len, colL_len, keepZ_len]
 have hl2 : (colL h l).length = (liveO h l).length := by rw [colL_len, keepZ_len]
 have hw : (colH h l).words.length - (1 + (wsOf (colL (colH h l) (colL h l))).length) = 0 := by
  rw [colL_same G' ha]
  show (0 :: wsOf (colL h l)).length - _ = 0
  rw [List.length_cons]
  omega
 unfold colV
 rw [hm, hc, hl1, hl2, hw, Nat.sub_self]
 rfl
end
end
section
open Go.RowKit
section
variable {w w' w1 : World} {B gx gs N : Nat} {vl vc vl1 vc1 vl' vc' : Value} {L : Wk}
end
end
section
open Go.RowKit
end
section
open Go.RowKit
attribute [local go_sem] Oper.semAt_some
section
variable {w : World} {h : HM} {l : List Ob} {A A' : Option Addr} {n c n' c' : Nat}
end
end
end Go.Proofs.YtlkahgagmfhdaaaGreatDoor
