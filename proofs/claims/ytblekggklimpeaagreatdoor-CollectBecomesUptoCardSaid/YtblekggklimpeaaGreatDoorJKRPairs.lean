/- The document's Pairs: what is wrong with two lists, and their pairs. Printed by wip/src/XKRPairs.py. -/
import Derived.Test.YtblekggklimpeaaGreatDoorJKRNm
import Derived.Test.YtblekggklimpeaaGreatDoorJKAgainL
import Derived.Test.YtblekggklimpeaaGreatDoorJKBecome
import Derived.Test.YtblekggklimpeaaGreatDoorJSoAll
import Derived.Test.YtblekggklimpeaaGreatDoorJUntil
import Derived.OrdersHeld
import Derived.Deep.RegionHeld3
import Derived.BigQuiet
set_option linter.unusedVariables false
set_option linter.unusedSimpArgs false
namespace Go.Proofs.YtblekggklimpeaaGreatDoor
open Go.RowKit Go.Sort
attribute [local go_sem] Oper.semAt_some
def allL (both : Bool) (a b : List Nat) : List Nat := if both = true then a ++ b else a
def prsE (h : HM) (both : Bool) (a b : List Nat) : Nat := if fitsE h a b = 0 then (if (allL both a b).Nodup then 0 else 30) else fitsE h a b
def prsK (both : Bool) (a b : List Nat) (k : Nat) : List (Nat × Nat) := if both = true then pairsB (a.take k) (b.take k) else pairsF (a.take k) (b.take k)
def prsL (h : HM) (both : Bool) (a b : List Nat) : List (Nat × Nat) := if prsE h both a b = 0 then prsK both a b a.length else []
def PairsP (h : HM) (both : Bool) (a b : List Nat) (w : World) (e : Ending) (w' : World) : Prop :=
  ∃ v, e = .returned (.tuple #[v, .int .i64 (prsE h both a b : Nat)]) ∧ w'.ownsRow w.heap.size 69 2 v (prsL h both a b).length (mvs (prsL h both a b)) ∧ Below w.heap.size w w'
theorem mvs_app (x y : List (Nat × Nat)) : mvs (x ++ y) = mvs x ++ mvs y := List.flatMap_append
theorem prsK_len (both : Bool) (a b : List Nat) : ∀ k, (prsK both a b k).length ≤ 2 * k := by
  intro k
  unfold prsK pairsB pairsF
  split
  · rw [List.length_flatMap]
    have : (((a.take k).zip (b.take k)).map (fun q => [(q.1, q.2), (q.2, q.1)].length)).sum = 2 * ((a.take k).zip (b.take k)).length := by
      generalize (a.take k).zip (b.take k) = z
      induction z with
      | nil => rfl
      | cons p z ih => rw [List.map_cons, List.sum_cons, ih, List.length_cons]; simp; omega
    rw [this, List.length_zip, List.length_take]
    omega
  · rw [List.length_zip, List.length_take]
    omega
section
variable {P : Program} {md : Region.Mode} {ops : Array Oper} {Q : Exit → Act → World → Prop} {S : World → Prop} {z : Nat}
/-- An operation that its guard leaves out. -/
theorem U_skipC (i : Nat) (ch : List Nat) {oi : Oper} {f : Nat} {d : Array Bool} {a : Act} {w : World} (hi : ops[i]? = some oi) (hB : takeC md ops z i ch d = true)
    (hQ : ∀ c a w, Q (.panic c) (a.put oi.dst undef) w → Q (.panic c) a w) (hS : S w) (hw : Region.wanted oi (yielded ops a.tmps) = false)
    (h : wpAnyU P md ops Q S z f (d.setIfInBounds i true) (a.put oi.dst undef) w) : wpAnyU P md ops Q S z (f + 1) d a w := by
  unfold takeC at hB
  simp only [Bool.and_eq_true, bne_iff_ne, ne_eq, List.all_eq_true, Bool.not_eq_true'] at hB
  obtain ⟨⟨⟨⟨⟨⟨h1, h2⟩, h3⟩, h4⟩, h5⟩, h6⟩, h7⟩ := hB
  exact U_firstC hi (Region.noSelect_spec h1) hQ h4 (by simpa using h5) h6 f d a w (Region.free_spec hi h2) (by simpa using h3) (.inr ⟨hw, rfl⟩) hS h7 h
/-- The operation that alone may come up, and that its guard lets in. -/
theorem U_oneW (j : Nat) {o : Oper} {f : Nat} {d : Array Bool} {a : Act} {w : World} (hr : Region.ready md ops d = [j]) (ho : ops[j]? = some o) (hw : Region.wanted o (yielded ops a.tmps) = true)
    (h : ∀ K : Act → World → Prop, (∀ a' w', ((d.setIfInBounds j true).getD z true = false → S w') → wpAnyU P md ops Q S z f (d.setIfInBounds j true) a' w' → K a' w') → o.wp P a w K Q) :
    wpAnyU P md ops Q S z (f + 1) d a w := by
  refine ⟨fun e => (by rw [hr] at e; cases e), fun i hi => ?_⟩
  rw [hr] at hi
  simp only [List.mem_cons, List.not_mem_nil, or_false] at hi
  subst hi
  unfold wpOp
  simp only [ho]
  rw [if_pos hw]
  exact .inl (h _ fun a' w' h1 h2 => ⟨h1, h2⟩)
end
theorem u32s_get2 {l : List Nat} {i v : Nat} (h : l[i]? = some v) : (u32s l)[i]? = some (.int .u32 (v : Nat)) := by
  unfold u32s
  rw [List.getElem?_map, h]
  rfl
theorem prsK_zero (both : Bool) (a b : List Nat) : prsK both a b 0 = [] := by
  unfold prsK pairsB pairsF
  split <;> rfl
theorem prsK_T {a b : List Nat} {t x y : Nat} (hl : a.length = b.length) (hx : a[t]? = some x) (hy : b[t]? = some y) : prsK true a b (t + 1) = (prsK true a b t ++ [(x, y)]) ++ [(y, x)] := by
  obtain ⟨h1, rfl⟩ := List.getElem?_eq_some_iff.1 hx
  obtain ⟨h2, rfl⟩ := List.getElem?_eq_some_iff.1 hy
  unfold prsK
  rw [if_pos rfl, if_pos rfl]
  exact pairsB_take h1 h2
theorem prsK_F {a b : List Nat} {t x y : Nat} (hl : a.length = b.length) (hx : a[t]? = some x) (hy : b[t]? = some y) : prsK false a b (t + 1) = prsK false a b t ++ [(x, y)] := by
  obtain ⟨h1, rfl⟩ := List.getElem?_eq_some_iff.1 hx
  obtain ⟨h2, rfl⟩ := List.getElem?_eq_some_iff.1 hy
  unfold prsK
  rw [if_neg (by decide), if_neg (by decide)]
  exact pairsF_take h1 h2
theorem fits_bad {h : HM} {a b : List Nat} (hl : a.length = b.length) {k : Nat} {x y : Nat} (hx : a[k]? = some x) (hy : b[k]? = some y) (hn : h.isB x = false ∨ h.isB y = false) : fitsE h a b = 3 := by
  unfold fitsE
  rw [if_pos hl, if_neg]
  rw [Bool.and_eq_true, List.all_eq_true, List.all_eq_true]
  rintro ⟨h1, h2⟩
  rcases hn with hn | hn
  · rw [h1 x (List.mem_of_getElem? hx)] at hn; cases hn
  · rw [h2 y (List.mem_of_getElem? hy)] at hn; cases hn
theorem fits_good {h : HM} {a b : List Nat} (hl : a.length = b.length) (h1 : ∀ x ∈ a, h.isB x = true) (h2 : ∀ x ∈ b, h.isB x = true) : fitsE h a b = 0 := by
  unfold fitsE
  rw [if_pos hl, if_pos]
  rw [Bool.and_eq_true, List.all_eq_true, List.all_eq_true]
  exact ⟨h1, h2⟩
section
variable {w : World} {h : HM} {l : List Ob} {A A' A1 A2 : Option Addr} {n c n' c' n1 c1 n2 c2 : Nat} {a b : List Nat}
set_option maxRecDepth 100000 in
set_option maxHeartbeats 16000000 in
theorem rpairsT_any (G : h.Good l) (hr : Reads w w.heap.size 1 A n (u32s h.words)) (ha : Reads w w.heap.size 1 A1 n1 (u32s a)) (hb : Reads w w.heap.size 1 A2 n2 (u32s b)) (hn1 : n1 ≤ 1048576) (hn2 : n2 ≤ 1048576) (ha32 : ∀ x ∈ a, x < 4294967296) (hb32 : ∀ x ∈ b, x < 4294967296) :
    Calls Tryz.prog 8 #[StV A n c A' n' c', .slice A1 n1 c1, .slice A2 n2 c2, .bool true] w (PairsP h true a b w) := by
  have la : a.length = n1 := by have := ha.1; rw [u32s_len] at this; omega
  have lb : b.length = n2 := by have := hb.1; rw [u32s_len] at this; omega
  have HLN := Lib.hid (And.intro la lb)
  have HRD := Lib.hid (fun (w' : World) (hbw : Below w.heap.size w w') => And.intro (ha.below hbw) (hb.below hbw))
  have H32 := Lib.hid (And.intro ha32 hb32)
  have hX := Blk.new w 32 #[.slice A n c, .slice A' n' c']
  have hB := (Below.refl w.heap.size w).alloc (Nat.le_refl _) (.cells #[.slice A n c, .slice A' n' c'] 32)
  have HIS := Lib.hid (fun (w' : World) (hbw : Below w.heap.size w w') (o : Nat) (ho : o < 4294967296) => show Calls Tryz.prog 28 #[.agg #[.slice A n c, .slice A' n' c'], .int .u32 (o : Int)] w' (fun e w'' => e = .returned (.bool (h.isB o)) ∧ Below w'.heap.size w' w'') from ris_any (A' := A') (n' := n') (c' := c') (c := c) G ((hr.below hbw).more hbw.size) ho)
  have HX := Lib.hid hX
  have HB := Lib.hid hB
  have hsz := World.size_alloc w (.cells #[.slice A n c, .slice A' n' c'] 32)
  clear la lb ha hb ha32 hb32 hX hB hr
  unfold StV
  go_enter Tryz.func8, Tryz.ntmps8
  by_cases hl : n1 = n2
  rotate_left
  · have HF := Lib.hid (show PairsP h true a b w (.returned (.tuple #[.slice none 0 0, .int .i64 ((2 : Nat) : Int)])) (w.alloc (.cells #[.slice A n c, .slice A' n' c'] 32)) from by
      have hf : fitsE h a b = 2 := by unfold fitsE; rw [if_neg (by have := HLN.out; omega)]
      have he : prsE h true a b = 2 := by unfold prsE; rw [hf]; rfl
      have hp : prsL h true a b = [] := by unfold prsL; rw [if_neg (by omega)]
      exact ⟨_, by rw [he], by rw [hp]; exact ⟨rfl, .inl ⟨rfl, rfl⟩⟩, HB.out⟩)
    have hne : ((n1 : Int) != (n2 : Int)) = true := by simp; omega
    clear hl hsz
    go_wp2_with fail
    go_ret2
    exact HF.out
  obtain rfl : n1 = n2 := hl
  go_upto_region 4 with fail
  generalize w.alloc (.cells #[.slice A n c, .slice A' n' c'] 32) = w1 at *
  have HLE := Lib.hid (show a.length = b.length from by have := HLN.out; omega)
  go_loopw [23] (fun iv wr => ∃ k : Nat, iv = .int .i64 k ∧ k ≤ n1 ∧ (∀ x ∈ a.take k, h.isB x = true) ∧ (∀ x ∈ b.take k, h.isB x = true) ∧ Below w1.heap.size w1 wr) (fun iv _ => n1 - (intOf iv).toNat)
  case atStart => exact ⟨0, rfl, Nat.zero_le _, by simp, by simp, Below.refl _ _⟩
  case round =>
    obtain ⟨k, rfl, hk, hpa, hpb, hbr⟩ := hrel
    have HPA := Lib.hid (And.intro hpa hpb)
    have HBR := Lib.hid hbr
    clear hpa hpb hbr
    by_cases hlt : k < n1
    · have hbw : Below w.heap.size w wr := below_top HB.out HBR.out
      obtain ⟨ra, rb⟩ := HRD.out wr hbw
      obtain ⟨ada, u, rfl, hba, hu, hca⟩ := ra.at_ hlt
      obtain ⟨x, hx, rfl⟩ := u32s_at hu
      obtain ⟨adb, u, rfl, hbb, hu2, hcb⟩ := rb.at_ hlt
      obtain ⟨y, hy, rfl⟩ := u32s_at hu2
      have HI1 := Lib.hid (fun (w' : World) (hbw : Below wr.heap.size wr w') => HIS.out w' (below_top (below_top HB.out HBR.out) hbw) x (H32.out.1 x (List.mem_of_getElem? hx)))
      have HI2 := Lib.hid (fun (w' : World) (hbw : Below wr.heap.size wr w') => HIS.out w' (below_top (below_top HB.out HBR.out) hbw) y (H32.out.2 y (List.mem_of_getElem? hy)))
      have HBAD := Lib.hid (fun hn => fits_bad (h := h) HLE.out hx hy hn)
      have HTA := Lib.hid (show a.take (k + 1) = a.take k ++ [x] ∧ b.take (k + 1) = b.take k ++ [y] from ⟨by rw [List.take_add_one, hx]; rfl, by rw [List.take_add_one, hy]; rfl⟩)
      have HLT := Lib.hid hlt
      have hX5 := HX.out.below HBR.out HX.out.lt
      have s0 := hX5.cell 0
      have s1 := hX5.cell 1
      have hB0 : Below wr.heap.size wr wr.drew := below_drew (Below.refl _ _)
      have hda : ada.block < wr.heap.size := by have := hbw.size; omega
      have hdb : adb.block < wr.heap.size := by have := hbw.size; omega
      have HC := Lib.hid (fun (w' : World) (hbw : Below wr.heap.size wr w') => show w'.cell? ⟨w.heap.size, 0, none⟩ = some (.slice A n c) ∧ w'.cell? ⟨w.heap.size, 1, none⟩ = some (.slice A' n' c') ∧ w'.cell? (ada.add k) = some (.int .u32 (x : Int)) ∧ w'.cell? (adb.add k) = some (.int .u32 (y : Int)) from
        ⟨(hX5.below hbw hX5.lt).cell 0, (hX5.below hbw hX5.lt).cell 1, (hbw.cell (p := ada.add k) (by rw [block_of_add]; exact hda)).trans hca, (hbw.cell (p := adb.add k) (by rw [block_of_add]; exact hdb)).trans hcb⟩)
      clear hu hu2 hx hy ra rb hX5 hbw hda hdb hba hbb
      generalize hib : h.isB x = bx at *
      generalize hjb : h.isB y = bz at *
      have HIJ := Lib.hid (And.intro hib hjb)
      clear hib hjb
      rcases bx with _ | _
      · skip
        have HF := Lib.hid (fun (w' : World) (hb : Below wr.heap.size wr w') => show PairsP h true a b w (.returned (.tuple #[.slice none 0 0, .int .i64 ((3 : Nat) : Int)])) w' from by
          have hf := HBAD.out (.inl rfl)
          have he : prsE h true a b = 3 := by unfold prsE; rw [hf]; rfl
          have hp : prsL h true a b = [] := by unfold prsL; rw [if_neg (by omega)]
          exact ⟨_, by rw [he], by rw [hp]; exact ⟨rfl, .inl ⟨rfl, rfl⟩⟩, below_top (below_top HB.out HBR.out) hb⟩)
        clear hlt
        go_upto_region 6 with fail
        refine wp_region_U 15 (fun w' => w'.cell? ⟨w.heap.size, 0, none⟩ = some (.slice A n c) ∧ w'.cell? ⟨w.heap.size, 1, none⟩ = some (.slice A' n' c') ∧ w'.cell? (ada.add k) = some (.int .u32 (x : Int)) ∧ w'.cell? (adb.add k) = some (.int .u32 (y : Int))) (by kernel_rfl) ?_
        have hS := HC.out _ hB0
        clear s0 s1 hca hcb
        generalize hwq : wr.drew = wq at *
        clear hwq
        refine U_readC 0 [5, 6, 7, 15] (v := (.agg #[.slice A n c, .slice A' n' c'])) rfl (by kernel_rfl) (fun _ _ _ h => h) hS (by kernel_rfl) (fun w' hw' => by obtain ⟨h0, h1, h2, h3⟩ := hw'; go_simp) ?_
        try simp only [Act.put, List.setIfInBounds_toArray, List.set_cons_zero, List.set_cons_succ]
        refine U_readC 1 [3, 4, 5, 6, 7, 15] (v := (.slice (some ada) n1 c1)) rfl (by kernel_rfl) (fun _ _ _ h => h) hS (by kernel_rfl) (fun w' hw' => by obtain ⟨h0, h1, h2, h3⟩ := hw'; go_simp) ?_
        try simp only [Act.put, List.setIfInBounds_toArray, List.set_cons_zero, List.set_cons_succ]
        refine U_readC 2 [3, 4, 5, 6, 7, 15] (v := (.int .i64 (k : Int))) rfl (by kernel_rfl) (fun _ _ _ h => h) hS (by kernel_rfl) (fun w' hw' => by obtain ⟨h0, h1, h2, h3⟩ := hw'; go_simp) ?_
        try simp only [Act.put, List.setIfInBounds_toArray, List.set_cons_zero, List.set_cons_succ]
        refine U_readC 3 [4, 5, 6, 7, 15] (v := (.pointer (some (ada.add k)))) rfl (by kernel_rfl) (fun _ _ _ h => h) hS (by kernel_rfl) (fun w' hw' => by obtain ⟨h0, h1, h2, h3⟩ := hw'; go_simp) ?_
        try simp only [Act.put, List.setIfInBounds_toArray, List.set_cons_zero, List.set_cons_succ]
        refine U_readC 4 [5, 6, 7, 15] (v := (.int .u32 (x : Int))) rfl (by kernel_rfl) (fun _ _ _ h => h) hS (by kernel_rfl) (fun w' hw' => by obtain ⟨h0, h1, h2, h3⟩ := hw'; go_simp) ?_
        try simp only [Act.put, List.setIfInBounds_toArray, List.set_cons_zero, List.set_cons_succ]
        refine U_one 5 (by kernel_rfl) rfl rfl (fun K hK => ?_)
        go_simp
        refine (HI1.out _ hB0).mono ?_
        rintro e wx ⟨rfl, hbx⟩
        have hBx := below_top hB0 hbx
        have hSx := HC.out _ hBx
        refine hK _ _ (fun _ => hSx) ?_
        clear hK K
        try simp only [Act.put, List.setIfInBounds_toArray, List.set_cons_zero, List.set_cons_succ]
        clear hS
        have hS := hSx
        refine U_readC 6 [7, 15] (v := (.bool true)) rfl (by kernel_rfl) (fun _ _ _ h => h) hS (by kernel_rfl) (fun w' hw' => by obtain ⟨h0, h1, h2, h3⟩ := hw'; go_simp) ?_
        try simp only [Act.put, List.setIfInBounds_toArray, List.set_cons_zero, List.set_cons_succ]
        refine U_read 7 (v := (.bool true)) rfl (by kernel_rfl) (fun _ _ _ h => h) hS (by kernel_rfl) (fun w' hw' => by obtain ⟨h0, h1, h2, h3⟩ := hw'; go_simp) ?_
        try simp only [Act.put, List.setIfInBounds_toArray, List.set_cons_zero, List.set_cons_succ]
        refine U_skipC 8 [13, 14, 15] rfl (by kernel_rfl) (fun _ _ _ h => h) hS (by kernel_rfl) ?_
        try simp only [Act.put, List.setIfInBounds_toArray, List.set_cons_zero, List.set_cons_succ]
        refine U_skipC 9 [11, 12, 13, 14, 15] rfl (by kernel_rfl) (fun _ _ _ h => h) hS (by kernel_rfl) ?_
        try simp only [Act.put, List.setIfInBounds_toArray, List.set_cons_zero, List.set_cons_succ]
        refine U_skipC 10 [11, 12, 13, 14, 15] rfl (by kernel_rfl) (fun _ _ _ h => h) hS (by kernel_rfl) ?_
        try simp only [Act.put, List.setIfInBounds_toArray, List.set_cons_zero, List.set_cons_succ]
        refine U_skipC 11 [12, 13, 14, 15] rfl (by kernel_rfl) (fun _ _ _ h => h) hS (by kernel_rfl) ?_
        try simp only [Act.put, List.setIfInBounds_toArray, List.set_cons_zero, List.set_cons_succ]
        refine U_skipC 12 [13, 14, 15] rfl (by kernel_rfl) (fun _ _ _ h => h) hS (by kernel_rfl) ?_
        try simp only [Act.put, List.setIfInBounds_toArray, List.set_cons_zero, List.set_cons_succ]
        refine U_skipC 13 [14, 15] rfl (by kernel_rfl) (fun _ _ _ h => h) hS (by kernel_rfl) ?_
        try simp only [Act.put, List.setIfInBounds_toArray, List.set_cons_zero, List.set_cons_succ]
        refine U_skipC 14 [15] rfl (by kernel_rfl) (fun _ _ _ h => h) hS (by kernel_rfl) ?_
        try simp only [Act.put, List.setIfInBounds_toArray, List.set_cons_zero, List.set_cons_succ]
        refine U_one 15 (by kernel_rfl) rfl rfl (fun K hK => ?_)
        go_simp
        refine hK _ _ (fun h => absurd h (by decide)) ?_
        clear hK K
        try simp only [Act.put, List.setIfInBounds_toArray, List.set_cons_zero, List.set_cons_succ]
        refine U_done (by kernel_rfl) ?_ _
        simp only [Calm, Exit.then]
        have HF2 := Lib.hid (HF.out _ hBx)
        clear hB0 hbx hBx hS hSx
        go_wp2_with fail
        go_ret2
        exact HF2.out
      · rcases bz with _ | _
        · skip
          have HF := Lib.hid (fun (w' : World) (hb : Below wr.heap.size wr w') => show PairsP h true a b w (.returned (.tuple #[.slice none 0 0, .int .i64 ((3 : Nat) : Int)])) w' from by
            have hf := HBAD.out (.inr rfl)
            have he : prsE h true a b = 3 := by unfold prsE; rw [hf]; rfl
            have hp : prsL h true a b = [] := by unfold prsL; rw [if_neg (by omega)]
            exact ⟨_, by rw [he], by rw [hp]; exact ⟨rfl, .inl ⟨rfl, rfl⟩⟩, below_top (below_top HB.out HBR.out) hb⟩)
          clear hlt
          go_upto_region 6 with fail
          refine wp_region_U 15 (fun w' => w'.cell? ⟨w.heap.size, 0, none⟩ = some (.slice A n c) ∧ w'.cell? ⟨w.heap.size, 1, none⟩ = some (.slice A' n' c') ∧ w'.cell? (ada.add k) = some (.int .u32 (x : Int)) ∧ w'.cell? (adb.add k) = some (.int .u32 (y : Int))) (by kernel_rfl) ?_
          have hS := HC.out _ hB0
          clear s0 s1 hca hcb
          generalize hwq : wr.drew = wq at *
          clear hwq
          refine U_readC 0 [5, 6, 7, 15] (v := (.agg #[.slice A n c, .slice A' n' c'])) rfl (by kernel_rfl) (fun _ _ _ h => h) hS (by kernel_rfl) (fun w' hw' => by obtain ⟨h0, h1, h2, h3⟩ := hw'; go_simp) ?_
          try simp only [Act.put, List.setIfInBounds_toArray, List.set_cons_zero, List.set_cons_succ]
          refine U_readC 1 [3, 4, 5, 6, 7, 15] (v := (.slice (some ada) n1 c1)) rfl (by kernel_rfl) (fun _ _ _ h => h) hS (by kernel_rfl) (fun w' hw' => by obtain ⟨h0, h1, h2, h3⟩ := hw'; go_simp) ?_
          try simp only [Act.put, List.setIfInBounds_toArray, List.set_cons_zero, List.set_cons_succ]
          refine U_readC 2 [3, 4, 5, 6, 7, 15] (v := (.int .i64 (k : Int))) rfl (by kernel_rfl) (fun _ _ _ h => h) hS (by kernel_rfl) (fun w' hw' => by obtain ⟨h0, h1, h2, h3⟩ := hw'; go_simp) ?_
          try simp only [Act.put, List.setIfInBounds_toArray, List.set_cons_zero, List.set_cons_succ]
          refine U_readC 3 [4, 5, 6, 7, 15] (v := (.pointer (some (ada.add k)))) rfl (by kernel_rfl) (fun _ _ _ h => h) hS (by kernel_rfl) (fun w' hw' => by obtain ⟨h0, h1, h2, h3⟩ := hw'; go_simp) ?_
          try simp only [Act.put, List.setIfInBounds_toArray, List.set_cons_zero, List.set_cons_succ]
          refine U_readC 4 [5, 6, 7, 15] (v := (.int .u32 (x : Int))) rfl (by kernel_rfl) (fun _ _ _ h => h) hS (by kernel_rfl) (fun w' hw' => by obtain ⟨h0, h1, h2, h3⟩ := hw'; go_simp) ?_
          try simp only [Act.put, List.setIfInBounds_toArray, List.set_cons_zero, List.set_cons_succ]
          refine U_one 5 (by kernel_rfl) rfl rfl (fun K hK => ?_)
          go_simp
          refine (HI1.out _ hB0).mono ?_
          rintro e wx ⟨rfl, hbx⟩
          have hBx := below_top hB0 hbx
          have hSx := HC.out _ hBx
          refine hK _ _ (fun _ => hSx) ?_
          clear hK K
          try simp only [Act.put, List.setIfInBounds_toArray, List.set_cons_zero, List.set_cons_succ]
          clear hS
          have hS := hSx
          refine U_readC 6 [7, 15] (v := (.bool false)) rfl (by kernel_rfl) (fun _ _ _ h => h) hS (by kernel_rfl) (fun w' hw' => by obtain ⟨h0, h1, h2, h3⟩ := hw'; go_simp) ?_
          try simp only [Act.put, List.setIfInBounds_toArray, List.set_cons_zero, List.set_cons_succ]
          refine U_read 7 (v := (.bool false)) rfl (by kernel_rfl) (fun _ _ _ h => h) hS (by kernel_rfl) (fun w' hw' => by obtain ⟨h0, h1, h2, h3⟩ := hw'; go_simp) ?_
          try simp only [Act.put, List.setIfInBounds_toArray, List.set_cons_zero, List.set_cons_succ]
          refine U_readC 8 [13, 14, 15] (v := (.agg #[.slice A n c, .slice A' n' c'])) rfl (by kernel_rfl) (fun _ _ _ h => h) hS (by kernel_rfl) (fun w' hw' => by obtain ⟨h0, h1, h2, h3⟩ := hw'; go_simp) ?_
          try simp only [Act.put, List.setIfInBounds_toArray, List.set_cons_zero, List.set_cons_succ]
          refine U_readC 9 [11, 12, 13, 14, 15] (v := (.slice (some adb) n1 c2)) rfl (by kernel_rfl) (fun _ _ _ h => h) hS (by kernel_rfl) (fun w' hw' => by obtain ⟨h0, h1, h2, h3⟩ := hw'; go_simp) ?_
          try simp only [Act.put, List.setIfInBounds_toArray, List.set_cons_zero, List.set_cons_succ]
          refine U_readC 10 [11, 12, 13, 14, 15] (v := (.int .i64 (k : Int))) rfl (by kernel_rfl) (fun _ _ _ h => h) hS (by kernel_rfl) (fun w' hw' => by obtain ⟨h0, h1, h2, h3⟩ := hw'; go_simp) ?_
          try simp only [Act.put, List.setIfInBounds_toArray, List.set_cons_zero, List.set_cons_succ]
          refine U_readC 11 [12, 13, 14, 15] (v := (.pointer (some (adb.add k)))) rfl (by kernel_rfl) (fun _ _ _ h => h) hS (by kernel_rfl) (fun w' hw' => by obtain ⟨h0, h1, h2, h3⟩ := hw'; go_simp) ?_
          try simp only [Act.put, List.setIfInBounds_toArray, List.set_cons_zero, List.set_cons_succ]
          refine U_readC 12 [13, 14, 15] (v := (.int .u32 (y : Int))) rfl (by kernel_rfl) (fun _ _ _ h => h) hS (by kernel_rfl) (fun w' hw' => by obtain ⟨h0, h1, h2, h3⟩ := hw'; go_simp) ?_
          try simp only [Act.put, List.setIfInBounds_toArray, List.set_cons_zero, List.set_cons_succ]
          refine U_oneW 13 (by kernel_rfl) rfl (by kernel_rfl) (fun K hK => ?_)
          go_simp
          refine (HI2.out _ hBx).mono ?_
          rintro e wy ⟨rfl, hby⟩
          have hBy := below_top hBx hby
          have hSy := HC.out _ hBy
          refine hK _ _ (fun _ => hSy) ?_
          clear hK K
          try simp only [Act.put, List.setIfInBounds_toArray, List.set_cons_zero, List.set_cons_succ]
          clear hS
          have hS := hSy
          refine U_readC 14 [15] (v := (.bool true)) rfl (by kernel_rfl) (fun _ _ _ h => h) hS (by kernel_rfl) (fun w' hw' => by obtain ⟨h0, h1, h2, h3⟩ := hw'; go_simp) ?_
          try simp only [Act.put, List.setIfInBounds_toArray, List.set_cons_zero, List.set_cons_succ]
          refine U_one 15 (by kernel_rfl) rfl rfl (fun K hK => ?_)
          go_simp
          refine hK _ _ (fun h => absurd h (by decide)) ?_
          clear hK K
          try simp only [Act.put, List.setIfInBounds_toArray, List.set_cons_zero, List.set_cons_succ]
          refine U_done (by kernel_rfl) ?_ _
          simp only [Calm, Exit.then]
          have HF2 := Lib.hid (HF.out _ hBy)
          clear hS hSx hSy hB0 hbx hBx hby hBy
          go_wp2_with fail
          go_ret2
          exact HF2.out
        · skip
          have HPN := Lib.hid (show (∀ z ∈ a.take (k + 1), h.isB z = true) ∧ ∀ z ∈ b.take (k + 1), h.isB z = true from by
            rw [HTA.out.1, HTA.out.2]
            exact ⟨fun z hz => (List.mem_append.1 hz).elim (HPA.out.1 z) (fun hz => by rcases List.mem_singleton.1 hz with rfl; exact HIJ.out.1), fun z hz => (List.mem_append.1 hz).elim (HPA.out.2 z) (fun hz => by rcases List.mem_singleton.1 hz with rfl; exact HIJ.out.2)⟩)
          clear hlt
          go_upto_region 6 with fail
          refine wp_region_U 15 (fun w' => w'.cell? ⟨w.heap.size, 0, none⟩ = some (.slice A n c) ∧ w'.cell? ⟨w.heap.size, 1, none⟩ = some (.slice A' n' c') ∧ w'.cell? (ada.add k) = some (.int .u32 (x : Int)) ∧ w'.cell? (adb.add k) = some (.int .u32 (y : Int))) (by kernel_rfl) ?_
          have hS := HC.out _ hB0
          clear s0 s1 hca hcb
          generalize hwq : wr.drew = wq at *
          clear hwq
          refine U_readC 0 [5, 6, 7, 15] (v := (.agg #[.slice A n c, .slice A' n' c'])) rfl (by kernel_rfl) (fun _ _ _ h => h) hS (by kernel_rfl) (fun w' hw' => by obtain ⟨h0, h1, h2, h3⟩ := hw'; go_simp) ?_
          try simp only [Act.put, List.setIfInBounds_toArray, List.set_cons_zero, List.set_cons_succ]
          refine U_readC 1 [3, 4, 5, 6, 7, 15] (v := (.slice (some ada) n1 c1)) rfl (by kernel_rfl) (fun _ _ _ h => h) hS (by kernel_rfl) (fun w' hw' => by obtain ⟨h0, h1, h2, h3⟩ := hw'; go_simp) ?_
          try simp only [Act.put, List.setIfInBounds_toArray, List.set_cons_zero, List.set_cons_succ]
          refine U_readC 2 [3, 4, 5, 6, 7, 15] (v := (.int .i64 (k : Int))) rfl (by kernel_rfl) (fun _ _ _ h => h) hS (by kernel_rfl) (fun w' hw' => by obtain ⟨h0, h1, h2, h3⟩ := hw'; go_simp) ?_
          try simp only [Act.put, List.setIfInBounds_toArray, List.set_cons_zero, List.set_cons_succ]
          refine U_readC 3 [4, 5, 6, 7, 15] (v := (.pointer (some (ada.add k)))) rfl (by kernel_rfl) (fun _ _ _ h => h) hS (by kernel_rfl) (fun w' hw' => by obtain ⟨h0, h1, h2, h3⟩ := hw'; go_simp) ?_
          try simp only [Act.put, List.setIfInBounds_toArray, List.set_cons_zero, List.set_cons_succ]
          refine U_readC 4 [5, 6, 7, 15] (v := (.int .u32 (x : Int))) rfl (by kernel_rfl) (fun _ _ _ h => h) hS (by kernel_rfl) (fun w' hw' => by obtain ⟨h0, h1, h2, h3⟩ := hw'; go_simp) ?_
          try simp only [Act.put, List.setIfInBounds_toArray, List.set_cons_zero, List.set_cons_succ]
          refine U_one 5 (by kernel_rfl) rfl rfl (fun K hK => ?_)
          go_simp
          refine (HI1.out _ hB0).mono ?_
          rintro e wx ⟨rfl, hbx⟩
          have hBx := below_top hB0 hbx
          have hSx := HC.out _ hBx
          refine hK _ _ (fun _ => hSx) ?_
          clear hK K
          try simp only [Act.put, List.setIfInBounds_toArray, List.set_cons_zero, List.set_cons_succ]
          clear hS
          have hS := hSx
          refine U_readC 6 [7, 15] (v := (.bool false)) rfl (by kernel_rfl) (fun _ _ _ h => h) hS (by kernel_rfl) (fun w' hw' => by obtain ⟨h0, h1, h2, h3⟩ := hw'; go_simp) ?_
          try simp only [Act.put, List.setIfInBounds_toArray, List.set_cons_zero, List.set_cons_succ]
          refine U_read 7 (v := (.bool false)) rfl (by kernel_rfl) (fun _ _ _ h => h) hS (by kernel_rfl) (fun w' hw' => by obtain ⟨h0, h1, h2, h3⟩ := hw'; go_simp) ?_
          try simp only [Act.put, List.setIfInBounds_toArray, List.set_cons_zero, List.set_cons_succ]
          refine U_readC 8 [13, 14, 15] (v := (.agg #[.slice A n c, .slice A' n' c'])) rfl (by kernel_rfl) (fun _ _ _ h => h) hS (by kernel_rfl) (fun w' hw' => by obtain ⟨h0, h1, h2, h3⟩ := hw'; go_simp) ?_
          try simp only [Act.put, List.setIfInBounds_toArray, List.set_cons_zero, List.set_cons_succ]
          refine U_readC 9 [11, 12, 13, 14, 15] (v := (.slice (some adb) n1 c2)) rfl (by kernel_rfl) (fun _ _ _ h => h) hS (by kernel_rfl) (fun w' hw' => by obtain ⟨h0, h1, h2, h3⟩ := hw'; go_simp) ?_
          try simp only [Act.put, List.setIfInBounds_toArray, List.set_cons_zero, List.set_cons_succ]
          refine U_readC 10 [11, 12, 13, 14, 15] (v := (.int .i64 (k : Int))) rfl (by kernel_rfl) (fun _ _ _ h => h) hS (by kernel_rfl) (fun w' hw' => by obtain ⟨h0, h1, h2, h3⟩ := hw'; go_simp) ?_
          try simp only [Act.put, List.setIfInBounds_toArray, List.set_cons_zero, List.set_cons_succ]
          refine U_readC 11 [12, 13, 14, 15] (v := (.pointer (some (adb.add k)))) rfl (by kernel_rfl) (fun _ _ _ h => h) hS (by kernel_rfl) (fun w' hw' => by obtain ⟨h0, h1, h2, h3⟩ := hw'; go_simp) ?_
          try simp only [Act.put, List.setIfInBounds_toArray, List.set_cons_zero, List.set_cons_succ]
          refine U_readC 12 [13, 14, 15] (v := (.int .u32 (y : Int))) rfl (by kernel_rfl) (fun _ _ _ h => h) hS (by kernel_rfl) (fun w' hw' => by obtain ⟨h0, h1, h2, h3⟩ := hw'; go_simp) ?_
          try simp only [Act.put, List.setIfInBounds_toArray, List.set_cons_zero, List.set_cons_succ]
          refine U_oneW 13 (by kernel_rfl) rfl (by kernel_rfl) (fun K hK => ?_)
          go_simp
          refine (HI2.out _ hBx).mono ?_
          rintro e wy ⟨rfl, hby⟩
          have hBy := below_top hBx hby
          have hSy := HC.out _ hBy
          refine hK _ _ (fun _ => hSy) ?_
          clear hK K
          try simp only [Act.put, List.setIfInBounds_toArray, List.set_cons_zero, List.set_cons_succ]
          clear hS
          have hS := hSy
          refine U_readC 14 [15] (v := (.bool false)) rfl (by kernel_rfl) (fun _ _ _ h => h) hS (by kernel_rfl) (fun w' hw' => by obtain ⟨h0, h1, h2, h3⟩ := hw'; go_simp) ?_
          try simp only [Act.put, List.setIfInBounds_toArray, List.set_cons_zero, List.set_cons_succ]
          refine U_one 15 (by kernel_rfl) rfl rfl (fun K hK => ?_)
          go_simp
          refine hK _ _ (fun h => absurd h (by decide)) ?_
          clear hK K
          try simp only [Act.put, List.setIfInBounds_toArray, List.set_cons_zero, List.set_cons_succ]
          refine U_done (by kernel_rfl) ?_ _
          simp only [Calm, Exit.then]
          have HBy := Lib.hid (below_top HBR.out hBy)
          clear hS hSx hSy hB0 hbx hBx hby hBy
          go_wp2_with fail
          go_roundw
          case rel => exact ⟨k + 1, by go_num, HLT.out, HPN.out.1, HPN.out.2, HBy.out⟩
          case measure => have := HLT.out; simp [intOf]; omega
    · obtain rfl : k = n1 := by omega
      have HFT := Lib.hid (show fitsE h a b = 0 from by
        have h1 := HPA.out
        rw [List.take_of_length_le (by have := HLN.out; omega), List.take_of_length_le (by have := HLN.out; omega)] at h1
        exact fits_good HLE.out h1.1 h1.2)
      have HB2 := Lib.hid (below_top HB.out HBR.out)
      have ra := (HRD.out wr HB2.out).1.more HB2.out.size
      obtain ⟨k0, hk0, hy0, hy1, hy2⟩ := info_parts info_oop
      clear hlt hk HPA HIS HX
      go_upto_region 10 with (at_builtin; refine wpList_append_any _ rfl (.const (.slice none 0 0)) (.tmp 43) _ rfl w.heap.size 43 k0 _ 1 4 Tryz.underlying23 hk0 hy0 hy1 hy2 rfl (by omega) (.slice none 0 0) 0 [] rfl ⟨rfl, .inl ⟨rfl, rfl⟩⟩ wr.heap.size A1 k c1 (u32s a) rfl ra (one_u32s _) (by simp only [maxLen]; omega) (by omega) HB2.out.size ?_; intro v4 w4 hown4 hgrow4 hat4; have HB4 := Lib.hid (HB2.out.grown hgrow4 HB2.out.size (fun q e => by cases e)); have HO4 := Lib.hid hown4; clear hown4 hgrow4 hat4)
      rw [Nat.zero_add, List.nil_append] at HO4
      go_upto_region 12 with (at_builtin; refine wpList_append_any _ rfl (.tmp 46) (.tmp 47) _ rfl w.heap.size 43 k0 _ 1 4 Tryz.underlying23 hk0 hy0 hy1 hy2 rfl (by omega) v4 k (u32s a) rfl HO4.out w4.heap.size A2 k c2 (u32s b) rfl ((HRD.out w4 HB4.out).2.more HB4.out.size) (one_u32s _) (by simp only [maxLen]; omega) (by omega) HB4.out.size ?_; intro v5 w5 hown5 hgrow5 hat5; have HB5 := Lib.hid (HB4.out.grown hgrow5 HB4.out.size (fun q hq => (HO4.out.lt q hq).1)); have HO5 := Lib.hid (show w5.ownsRow w.heap.size 43 1 v5 (k + k) (u32s (allL true a b)) from by unfold allL; rw [if_pos rfl, u32s_app]; exact hown5); clear hown5 hgrow5 hat5)
      obtain ⟨N, hNN⟩ : ∃ N, k + k = N := ⟨_, rfl⟩
      have hN : N ≤ 2097152 := by omega
      have HAL := Lib.hid (show (allL true a b).length = N from by rw [← hNN]; unfold allL; rw [if_pos rfl, List.length_append]; have := HLN.out; omega)
      rw [hNN] at HO5
      clear hNN
      obtain ⟨Av, cv, rfl⟩ := own_val HO5.out
      have HE := Lib.hid (show prsE h true a b = if (allL true a b).Nodup then 0 else 30 from by unfold prsE; rw [HFT.out, if_pos rfl])
      have HA32 := Lib.hid (show ∀ z ∈ allL true a b, z < 4294967296 from by unfold allL; rw [if_pos rfl]; exact fun z hz => (List.mem_append.1 hz).elim (H32.out.1 z) (H32.out.2 z))
      generalize allL true a b = al at *
      clear HB2 HBR HFT ra
      go_upto_region 13 with fail
      go_loopw [51] (fun iv wr => ∃ i : Nat, iv = .int .i64 i ∧ i ≤ N ∧ (al.take i).Nodup ∧ Below w.heap.size w wr ∧ wr.ownsRow w.heap.size 43 1 (.slice Av N cv) N (u32s al)) (fun iv _ => N - (intOf iv).toNat)
      case atStart => exact ⟨0, rfl, Nat.zero_le _, by simp, HB5.out, HO5.out⟩
      case round =>
        clear HB5 HO5
        obtain ⟨i, rfl, hi, hnd, hb, ho⟩ := hrel
        have HND := Lib.hid hnd
        have HB := Lib.hid hb
        have HO := Lib.hid ho
        clear hnd hb ho
        by_cases hlt : i < N
        · have hla : i < al.length := by have := HAL.out; omega
          have hiq : al[i]? = some al[i] := List.getElem?_eq_getElem hla
          have HLT := Lib.hid hlt
          have HTK := Lib.hid (show al.take (i + 1) = al.take i ++ [al[i]] from by rw [List.take_add_one, hiq]; rfl)
          have HXI := Lib.hid hiq
          generalize al[i] = x at *
          clear hiq
          clear hla
          go_upto_region 16 with fail
          go_loopw [13] (fun jv wq => ∃ j : Nat, jv = .int .i64 j ∧ j ≤ i ∧ x ∉ al.take j ∧ Below wr.heap.size wr wq) (fun jv _ => i - (intOf jv).toNat)
          case atStart => exact ⟨0, rfl, Nat.zero_le _, by simp, Below.refl _ _⟩
          case round =>
            obtain ⟨j, rfl, hj, hnx, hb⟩ := hrel
            have HNX := Lib.hid hnx
            have HBq := Lib.hid hb
            clear hnx hb
            by_cases hjl : j < i
            · have hja : j < al.length := by have := HLT.out; have := HAL.out; omega
              have hjq : al[j]? = some al[j] := List.getElem?_eq_getElem hja
              obtain ⟨gv, cv', hvv, hrv, _, _⟩ := Row.of_any (own_below HO.out HBq.out) (by have := HLT.out; omega)
              have hc1 := hrv.cell (u32s_get2 HXI.out)
              have hc2 := hrv.cell (u32s_get2 hjq)
              cases hvv
              have HTJ := Lib.hid (show al.take (j + 1) = al.take j ++ [al[j]] from by rw [List.take_add_one, hjq]; rfl)
              have HJL := Lib.hid hjl
              have HJQ := Lib.hid hjq
              generalize al[j] = y at *
              clear hja hjq hrv
              go_upto_region 18 with fail
              by_cases hxy : x = y
              · have hq : ((x : Int) == (y : Int)) = true := by simp; omega
                have HF := Lib.hid (fun (w' : World) (hb : Below wr.heap.size wr w') => show PairsP h true a b w (.returned (.tuple #[.slice none 0 0, .int .i64 ((30 : Nat) : Int)])) w' from by
                  have hnn : ¬ al.Nodup := fun hN => by
                    have h1 := List.getElem?_eq_some_iff.1 HXI.out
                    have h2 := List.getElem?_eq_some_iff.1 HJQ.out
                    obtain ⟨p1, q1⟩ := h1
                    obtain ⟨p2, q2⟩ := h2
                    have h3 : al[i] = al[j] := by rw [q1, q2, hxy]
                    have := (List.getElem_inj hN).1 h3
                    omega
                  have he : prsE h true a b = 30 := by rw [HE.out, if_neg hnn]
                  have hp : prsL h true a b = [] := by unfold prsL; rw [if_neg (by omega)]
                  exact ⟨_, by rw [he], by rw [hp]; exact ⟨rfl, .inl ⟨rfl, rfl⟩⟩, below_top (below_top HB.out HBq.out) hb⟩)
                clear hxy hjl
                go_quiet (fail)
                have HF2 := Lib.hid (HF.out _ (below_drewN (Below.refl _ _) nq))
                go_wp2_with fail
                go_ret2
                exact HF2.out
              · have hq : ((x : Int) == (y : Int)) = false := by simp; omega
                have HN2 := Lib.hid (show x ∉ al.take (j + 1) from by
                  rw [HTJ.out, List.mem_append, List.mem_singleton]
                  rintro (h1 | h1)
                  · exact HNX.out h1
                  · exact hxy h1)
                clear hxy hjl
                go_quiet (fail)
                have HB6 := Lib.hid (below_drewN HBq.out nq)
                go_wp2_with fail
                go_roundw
                case rel => exact ⟨j + 1, by go_num, HJL.out, HN2.out, HB6.out⟩
                case measure => have := HJL.out; simp [intOf]; omega
            · obtain rfl : j = i := by omega
              have HN2 := Lib.hid (show (al.take (j + 1)).Nodup from by
                rw [HTK.out, List.nodup_append]
                exact ⟨HND.out, by simp, fun p hp q hq e => by rcases List.mem_singleton.1 hq with rfl; exact HNX.out (e ▸ hp)⟩)
              have HB6 := Lib.hid (below_top HB.out HBq.out)
              have HO6 := Lib.hid (own_below HO.out HBq.out)
              clear hjl hj
              go_wp2_with fail
              go_roundw
              case rel => exact ⟨j + 1, by go_num, HLT.out, HN2.out, HB6.out, HO6.out⟩
              case measure => have := HLT.out; simp [intOf]; omega
        · obtain rfl : i = N := by omega
          have HE0 := Lib.hid (show prsE h true a b = 0 from by
            have h1 := HND.out
            rw [List.take_of_length_le (by have := HAL.out; omega)] at h1
            rw [HE.out, if_pos h1])
          clear hlt hi HO
          obtain ⟨i0, hi0, hz0, hz1, hz2⟩ := info_parts info_mv
          go_upto_region 23 with fail
          have hkn := HLN.out.1
          clear hkn
          have HKN := Lib.hid HLN.out.1
          go_loopw [14, 71] (fun pv iv wr => ∃ t : Nat, iv = .int .i64 t ∧ t ≤ k ∧ wr.ownsRow w.heap.size 69 2 pv (prsK true a b t).length (mvs (prsK true a b t)) ∧ Below w.heap.size w wr) (fun _ iv _ => k - (intOf iv).toNat)
          case atStart => exact ⟨0, rfl, Nat.zero_le _, by rw [prsK_zero]; exact ⟨rfl, .inl ⟨rfl, rfl⟩⟩, HB.out⟩
          case round =>
            clear HB
            obtain ⟨t, rfl, ht, hop, hb⟩ := hrel
            have HO := Lib.hid hop
            have HB := Lib.hid hb
            clear hop hb
            by_cases hlt : t < k
            · obtain ⟨ra, rb⟩ := HRD.out wr HB.out
              obtain ⟨ada, u, rfl, hba, hu, hca⟩ := ra.at_ hlt
              obtain ⟨x, hx, rfl⟩ := u32s_at hu
              obtain ⟨adb, u, rfl, hbb, hu2, hcb⟩ := rb.at_ hlt
              obtain ⟨y, hy, rfl⟩ := u32s_at hu2
              have HXY := Lib.hid (fun (w' : World) (hb : Below w.heap.size w w') => show w'.cell? (ada.add t) = some (.int .u32 (x : Int)) ∧ w'.cell? (adb.add t) = some (.int .u32 (y : Int)) from by
                obtain ⟨ra, rb⟩ := HRD.out w' hb
                obtain ⟨ad1, u1, e1, _, hu1, hc1⟩ := ra.at_ hlt
                obtain ⟨ad2, u2, e2, _, hu2', hc2⟩ := rb.at_ hlt
                cases e1
                cases e2
                rw [hu] at hu1
                rw [hu2] at hu2'
                cases hu1
                cases hu2'
                exact ⟨hc1, hc2⟩)
              have HTK := Lib.hid (show prsK true a b (t + 1) = (prsK true a b t ++ [(x, y)]) ++ [(y, x)] from prsK_T (by have := HLN.out; omega) hx (by rw [← hy]))
              have hpl := prsK_len true a b t
              have HLT := Lib.hid hlt
              clear hu hu2 hx hy ra rb hba hbb hca hcb
              go_upto_region 25 with fail
              refine wp_region_U 12 (fun w' => w'.cell? (ada.add t) = some (.int .u32 (x : Int)) ∧ w'.cell? (adb.add t) = some (.int .u32 (y : Int))) (by kernel_rfl) ?_
              have hS : wr.drew.cell? (ada.add t) = some (.int .u32 (x : Int)) ∧ wr.drew.cell? (adb.add t) = some (.int .u32 (y : Int)) := HXY.out _ (below_drew HB.out)
              have HBq := Lib.hid (show Below w.heap.size w wr.drew from below_drew HB.out)
              have HOq := Lib.hid (own_below HO.out (below_drew (Below.refl wr.heap.size wr)))
              clear HB HO
              generalize wr.drew = wq at *
              refine U_read 0 (v := u14) rfl (by kernel_rfl) (fun _ _ _ h => h) hS (by kernel_rfl) (fun w' hw' => by obtain ⟨h0, h1⟩ := hw'; go_simp) ?_
              try simp only [Act.put, List.setIfInBounds_toArray, List.set_cons_zero, List.set_cons_succ]
              refine U_read 1 (v := (.slice (some ada) k c1)) rfl (by kernel_rfl) (fun _ _ _ h => h) hS (by kernel_rfl) (fun w' hw' => by obtain ⟨h0, h1⟩ := hw'; go_simp) ?_
              try simp only [Act.put, List.setIfInBounds_toArray, List.set_cons_zero, List.set_cons_succ]
              refine U_read 2 (v := (.int .i64 (t : Int))) rfl (by kernel_rfl) (fun _ _ _ h => h) hS (by kernel_rfl) (fun w' hw' => by obtain ⟨h0, h1⟩ := hw'; go_simp) ?_
              try simp only [Act.put, List.setIfInBounds_toArray, List.set_cons_zero, List.set_cons_succ]
              refine U_read 3 (v := (.pointer (some (ada.add t)))) rfl (by kernel_rfl) (fun _ _ _ h => h) hS (by kernel_rfl) (fun w' hw' => by obtain ⟨h0, h1⟩ := hw'; go_simp) ?_
              try simp only [Act.put, List.setIfInBounds_toArray, List.set_cons_zero, List.set_cons_succ]
              refine U_read 4 (v := (.int .u32 (x : Int))) rfl (by kernel_rfl) (fun _ _ _ h => h) hS (by kernel_rfl) (fun w' hw' => by obtain ⟨h0, h1⟩ := hw'; go_simp) ?_
              try simp only [Act.put, List.setIfInBounds_toArray, List.set_cons_zero, List.set_cons_succ]
              refine U_read 5 (v := (.slice (some adb) k c2)) rfl (by kernel_rfl) (fun _ _ _ h => h) hS (by kernel_rfl) (fun w' hw' => by obtain ⟨h0, h1⟩ := hw'; go_simp) ?_
              try simp only [Act.put, List.setIfInBounds_toArray, List.set_cons_zero, List.set_cons_succ]
              refine U_read 6 (v := (.int .i64 (t : Int))) rfl (by kernel_rfl) (fun _ _ _ h => h) hS (by kernel_rfl) (fun w' hw' => by obtain ⟨h0, h1⟩ := hw'; go_simp) ?_
              try simp only [Act.put, List.setIfInBounds_toArray, List.set_cons_zero, List.set_cons_succ]
              refine U_read 7 (v := (.pointer (some (adb.add t)))) rfl (by kernel_rfl) (fun _ _ _ h => h) hS (by kernel_rfl) (fun w' hw' => by obtain ⟨h0, h1⟩ := hw'; go_simp) ?_
              try simp only [Act.put, List.setIfInBounds_toArray, List.set_cons_zero, List.set_cons_succ]
              refine U_read 8 (v := (.int .u32 (y : Int))) rfl (by kernel_rfl) (fun _ _ _ h => h) hS (by kernel_rfl) (fun w' hw' => by obtain ⟨h0, h1⟩ := hw'; go_simp) ?_
              try simp only [Act.put, List.setIfInBounds_toArray, List.set_cons_zero, List.set_cons_succ]
              refine U_read 9 (v := (.agg #[.int .u32 (x : Int), .int .u32 (y : Int)])) rfl (by kernel_rfl) (fun _ _ _ h => h) hS (by kernel_rfl) (fun w' hw' => by obtain ⟨h0, h1⟩ := hw'; go_simp) ?_
              try simp only [Act.put, List.setIfInBounds_toArray, List.set_cons_zero, List.set_cons_succ]
              refine U_one 10 (by kernel_rfl) rfl rfl (fun K hK => ?_)
              go_simp
              have hba := (Below.refl wq.heap.size wq).alloc (Nat.le_refl _) (.cells #[.int .u32 (x : Int), .int .u32 (y : Int)] 69)
              have HB8 := Lib.hid (below_top HBq.out hba)
              have HO8 := Lib.hid (own_below HOq.out hba)
              refine hK _ _ (fun _ => (HXY.out _ HB8.out)) ?_
              clear hK K
              try simp only [Act.put, List.setIfInBounds_toArray, List.set_cons_zero, List.set_cons_succ]
              clear hS hba HBq HOq
              have hS := HXY.out _ HB8.out
              refine U_one 11 (by kernel_rfl) rfl rfl (fun K hK => ?_)
              refine wp_append_any _ (.tmp 74) (.tmp 84) _ rfl w.heap.size 69 i0 _ 2 8 Tryz.underlying34 hi0 hz0 hz1 hz2 rfl (by omega) u14 (prsK true a b t).length (mvs (prsK true a b t)) rfl HO8.out (wq.heap.size + 1) (some ⟨wq.heap.size, 0, none⟩) 1 1 (mvs [(x, y)]) rfl (reads_two _ _ _ _) (by intro u hu; simp [mvs] at hu; rcases hu with rfl | rfl <;> rfl) (by simp only [maxLen]; omega) (by omega) HB8.out.size ?_
              intro v9 w9 hown9 hgrow9 hat9
              have HB9 := Lib.hid (HB8.out.grown hgrow9 HB8.out.size (fun q hq => (HO8.out.lt q hq).1))
              have HO9 := Lib.hid (show w9.ownsRow w.heap.size 69 2 v9 ((prsK true a b t).length + 1) (mvs ((prsK true a b t) ++ [(x, y)])) from by rw [mvs_app]; exact hown9)
              clear hown9 hgrow9 hat9 HB8 HO8
              refine hK _ _ (fun _ => (HXY.out _ HB9.out)) ?_
              clear hK K
              try simp only [Act.put, List.setIfInBounds_toArray, List.set_cons_zero, List.set_cons_succ]
              clear hS
              have hS := HXY.out _ HB9.out
              refine U_one 12 (by kernel_rfl) rfl rfl (fun K hK => ?_)
              go_simp
              refine hK _ _ (fun h => absurd h (by decide)) ?_
              clear hK K
              try simp only [Act.put, List.setIfInBounds_toArray, List.set_cons_zero, List.set_cons_succ]
              refine U_done (by kernel_rfl) ?_ _
              simp only [Calm, Exit.then]
              clear hS
              go_upto_region 27 with fail
              refine wp_region_U 12 (fun w' => w'.cell? (ada.add t) = some (.int .u32 (x : Int)) ∧ w'.cell? (adb.add t) = some (.int .u32 (y : Int))) (by kernel_rfl) ?_
              have hS : w9.drew.cell? (ada.add t) = some (.int .u32 (x : Int)) ∧ w9.drew.cell? (adb.add t) = some (.int .u32 (y : Int)) := HXY.out _ (below_drew HB9.out)
              have HBq := Lib.hid (show Below w.heap.size w w9.drew from below_drew HB9.out)
              have HOq := Lib.hid (own_below HO9.out (below_drew (Below.refl w9.heap.size w9)))
              clear HB9 HO9
              generalize w9.drew = wq at *
              refine U_read 0 (v := v9) rfl (by kernel_rfl) (fun _ _ _ h => h) hS (by kernel_rfl) (fun w' hw' => by obtain ⟨h0, h1⟩ := hw'; go_simp) ?_
              try simp only [Act.put, List.setIfInBounds_toArray, List.set_cons_zero, List.set_cons_succ]
              refine U_read 1 (v := (.slice (some adb) k c2)) rfl (by kernel_rfl) (fun _ _ _ h => h) hS (by kernel_rfl) (fun w' hw' => by obtain ⟨h0, h1⟩ := hw'; go_simp) ?_
              try simp only [Act.put, List.setIfInBounds_toArray, List.set_cons_zero, List.set_cons_succ]
              refine U_read 2 (v := (.int .i64 (t : Int))) rfl (by kernel_rfl) (fun _ _ _ h => h) hS (by kernel_rfl) (fun w' hw' => by obtain ⟨h0, h1⟩ := hw'; go_simp) ?_
              try simp only [Act.put, List.setIfInBounds_toArray, List.set_cons_zero, List.set_cons_succ]
              refine U_read 3 (v := (.pointer (some (adb.add t)))) rfl (by kernel_rfl) (fun _ _ _ h => h) hS (by kernel_rfl) (fun w' hw' => by obtain ⟨h0, h1⟩ := hw'; go_simp) ?_
              try simp only [Act.put, List.setIfInBounds_toArray, List.set_cons_zero, List.set_cons_succ]
              refine U_read 4 (v := (.int .u32 (y : Int))) rfl (by kernel_rfl) (fun _ _ _ h => h) hS (by kernel_rfl) (fun w' hw' => by obtain ⟨h0, h1⟩ := hw'; go_simp) ?_
              try simp only [Act.put, List.setIfInBounds_toArray, List.set_cons_zero, List.set_cons_succ]
              refine U_read 5 (v := (.slice (some ada) k c1)) rfl (by kernel_rfl) (fun _ _ _ h => h) hS (by kernel_rfl) (fun w' hw' => by obtain ⟨h0, h1⟩ := hw'; go_simp) ?_
              try simp only [Act.put, List.setIfInBounds_toArray, List.set_cons_zero, List.set_cons_succ]
              refine U_read 6 (v := (.int .i64 (t : Int))) rfl (by kernel_rfl) (fun _ _ _ h => h) hS (by kernel_rfl) (fun w' hw' => by obtain ⟨h0, h1⟩ := hw'; go_simp) ?_
              try simp only [Act.put, List.setIfInBounds_toArray, List.set_cons_zero, List.set_cons_succ]
              refine U_read 7 (v := (.pointer (some (ada.add t)))) rfl (by kernel_rfl) (fun _ _ _ h => h) hS (by kernel_rfl) (fun w' hw' => by obtain ⟨h0, h1⟩ := hw'; go_simp) ?_
              try simp only [Act.put, List.setIfInBounds_toArray, List.set_cons_zero, List.set_cons_succ]
              refine U_read 8 (v := (.int .u32 (x : Int))) rfl (by kernel_rfl) (fun _ _ _ h => h) hS (by kernel_rfl) (fun w' hw' => by obtain ⟨h0, h1⟩ := hw'; go_simp) ?_
              try simp only [Act.put, List.setIfInBounds_toArray, List.set_cons_zero, List.set_cons_succ]
              refine U_read 9 (v := (.agg #[.int .u32 (y : Int), .int .u32 (x : Int)])) rfl (by kernel_rfl) (fun _ _ _ h => h) hS (by kernel_rfl) (fun w' hw' => by obtain ⟨h0, h1⟩ := hw'; go_simp) ?_
              try simp only [Act.put, List.setIfInBounds_toArray, List.set_cons_zero, List.set_cons_succ]
              refine U_one 10 (by kernel_rfl) rfl rfl (fun K hK => ?_)
              go_simp
              have hba := (Below.refl wq.heap.size wq).alloc (Nat.le_refl _) (.cells #[.int .u32 (y : Int), .int .u32 (x : Int)] 69)
              have HB8 := Lib.hid (below_top HBq.out hba)
              have HO8 := Lib.hid (own_below HOq.out hba)
              refine hK _ _ (fun _ => (HXY.out _ HB8.out)) ?_
              clear hK K
              try simp only [Act.put, List.setIfInBounds_toArray, List.set_cons_zero, List.set_cons_succ]
              clear hS hba HBq HOq
              have hS := HXY.out _ HB8.out
              refine U_one 11 (by kernel_rfl) rfl rfl (fun K hK => ?_)
              refine wp_append_any _ (.tmp 87) (.tmp 97) _ rfl w.heap.size 69 i0 _ 2 8 Tryz.underlying34 hi0 hz0 hz1 hz2 rfl (by omega) v9 ((prsK true a b t).length + 1) (mvs ((prsK true a b t) ++ [(x, y)])) rfl HO8.out (wq.heap.size + 1) (some ⟨wq.heap.size, 0, none⟩) 1 1 (mvs [(y, x)]) rfl (reads_two _ _ _ _) (by intro u hu; simp [mvs] at hu; rcases hu with rfl | rfl <;> rfl) (by simp only [maxLen]; omega) (by omega) HB8.out.size ?_
              intro v10 w10 hown9 hgrow9 hat9
              have HB10 := Lib.hid (HB8.out.grown hgrow9 HB8.out.size (fun q hq => (HO8.out.lt q hq).1))
              have HO10 := Lib.hid (show w10.ownsRow w.heap.size 69 2 v10 (((prsK true a b t).length + 1) + 1) (mvs (((prsK true a b t) ++ [(x, y)]) ++ [(y, x)])) from by rw [mvs_app]; exact hown9)
              clear hown9 hgrow9 hat9 HB8 HO8
              refine hK _ _ (fun _ => (HXY.out _ HB10.out)) ?_
              clear hK K
              try simp only [Act.put, List.setIfInBounds_toArray, List.set_cons_zero, List.set_cons_succ]
              clear hS
              have hS := HXY.out _ HB10.out
              refine U_one 12 (by kernel_rfl) rfl rfl (fun K hK => ?_)
              go_simp
              refine hK _ _ (fun h => absurd h (by decide)) ?_
              clear hK K
              try simp only [Act.put, List.setIfInBounds_toArray, List.set_cons_zero, List.set_cons_succ]
              refine U_done (by kernel_rfl) ?_ _
              simp only [Calm, Exit.then]
              clear hS
              go_wp2_with fail
              go_roundw
              case rel => exact ⟨t + 1, by go_num, HLT.out, by rw [HTK.out, List.length_append, List.length_append]; exact HO10.out, HB10.out⟩
              case measure => have := HLT.out; simp [intOf]; omega
            · obtain rfl : t = k := by omega
              have HF := Lib.hid (show prsL h true a b = prsK true a b t from by unfold prsL; rw [if_pos HE0.out, HKN.out])
              clear hlt ht
              go_wp2_with fail
              go_ret2
              exact ⟨_, by rw [HE0.out]; rfl, by rw [HF.out]; exact HO.out, HB.out⟩
set_option maxRecDepth 100000 in
set_option maxHeartbeats 16000000 in
theorem rpairsF_any (G : h.Good l) (hr : Reads w w.heap.size 1 A n (u32s h.words)) (ha : Reads w w.heap.size 1 A1 n1 (u32s a)) (hb : Reads w w.heap.size 1 A2 n2 (u32s b)) (hn1 : n1 ≤ 1048576) (hn2 : n2 ≤ 1048576) (ha32 : ∀ x ∈ a, x < 4294967296) (hb32 : ∀ x ∈ b, x < 4294967296) :
    Calls Tryz.prog 8 #[StV A n c A' n' c', .slice A1 n1 c1, .slice A2 n2 c2, .bool false] w (PairsP h false a b w) := by
  have la : a.length = n1 := by have := ha.1; rw [u32s_len] at this; omega
  have lb : b.length = n2 := by have := hb.1; rw [u32s_len] at this; omega
  have HLN := Lib.hid (And.intro la lb)
  have HRD := Lib.hid (fun (w' : World) (hbw : Below w.heap.size w w') => And.intro (ha.below hbw) (hb.below hbw))
  have H32 := Lib.hid (And.intro ha32 hb32)
  have hX := Blk.new w 32 #[.slice A n c, .slice A' n' c']
  have hB := (Below.refl w.heap.size w).alloc (Nat.le_refl _) (.cells #[.slice A n c, .slice A' n' c'] 32)
  have HIS := Lib.hid (fun (w' : World) (hbw : Below w.heap.size w w') (o : Nat) (ho : o < 4294967296) => show Calls Tryz.prog 28 #[.agg #[.slice A n c, .slice A' n' c'], .int .u32 (o : Int)] w' (fun e w'' => e = .returned (.bool (h.isB o)) ∧ Below w'.heap.size w' w'') from ris_any (A' := A') (n' := n') (c' := c') (c := c) G ((hr.below hbw).more hbw.size) ho)
  have HX := Lib.hid hX
  have HB := Lib.hid hB
  have hsz := World.size_alloc w (.cells #[.slice A n c, .slice A' n' c'] 32)
  clear la lb ha hb ha32 hb32 hX hB hr
  unfold StV
  go_enter Tryz.func8, Tryz.ntmps8
  by_cases hl : n1 = n2
  rotate_left
  · have HF := Lib.hid (show PairsP h false a b w (.returned (.tuple #[.slice none 0 0, .int .i64 ((2 : Nat) : Int)])) (w.alloc (.cells #[.slice A n c, .slice A' n' c'] 32)) from by
      have hf : fitsE h a b = 2 := by unfold fitsE; rw [if_neg (by have := HLN.out; omega)]
      have he : prsE h false a b = 2 := by unfold prsE; rw [hf]; rfl
      have hp : prsL h false a b = [] := by unfold prsL; rw [if_neg (by omega)]
      exact ⟨_, by rw [he], by rw [hp]; exact ⟨rfl, .inl ⟨rfl, rfl⟩⟩, HB.out⟩)
    have hne : ((n1 : Int) != (n2 : Int)) = true := by simp; omega
    clear hl hsz
    go_wp2_with fail
    go_ret2
    exact HF.out
  obtain rfl : n1 = n2 := hl
  go_upto_region 4 with fail
  generalize w.alloc (.cells #[.slice A n c, .slice A' n' c'] 32) = w1 at *
  have HLE := Lib.hid (show a.length = b.length from by have := HLN.out; omega)
  go_loopw [23] (fun iv wr => ∃ k : Nat, iv = .int .i64 k ∧ k ≤ n1 ∧ (∀ x ∈ a.take k, h.isB x = true) ∧ (∀ x ∈ b.take k, h.isB x = true) ∧ Below w1.heap.size w1 wr) (fun iv _ => n1 - (intOf iv).toNat)
  case atStart => exact ⟨0, rfl, Nat.zero_le _, by simp, by simp, Below.refl _ _⟩
  case round =>
    obtain ⟨k, rfl, hk, hpa, hpb, hbr⟩ := hrel
    have HPA := Lib.hid (And.intro hpa hpb)
    have HBR := Lib.hid hbr
    clear hpa hpb hbr
    by_cases hlt : k < n1
    · have hbw : Below w.heap.size w wr := below_top HB.out HBR.out
      obtain ⟨ra, rb⟩ := HRD.out wr hbw
      obtain ⟨ada, u, rfl, hba, hu, hca⟩ := ra.at_ hlt
      obtain ⟨x, hx, rfl⟩ := u32s_at hu
      obtain ⟨adb, u, rfl, hbb, hu2, hcb⟩ := rb.at_ hlt
      obtain ⟨y, hy, rfl⟩ := u32s_at hu2
      have HI1 := Lib.hid (fun (w' : World) (hbw : Below wr.heap.size wr w') => HIS.out w' (below_top (below_top HB.out HBR.out) hbw) x (H32.out.1 x (List.mem_of_getElem? hx)))
      have HI2 := Lib.hid (fun (w' : World) (hbw : Below wr.heap.size wr w') => HIS.out w' (below_top (below_top HB.out HBR.out) hbw) y (H32.out.2 y (List.mem_of_getElem? hy)))
      have HBAD := Lib.hid (fun hn => fits_bad (h := h) HLE.out hx hy hn)
      have HTA := Lib.hid (show a.take (k + 1) = a.take k ++ [x] ∧ b.take (k + 1) = b.take k ++ [y] from ⟨by rw [List.take_add_one, hx]; rfl, by rw [List.take_add_one, hy]; rfl⟩)
      have HLT := Lib.hid hlt
      have hX5 := HX.out.below HBR.out HX.out.lt
      have s0 := hX5.cell 0
      have s1 := hX5.cell 1
      have hB0 : Below wr.heap.size wr wr.drew := below_drew (Below.refl _ _)
      have hda : ada.block < wr.heap.size := by have := hbw.size; omega
      have hdb : adb.block < wr.heap.size := by have := hbw.size; omega
      have HC := Lib.hid (fun (w' : World) (hbw : Below wr.heap.size wr w') => show w'.cell? ⟨w.heap.size, 0, none⟩ = some (.slice A n c) ∧ w'.cell? ⟨w.heap.size, 1, none⟩ = some (.slice A' n' c') ∧ w'.cell? (ada.add k) = some (.int .u32 (x : Int)) ∧ w'.cell? (adb.add k) = some (.int .u32 (y : Int)) from
        ⟨(hX5.below hbw hX5.lt).cell 0, (hX5.below hbw hX5.lt).cell 1, (hbw.cell (p := ada.add k) (by rw [block_of_add]; exact hda)).trans hca, (hbw.cell (p := adb.add k) (by rw [block_of_add]; exact hdb)).trans hcb⟩)
      clear hu hu2 hx hy ra rb hX5 hbw hda hdb hba hbb
      generalize hib : h.isB x = bx at *
      generalize hjb : h.isB y = bz at *
      have HIJ := Lib.hid (And.intro hib hjb)
      clear hib hjb
      rcases bx with _ | _
      · skip
        have HF := Lib.hid (fun (w' : World) (hb : Below wr.heap.size wr w') => show PairsP h false a b w (.returned (.tuple #[.slice none 0 0, .int .i64 ((3 : Nat) : Int)])) w' from by
          have hf := HBAD.out (.inl rfl)
          have he : prsE h false a b = 3 := by unfold prsE; rw [hf]; rfl
          have hp : prsL h false a b = [] := by unfold prsL; rw [if_neg (by omega)]
          exact ⟨_, by rw [he], by rw [hp]; exact ⟨rfl, .inl ⟨rfl, rfl⟩⟩, below_top (below_top HB.out HBR.out) hb⟩)
        clear hlt
        go_upto_region 6 with fail
        refine wp_region_U 15 (fun w' => w'.cell? ⟨w.heap.size, 0, none⟩ = some (.slice A n c) ∧ w'.cell? ⟨w.heap.size, 1, none⟩ = some (.slice A' n' c') ∧ w'.cell? (ada.add k) = some (.int .u32 (x : Int)) ∧ w'.cell? (adb.add k) = some (.int .u32 (y : Int))) (by kernel_rfl) ?_
        have hS := HC.out _ hB0
        clear s0 s1 hca hcb
        generalize hwq : wr.drew = wq at *
        clear hwq
        refine U_readC 0 [5, 6, 7, 15] (v := (.agg #[.slice A n c, .slice A' n' c'])) rfl (by kernel_rfl) (fun _ _ _ h => h) hS (by kernel_rfl) (fun w' hw' => by obtain ⟨h0, h1, h2, h3⟩ := hw'; go_simp) ?_
        try simp only [Act.put, List.setIfInBounds_toArray, List.set_cons_zero, List.set_cons_succ]
        refine U_readC 1 [3, 4, 5, 6, 7, 15] (v := (.slice (some ada) n1 c1)) rfl (by kernel_rfl) (fun _ _ _ h => h) hS (by kernel_rfl) (fun w' hw' => by obtain ⟨h0, h1, h2, h3⟩ := hw'; go_simp) ?_
        try simp only [Act.put, List.setIfInBounds_toArray, List.set_cons_zero, List.set_cons_succ]
        refine U_readC 2 [3, 4, 5, 6, 7, 15] (v := (.int .i64 (k : Int))) rfl (by kernel_rfl) (fun _ _ _ h => h) hS (by kernel_rfl) (fun w' hw' => by obtain ⟨h0, h1, h2, h3⟩ := hw'; go_simp) ?_
        try simp only [Act.put, List.setIfInBounds_toArray, List.set_cons_zero, List.set_cons_succ]
        refine U_readC 3 [4, 5, 6, 7, 15] (v := (.pointer (some (ada.add k)))) rfl (by kernel_rfl) (fun _ _ _ h => h) hS (by kernel_rfl) (fun w' hw' => by obtain ⟨h0, h1, h2, h3⟩ := hw'; go_simp) ?_
        try simp only [Act.put, List.setIfInBounds_toArray, List.set_cons_zero, List.set_cons_succ]
        refine U_readC 4 [5, 6, 7, 15] (v := (.int .u32 (x : Int))) rfl (by kernel_rfl) (fun _ _ _ h => h) hS (by kernel_rfl) (fun w' hw' => by obtain ⟨h0, h1, h2, h3⟩ := hw'; go_simp) ?_
        try simp only [Act.put, List.setIfInBounds_toArray, List.set_cons_zero, List.set_cons_succ]
        refine U_one 5 (by kernel_rfl) rfl rfl (fun K hK => ?_)
        go_simp
        refine (HI1.out _ hB0).mono ?_
        rintro e wx ⟨rfl, hbx⟩
        have hBx := below_top hB0 hbx
        have hSx := HC.out _ hBx
        refine hK _ _ (fun _ => hSx) ?_
        clear hK K
        try simp only [Act.put, List.setIfInBounds_toArray, List.set_cons_zero, List.set_cons_succ]
        clear hS
        have hS := hSx
        refine U_readC 6 [7, 15] (v := (.bool true)) rfl (by kernel_rfl) (fun _ _ _ h => h) hS (by kernel_rfl) (fun w' hw' => by obtain ⟨h0, h1, h2, h3⟩ := hw'; go_simp) ?_
        try simp only [Act.put, List.setIfInBounds_toArray, List.set_cons_zero, List.set_cons_succ]
        refine U_read 7 (v := (.bool true)) rfl (by kernel_rfl) (fun _ _ _ h => h) hS (by kernel_rfl) (fun w' hw' => by obtain ⟨h0, h1, h2, h3⟩ := hw'; go_simp) ?_
        try simp only [Act.put, List.setIfInBounds_toArray, List.set_cons_zero, List.set_cons_succ]
        refine U_skipC 8 [13, 14, 15] rfl (by kernel_rfl) (fun _ _ _ h => h) hS (by kernel_rfl) ?_
        try simp only [Act.put, List.setIfInBounds_toArray, List.set_cons_zero, List.set_cons_succ]
        refine U_skipC 9 [11, 12, 13, 14, 15] rfl (by kernel_rfl) (fun _ _ _ h => h) hS (by kernel_rfl) ?_
        try simp only [Act.put, List.setIfInBounds_toArray, List.set_cons_zero, List.set_cons_succ]
        refine U_skipC 10 [11, 12, 13, 14, 15] rfl (by kernel_rfl) (fun _ _ _ h => h) hS (by kernel_rfl) ?_
        try simp only [Act.put, List.setIfInBounds_toArray, List.set_cons_zero, List.set_cons_succ]
        refine U_skipC 11 [12, 13, 14, 15] rfl (by kernel_rfl) (fun _ _ _ h => h) hS (by kernel_rfl) ?_
        try simp only [Act.put, List.setIfInBounds_toArray, List.set_cons_zero, List.set_cons_succ]
        refine U_skipC 12 [13, 14, 15] rfl (by kernel_rfl) (fun _ _ _ h => h) hS (by kernel_rfl) ?_
        try simp only [Act.put, List.setIfInBounds_toArray, List.set_cons_zero, List.set_cons_succ]
        refine U_skipC 13 [14, 15] rfl (by kernel_rfl) (fun _ _ _ h => h) hS (by kernel_rfl) ?_
        try simp only [Act.put, List.setIfInBounds_toArray, List.set_cons_zero, List.set_cons_succ]
        refine U_skipC 14 [15] rfl (by kernel_rfl) (fun _ _ _ h => h) hS (by kernel_rfl) ?_
        try simp only [Act.put, List.setIfInBounds_toArray, List.set_cons_zero, List.set_cons_succ]
        refine U_one 15 (by kernel_rfl) rfl rfl (fun K hK => ?_)
        go_simp
        refine hK _ _ (fun h => absurd h (by decide)) ?_
        clear hK K
        try simp only [Act.put, List.setIfInBounds_toArray, List.set_cons_zero, List.set_cons_succ]
        refine U_done (by kernel_rfl) ?_ _
        simp only [Calm, Exit.then]
        have HF2 := Lib.hid (HF.out _ hBx)
        clear hB0 hbx hBx hS hSx
        go_wp2_with fail
        go_ret2
        exact HF2.out
      · rcases bz with _ | _
        · skip
          have HF := Lib.hid (fun (w' : World) (hb : Below wr.heap.size wr w') => show PairsP h false a b w (.returned (.tuple #[.slice none 0 0, .int .i64 ((3 : Nat) : Int)])) w' from by
            have hf := HBAD.out (.inr rfl)
            have he : prsE h false a b = 3 := by unfold prsE; rw [hf]; rfl
            have hp : prsL h false a b = [] := by unfold prsL; rw [if_neg (by omega)]
            exact ⟨_, by rw [he], by rw [hp]; exact ⟨rfl, .inl ⟨rfl, rfl⟩⟩, below_top (below_top HB.out HBR.out) hb⟩)
          clear hlt
          go_upto_region 6 with fail
          refine wp_region_U 15 (fun w' => w'.cell? ⟨w.heap.size, 0, none⟩ = some (.slice A n c) ∧ w'.cell? ⟨w.heap.size, 1, none⟩ = some (.slice A' n' c') ∧ w'.cell? (ada.add k) = some (.int .u32 (x : Int)) ∧ w'.cell? (adb.add k) = some (.int .u32 (y : Int))) (by kernel_rfl) ?_
          have hS := HC.out _ hB0
          clear s0 s1 hca hcb
          generalize hwq : wr.drew = wq at *
          clear hwq
          refine U_readC 0 [5, 6, 7, 15] (v := (.agg #[.slice A n c, .slice A' n' c'])) rfl (by kernel_rfl) (fun _ _ _ h => h) hS (by kernel_rfl) (fun w' hw' => by obtain ⟨h0, h1, h2, h3⟩ := hw'; go_simp) ?_
          try simp only [Act.put, List.setIfInBounds_toArray, List.set_cons_zero, List.set_cons_succ]
          refine U_readC 1 [3, 4, 5, 6, 7, 15] (v := (.slice (some ada) n1 c1)) rfl (by kernel_rfl) (fun _ _ _ h => h) hS (by kernel_rfl) (fun w' hw' => by obtain ⟨h0, h1, h2, h3⟩ := hw'; go_simp) ?_
          try simp only [Act.put, List.setIfInBounds_toArray, List.set_cons_zero, List.set_cons_succ]
          refine U_readC 2 [3, 4, 5, 6, 7, 15] (v := (.int .i64 (k : Int))) rfl (by kernel_rfl) (fun _ _ _ h => h) hS (by kernel_rfl) (fun w' hw' => by obtain ⟨h0, h1, h2, h3⟩ := hw'; go_simp) ?_
          try simp only [Act.put, List.setIfInBounds_toArray, List.set_cons_zero, List.set_cons_succ]
          refine U_readC 3 [4, 5, 6, 7, 15] (v := (.pointer (some (ada.add k)))) rfl (by kernel_rfl) (fun _ _ _ h => h) hS (by kernel_rfl) (fun w' hw' => by obtain ⟨h0, h1, h2, h3⟩ := hw'; go_simp) ?_
          try simp only [Act.put, List.setIfInBounds_toArray, List.set_cons_zero, List.set_cons_succ]
          refine U_readC 4 [5, 6, 7, 15] (v := (.int .u32 (x : Int))) rfl (by kernel_rfl) (fun _ _ _ h => h) hS (by kernel_rfl) (fun w' hw' => by obtain ⟨h0, h1, h2, h3⟩ := hw'; go_simp) ?_
          try simp only [Act.put, List.setIfInBounds_toArray, List.set_cons_zero, List.set_cons_succ]
          refine U_one 5 (by kernel_rfl) rfl rfl (fun K hK => ?_)
          go_simp
          refine (HI1.out _ hB0).mono ?_
          rintro e wx ⟨rfl, hbx⟩
          have hBx := below_top hB0 hbx
          have hSx := HC.out _ hBx
          refine hK _ _ (fun _ => hSx) ?_
          clear hK K
          try simp only [Act.put, List.setIfInBounds_toArray, List.set_cons_zero, List.set_cons_succ]
          clear hS
          have hS := hSx
          refine U_readC 6 [7, 15] (v := (.bool false)) rfl (by kernel_rfl) (fun _ _ _ h => h) hS (by kernel_rfl) (fun w' hw' => by obtain ⟨h0, h1, h2, h3⟩ := hw'; go_simp) ?_
          try simp only [Act.put, List.setIfInBounds_toArray, List.set_cons_zero, List.set_cons_succ]
          refine U_read 7 (v := (.bool false)) rfl (by kernel_rfl) (fun _ _ _ h => h) hS (by kernel_rfl) (fun w' hw' => by obtain ⟨h0, h1, h2, h3⟩ := hw'; go_simp) ?_
          try simp only [Act.put, List.setIfInBounds_toArray, List.set_cons_zero, List.set_cons_succ]
          refine U_readC 8 [13, 14, 15] (v := (.agg #[.slice A n c, .slice A' n' c'])) rfl (by kernel_rfl) (fun _ _ _ h => h) hS (by kernel_rfl) (fun w' hw' => by obtain ⟨h0, h1, h2, h3⟩ := hw'; go_simp) ?_
          try simp only [Act.put, List.setIfInBounds_toArray, List.set_cons_zero, List.set_cons_succ]
          refine U_readC 9 [11, 12, 13, 14, 15] (v := (.slice (some adb) n1 c2)) rfl (by kernel_rfl) (fun _ _ _ h => h) hS (by kernel_rfl) (fun w' hw' => by obtain ⟨h0, h1, h2, h3⟩ := hw'; go_simp) ?_
          try simp only [Act.put, List.setIfInBounds_toArray, List.set_cons_zero, List.set_cons_succ]
          refine U_readC 10 [11, 12, 13, 14, 15] (v := (.int .i64 (k : Int))) rfl (by kernel_rfl) (fun _ _ _ h => h) hS (by kernel_rfl) (fun w' hw' => by obtain ⟨h0, h1, h2, h3⟩ := hw'; go_simp) ?_
          try simp only [Act.put, List.setIfInBounds_toArray, List.set_cons_zero, List.set_cons_succ]
          refine U_readC 11 [12, 13, 14, 15] (v := (.pointer (some (adb.add k)))) rfl (by kernel_rfl) (fun _ _ _ h => h) hS (by kernel_rfl) (fun w' hw' => by obtain ⟨h0, h1, h2, h3⟩ := hw'; go_simp) ?_
          try simp only [Act.put, List.setIfInBounds_toArray, List.set_cons_zero, List.set_cons_succ]
          refine U_readC 12 [13, 14, 15] (v := (.int .u32 (y : Int))) rfl (by kernel_rfl) (fun _ _ _ h => h) hS (by kernel_rfl) (fun w' hw' => by obtain ⟨h0, h1, h2, h3⟩ := hw'; go_simp) ?_
          try simp only [Act.put, List.setIfInBounds_toArray, List.set_cons_zero, List.set_cons_succ]
          refine U_oneW 13 (by kernel_rfl) rfl (by kernel_rfl) (fun K hK => ?_)
          go_simp
          refine (HI2.out _ hBx).mono ?_
          rintro e wy ⟨rfl, hby⟩
          have hBy := below_top hBx hby
          have hSy := HC.out _ hBy
          refine hK _ _ (fun _ => hSy) ?_
          clear hK K
          try simp only [Act.put, List.setIfInBounds_toArray, List.set_cons_zero, List.set_cons_succ]
          clear hS
          have hS := hSy
          refine U_readC 14 [15] (v := (.bool true)) rfl (by kernel_rfl) (fun _ _ _ h => h) hS (by kernel_rfl) (fun w' hw' => by obtain ⟨h0, h1, h2, h3⟩ := hw'; go_simp) ?_
          try simp only [Act.put, List.setIfInBounds_toArray, List.set_cons_zero, List.set_cons_succ]
          refine U_one 15 (by kernel_rfl) rfl rfl (fun K hK => ?_)
          go_simp
          refine hK _ _ (fun h => absurd h (by decide)) ?_
          clear hK K
          try simp only [Act.put, List.setIfInBounds_toArray, List.set_cons_zero, List.set_cons_succ]
          refine U_done (by kernel_rfl) ?_ _
          simp only [Calm, Exit.then]
          have HF2 := Lib.hid (HF.out _ hBy)
          clear hS hSx hSy hB0 hbx hBx hby hBy
          go_wp2_with fail
          go_ret2
          exact HF2.out
        · skip
          have HPN := Lib.hid (show (∀ z ∈ a.take (k + 1), h.isB z = true) ∧ ∀ z ∈ b.take (k + 1), h.isB z = true from by
            rw [HTA.out.1, HTA.out.2]
            exact ⟨fun z hz => (List.mem_append.1 hz).elim (HPA.out.1 z) (fun hz => by rcases List.mem_singleton.1 hz with rfl; exact HIJ.out.1), fun z hz => (List.mem_append.1 hz).elim (HPA.out.2 z) (fun hz => by rcases List.mem_singleton.1 hz with rfl; exact HIJ.out.2)⟩)
          clear hlt
          go_upto_region 6 with fail
          refine wp_region_U 15 (fun w' => w'.cell? ⟨w.heap.size, 0, none⟩ = some (.slice A n c) ∧ w'.cell? ⟨w.heap.size, 1, none⟩ = some (.slice A' n' c') ∧ w'.cell? (ada.add k) = some (.int .u32 (x : Int)) ∧ w'.cell? (adb.add k) = some (.int .u32 (y : Int))) (by kernel_rfl) ?_
          have hS := HC.out _ hB0
          clear s0 s1 hca hcb
          generalize hwq : wr.drew = wq at *
          clear hwq
          refine U_readC 0 [5, 6, 7, 15] (v := (.agg #[.slice A n c, .slice A' n' c'])) rfl (by kernel_rfl) (fun _ _ _ h => h) hS (by kernel_rfl) (fun w' hw' => by obtain ⟨h0, h1, h2, h3⟩ := hw'; go_simp) ?_
          try simp only [Act.put, List.setIfInBounds_toArray, List.set_cons_zero, List.set_cons_succ]
          refine U_readC 1 [3, 4, 5, 6, 7, 15] (v := (.slice (some ada) n1 c1)) rfl (by kernel_rfl) (fun _ _ _ h => h) hS (by kernel_rfl) (fun w' hw' => by obtain ⟨h0, h1, h2, h3⟩ := hw'; go_simp) ?_
          try simp only [Act.put, List.setIfInBounds_toArray, List.set_cons_zero, List.set_cons_succ]
          refine U_readC 2 [3, 4, 5, 6, 7, 15] (v := (.int .i64 (k : Int))) rfl (by kernel_rfl) (fun _ _ _ h => h) hS (by kernel_rfl) (fun w' hw' => by obtain ⟨h0, h1, h2, h3⟩ := hw'; go_simp) ?_
          try simp only [Act.put, List.setIfInBounds_toArray, List.set_cons_zero, List.set_cons_succ]
          refine U_readC 3 [4, 5, 6, 7, 15] (v := (.pointer (some (ada.add k)))) rfl (by kernel_rfl) (fun _ _ _ h => h) hS (by kernel_rfl) (fun w' hw' => by obtain ⟨h0, h1, h2, h3⟩ := hw'; go_simp) ?_
          try simp only [Act.put, List.setIfInBounds_toArray, List.set_cons_zero, List.set_cons_succ]
          refine U_readC 4 [5, 6, 7, 15] (v := (.int .u32 (x : Int))) rfl (by kernel_rfl) (fun _ _ _ h => h) hS (by kernel_rfl) (fun w' hw' => by obtain ⟨h0, h1, h2, h3⟩ := hw'; go_simp) ?_
          try simp only [Act.put, List.setIfInBounds_toArray, List.set_cons_zero, List.set_cons_succ]
          refine U_one 5 (by kernel_rfl) rfl rfl (fun K hK => ?_)
          go_simp
          refine (HI1.out _ hB0).mono ?_
          rintro e wx ⟨rfl, hbx⟩
          have hBx := below_top hB0 hbx
          have hSx := HC.out _ hBx
          refine hK _ _ (fun _ => hSx) ?_
          clear hK K
          try simp only [Act.put, List.setIfInBounds_toArray, List.set_cons_zero, List.set_cons_succ]
          clear hS
          have hS := hSx
          refine U_readC 6 [7, 15] (v := (.bool false)) rfl (by kernel_rfl) (fun _ _ _ h => h) hS (by kernel_rfl) (fun w' hw' => by obtain ⟨h0, h1, h2, h3⟩ := hw'; go_simp) ?_
          try simp only [Act.put, List.setIfInBounds_toArray, List.set_cons_zero, List.set_cons_succ]
          refine U_read 7 (v := (.bool false)) rfl (by kernel_rfl) (fun _ _ _ h => h) hS (by kernel_rfl) (fun w' hw' => by obtain ⟨h0, h1, h2, h3⟩ := hw'; go_simp) ?_
          try simp only [Act.put, List.setIfInBounds_toArray, List.set_cons_zero, List.set_cons_succ]
          refine U_readC 8 [13, 14, 15] (v := (.agg #[.slice A n c, .slice A' n' c'])) rfl (by kernel_rfl) (fun _ _ _ h => h) hS (by kernel_rfl) (fun w' hw' => by obtain ⟨h0, h1, h2, h3⟩ := hw'; go_simp) ?_
          try simp only [Act.put, List.setIfInBounds_toArray, List.set_cons_zero, List.set_cons_succ]
          refine U_readC 9 [11, 12, 13, 14, 15] (v := (.slice (some adb) n1 c2)) rfl (by kernel_rfl) (fun _ _ _ h => h) hS (by kernel_rfl) (fun w' hw' => by obtain ⟨h0, h1, h2, h3⟩ := hw'; go_simp) ?_
          try simp only [Act.put, List.setIfInBounds_toArray, List.set_cons_zero, List.set_cons_succ]
          refine U_readC 10 [11, 12, 13, 14, 15] (v := (.int .i64 (k : Int))) rfl (by kernel_rfl) (fun _ _ _ h => h) hS (by kernel_rfl) (fun w' hw' => by obtain ⟨h0, h1, h2, h3⟩ := hw'; go_simp) ?_
          try simp only [Act.put, List.setIfInBounds_toArray, List.set_cons_zero, List.set_cons_succ]
          refine U_readC 11 [12, 13, 14, 15] (v := (.pointer (some (adb.add k)))) rfl (by kernel_rfl) (fun _ _ _ h => h) hS (by kernel_rfl) (fun w' hw' => by obtain ⟨h0, h1, h2, h3⟩ := hw'; go_simp) ?_
          try simp only [Act.put, List.setIfInBounds_toArray, List.set_cons_zero, List.set_cons_succ]
          refine U_readC 12 [13, 14, 15] (v := (.int .u32 (y : Int))) rfl (by kernel_rfl) (fun _ _ _ h => h) hS (by kernel_rfl) (fun w' hw' => by obtain ⟨h0, h1, h2, h3⟩ := hw'; go_simp) ?_
          try simp only [Act.put, List.setIfInBounds_toArray, List.set_cons_zero, List.set_cons_succ]
          refine U_oneW 13 (by kernel_rfl) rfl (by kernel_rfl) (fun K hK => ?_)
          go_simp
          refine (HI2.out _ hBx).mono ?_
          rintro e wy ⟨rfl, hby⟩
          have hBy := below_top hBx hby
          have hSy := HC.out _ hBy
          refine hK _ _ (fun _ => hSy) ?_
          clear hK K
          try simp only [Act.put, List.setIfInBounds_toArray, List.set_cons_zero, List.set_cons_succ]
          clear hS
          have hS := hSy
          refine U_readC 14 [15] (v := (.bool false)) rfl (by kernel_rfl) (fun _ _ _ h => h) hS (by kernel_rfl) (fun w' hw' => by obtain ⟨h0, h1, h2, h3⟩ := hw'; go_simp) ?_
          try simp only [Act.put, List.setIfInBounds_toArray, List.set_cons_zero, List.set_cons_succ]
          refine U_one 15 (by kernel_rfl) rfl rfl (fun K hK => ?_)
          go_simp
          refine hK _ _ (fun h => absurd h (by decide)) ?_
          clear hK K
          try simp only [Act.put, List.setIfInBounds_toArray, List.set_cons_zero, List.set_cons_succ]
          refine U_done (by kernel_rfl) ?_ _
          simp only [Calm, Exit.then]
          have HBy := Lib.hid (below_top HBR.out hBy)
          clear hS hSx hSy hB0 hbx hBx hby hBy
          go_wp2_with fail
          go_roundw
          case rel => exact ⟨k + 1, by go_num, HLT.out, HPN.out.1, HPN.out.2, HBy.out⟩
          case measure => have := HLT.out; simp [intOf]; omega
    · obtain rfl : k = n1 := by omega
      have HFT := Lib.hid (show fitsE h a b = 0 from by
        have h1 := HPA.out
        rw [List.take_of_length_le (by have := HLN.out; omega), List.take_of_length_le (by have := HLN.out; omega)] at h1
        exact fits_good HLE.out h1.1 h1.2)
      have HB2 := Lib.hid (below_top HB.out HBR.out)
      have ra := (HRD.out wr HB2.out).1.more HB2.out.size
      obtain ⟨k0, hk0, hy0, hy1, hy2⟩ := info_parts info_oop
      clear hlt hk HPA HIS HX
      go_upto_region 10 with (at_builtin; refine wpList_append_any _ rfl (.const (.slice none 0 0)) (.tmp 43) _ rfl w.heap.size 43 k0 _ 1 4 Tryz.underlying23 hk0 hy0 hy1 hy2 rfl (by omega) (.slice none 0 0) 0 [] rfl ⟨rfl, .inl ⟨rfl, rfl⟩⟩ wr.heap.size A1 k c1 (u32s a) rfl ra (one_u32s _) (by simp only [maxLen]; omega) (by omega) HB2.out.size ?_; intro v4 w4 hown4 hgrow4 hat4; have HB4 := Lib.hid (HB2.out.grown hgrow4 HB2.out.size (fun q e => by cases e)); have HO4 := Lib.hid hown4; clear hown4 hgrow4 hat4)
      rw [Nat.zero_add, List.nil_append] at HO4
      have HB5 := HB4
      have HO5 := Lib.hid (show w4.ownsRow w.heap.size 43 1 v4 k (u32s (allL false a b)) from by unfold allL; rw [if_neg (by decide)]; exact HO4.out)
      obtain ⟨N, hNN⟩ : ∃ N, k = N := ⟨_, rfl⟩
      have hN : N ≤ 2097152 := by omega
      have HAL := Lib.hid (show (allL false a b).length = N from by rw [← hNN]; unfold allL; rw [if_neg (by decide)]; exact HLN.out.1)
      rw [hNN] at HO5
      clear hNN
      obtain ⟨Av, cv, rfl⟩ := own_val HO5.out
      have HE := Lib.hid (show prsE h false a b = if (allL false a b).Nodup then 0 else 30 from by unfold prsE; rw [HFT.out, if_pos rfl])
      have HA32 := Lib.hid (show ∀ z ∈ allL false a b, z < 4294967296 from by unfold allL; rw [if_neg (by decide)]; exact H32.out.1)
      generalize allL false a b = al at *
      clear HB2 HBR HFT ra
      go_upto_region 13 with fail
      go_loopw [51] (fun iv wr => ∃ i : Nat, iv = .int .i64 i ∧ i ≤ N ∧ (al.take i).Nodup ∧ Below w.heap.size w wr ∧ wr.ownsRow w.heap.size 43 1 (.slice Av N cv) N (u32s al)) (fun iv _ => N - (intOf iv).toNat)
      case atStart => exact ⟨0, rfl, Nat.zero_le _, by simp, HB5.out, HO5.out⟩
      case round =>
        clear HB5 HO5
        obtain ⟨i, rfl, hi, hnd, hb, ho⟩ := hrel
        have HND := Lib.hid hnd
        have HB := Lib.hid hb
        have HO := Lib.hid ho
        clear hnd hb ho
        by_cases hlt : i < N
        · have hla : i < al.length := by have := HAL.out; omega
          have hiq : al[i]? = some al[i] := List.getElem?_eq_getElem hla
          have HLT := Lib.hid hlt
          have HTK := Lib.hid (show al.take (i + 1) = al.take i ++ [al[i]] from by rw [List.take_add_one, hiq]; rfl)
          have HXI := Lib.hid hiq
          generalize al[i] = x at *
          clear hiq
          clear hla
          go_upto_region 16 with fail
          go_loopw [13] (fun jv wq => ∃ j : Nat, jv = .int .i64 j ∧ j ≤ i ∧ x ∉ al.take j ∧ Below wr.heap.size wr wq) (fun jv _ => i - (intOf jv).toNat)
          case atStart => exact ⟨0, rfl, Nat.zero_le _, by simp, Below.refl _ _⟩
          case round =>
            obtain ⟨j, rfl, hj, hnx, hb⟩ := hrel
            have HNX := Lib.hid hnx
            have HBq := Lib.hid hb
            clear hnx hb
            by_cases hjl : j < i
            · have hja : j < al.length := by have := HLT.out; have := HAL.out; omega
              have hjq : al[j]? = some al[j] := List.getElem?_eq_getElem hja
              obtain ⟨gv, cv', hvv, hrv, _, _⟩ := Row.of_any (own_below HO.out HBq.out) (by have := HLT.out; omega)
              have hc1 := hrv.cell (u32s_get2 HXI.out)
              have hc2 := hrv.cell (u32s_get2 hjq)
              cases hvv
              have HTJ := Lib.hid (show al.take (j + 1) = al.take j ++ [al[j]] from by rw [List.take_add_one, hjq]; rfl)
              have HJL := Lib.hid hjl
              have HJQ := Lib.hid hjq
              generalize al[j] = y at *
              clear hja hjq hrv
              go_upto_region 18 with fail
              by_cases hxy : x = y
              · have hq : ((x : Int) == (y : Int)) = true := by simp; omega
                have HF := Lib.hid (fun (w' : World) (hb : Below wr.heap.size wr w') => show PairsP h false a b w (.returned (.tuple #[.slice none 0 0, .int .i64 ((30 : Nat) : Int)])) w' from by
                  have hnn : ¬ al.Nodup := fun hN => by
                    have h1 := List.getElem?_eq_some_iff.1 HXI.out
                    have h2 := List.getElem?_eq_some_iff.1 HJQ.out
                    obtain ⟨p1, q1⟩ := h1
                    obtain ⟨p2, q2⟩ := h2
                    have h3 : al[i] = al[j] := by rw [q1, q2, hxy]
                    have := (List.getElem_inj hN).1 h3
                    omega
                  have he : prsE h false a b = 30 := by rw [HE.out, if_neg hnn]
                  have hp : prsL h false a b = [] := by unfold prsL; rw [if_neg (by omega)]
                  exact ⟨_, by rw [he], by rw [hp]; exact ⟨rfl, .inl ⟨rfl, rfl⟩⟩, below_top (below_top HB.out HBq.out) hb⟩)
                clear hxy hjl
                go_quiet (fail)
                have HF2 := Lib.hid (HF.out _ (below_drewN (Below.refl _ _) nq))
                go_wp2_with fail
                go_ret2
                exact HF2.out
              · have hq : ((x : Int) == (y : Int)) = false := by simp; omega
                have HN2 := Lib.hid (show x ∉ al.take (j + 1) from by
                  rw [HTJ.out, List.mem_append, List.mem_singleton]
                  rintro (h1 | h1)
                  · exact HNX.out h1
                  · exact hxy h1)
                clear hxy hjl
                go_quiet (fail)
                have HB6 := Lib.hid (below_drewN HBq.out nq)
                go_wp2_with fail
                go_roundw
                case rel => exact ⟨j + 1, by go_num, HJL.out, HN2.out, HB6.out⟩
                case measure => have := HJL.out; simp [intOf]; omega
            · obtain rfl : j = i := by omega
              have HN2 := Lib.hid (show (al.take (j + 1)).Nodup from by
                rw [HTK.out, List.nodup_append]
                exact ⟨HND.out, by simp, fun p hp q hq e => by rcases List.mem_singleton.1 hq with rfl; exact HNX.out (e ▸ hp)⟩)
              have HB6 := Lib.hid (below_top HB.out HBq.out)
              have HO6 := Lib.hid (own_below HO.out HBq.out)
              clear hjl hj
              go_wp2_with fail
              go_roundw
              case rel => exact ⟨j + 1, by go_num, HLT.out, HN2.out, HB6.out, HO6.out⟩
              case measure => have := HLT.out; simp [intOf]; omega
        · obtain rfl : i = N := by omega
          have HE0 := Lib.hid (show prsE h false a b = 0 from by
            have h1 := HND.out
            rw [List.take_of_length_le (by have := HAL.out; omega)] at h1
            rw [HE.out, if_pos h1])
          clear hlt hi HO
          obtain ⟨i0, hi0, hz0, hz1, hz2⟩ := info_parts info_mv
          go_upto_region 23 with fail
          have hkn := HLN.out.1
          clear hkn
          have HKN := Lib.hid HLN.out.1
          go_loopw [14, 71] (fun pv iv wr => ∃ t : Nat, iv = .int .i64 t ∧ t ≤ k ∧ wr.ownsRow w.heap.size 69 2 pv (prsK false a b t).length (mvs (prsK false a b t)) ∧ Below w.heap.size w wr) (fun _ iv _ => k - (intOf iv).toNat)
          case atStart => exact ⟨0, rfl, Nat.zero_le _, by rw [prsK_zero]; exact ⟨rfl, .inl ⟨rfl, rfl⟩⟩, HB.out⟩
          case round =>
            clear HB
            obtain ⟨t, rfl, ht, hop, hb⟩ := hrel
            have HO := Lib.hid hop
            have HB := Lib.hid hb
            clear hop hb
            by_cases hlt : t < k
            · obtain ⟨ra, rb⟩ := HRD.out wr HB.out
              obtain ⟨ada, u, rfl, hba, hu, hca⟩ := ra.at_ hlt
              obtain ⟨x, hx, rfl⟩ := u32s_at hu
              obtain ⟨adb, u, rfl, hbb, hu2, hcb⟩ := rb.at_ hlt
              obtain ⟨y, hy, rfl⟩ := u32s_at hu2
              have HXY := Lib.hid (fun (w' : World) (hb : Below w.heap.size w w') => show w'.cell? (ada.add t) = some (.int .u32 (x : Int)) ∧ w'.cell? (adb.add t) = some (.int .u32 (y : Int)) from by
                obtain ⟨ra, rb⟩ := HRD.out w' hb
                obtain ⟨ad1, u1, e1, _, hu1, hc1⟩ := ra.at_ hlt
                obtain ⟨ad2, u2, e2, _, hu2', hc2⟩ := rb.at_ hlt
                cases e1
                cases e2
                rw [hu] at hu1
                rw [hu2] at hu2'
                cases hu1
                cases hu2'
                exact ⟨hc1, hc2⟩)
              have HTK := Lib.hid (show prsK false a b (t + 1) = prsK false a b t ++ [(x, y)] from prsK_F (by have := HLN.out; omega) hx (by rw [← hy]))
              have hpl := prsK_len false a b t
              have HLT := Lib.hid hlt
              clear hu hu2 hx hy ra rb hba hbb hca hcb
              go_upto_region 25 with fail
              refine wp_region_U 12 (fun w' => w'.cell? (ada.add t) = some (.int .u32 (x : Int)) ∧ w'.cell? (adb.add t) = some (.int .u32 (y : Int))) (by kernel_rfl) ?_
              have hS : wr.drew.cell? (ada.add t) = some (.int .u32 (x : Int)) ∧ wr.drew.cell? (adb.add t) = some (.int .u32 (y : Int)) := HXY.out _ (below_drew HB.out)
              have HBq := Lib.hid (show Below w.heap.size w wr.drew from below_drew HB.out)
              have HOq := Lib.hid (own_below HO.out (below_drew (Below.refl wr.heap.size wr)))
              clear HB HO
              generalize wr.drew = wq at *
              refine U_read 0 (v := u14) rfl (by kernel_rfl) (fun _ _ _ h => h) hS (by kernel_rfl) (fun w' hw' => by obtain ⟨h0, h1⟩ := hw'; go_simp) ?_
              try simp only [Act.put, List.setIfInBounds_toArray, List.set_cons_zero, List.set_cons_succ]
              refine U_read 1 (v := (.slice (some ada) k c1)) rfl (by kernel_rfl) (fun _ _ _ h => h) hS (by kernel_rfl) (fun w' hw' => by obtain ⟨h0, h1⟩ := hw'; go_simp) ?_
              try simp only [Act.put, List.setIfInBounds_toArray, List.set_cons_zero, List.set_cons_succ]
              refine U_read 2 (v := (.int .i64 (t : Int))) rfl (by kernel_rfl) (fun _ _ _ h => h) hS (by kernel_rfl) (fun w' hw' => by obtain ⟨h0, h1⟩ := hw'; go_simp) ?_
              try simp only [Act.put, List.setIfInBounds_toArray, List.set_cons_zero, List.set_cons_succ]
              refine U_read 3 (v := (.pointer (some (ada.add t)))) rfl (by kernel_rfl) (fun _ _ _ h => h) hS (by kernel_rfl) (fun w' hw' => by obtain ⟨h0, h1⟩ := hw'; go_simp) ?_
              try simp only [Act.put, List.setIfInBounds_toArray, List.set_cons_zero, List.set_cons_succ]
              refine U_read 4 (v := (.int .u32 (x : Int))) rfl (by kernel_rfl) (fun _ _ _ h => h) hS (by kernel_rfl) (fun w' hw' => by obtain ⟨h0, h1⟩ := hw'; go_simp) ?_
              try simp only [Act.put, List.setIfInBounds_toArray, List.set_cons_zero, List.set_cons_succ]
              refine U_read 5 (v := (.slice (some adb) k c2)) rfl (by kernel_rfl) (fun _ _ _ h => h) hS (by kernel_rfl) (fun w' hw' => by obtain ⟨h0, h1⟩ := hw'; go_simp) ?_
              try simp only [Act.put, List.setIfInBounds_toArray, List.set_cons_zero, List.set_cons_succ]
              refine U_read 6 (v := (.int .i64 (t : Int))) rfl (by kernel_rfl) (fun _ _ _ h => h) hS (by kernel_rfl) (fun w' hw' => by obtain ⟨h0, h1⟩ := hw'; go_simp) ?_
              try simp only [Act.put, List.setIfInBounds_toArray, List.set_cons_zero, List.set_cons_succ]
              refine U_read 7 (v := (.pointer (some (adb.add t)))) rfl (by kernel_rfl) (fun _ _ _ h => h) hS (by kernel_rfl) (fun w' hw' => by obtain ⟨h0, h1⟩ := hw'; go_simp) ?_
              try simp only [Act.put, List.setIfInBounds_toArray, List.set_cons_zero, List.set_cons_succ]
              refine U_read 8 (v := (.int .u32 (y : Int))) rfl (by kernel_rfl) (fun _ _ _ h => h) hS (by kernel_rfl) (fun w' hw' => by obtain ⟨h0, h1⟩ := hw'; go_simp) ?_
              try simp only [Act.put, List.setIfInBounds_toArray, List.set_cons_zero, List.set_cons_succ]
              refine U_read 9 (v := (.agg #[.int .u32 (x : Int), .int .u32 (y : Int)])) rfl (by kernel_rfl) (fun _ _ _ h => h) hS (by kernel_rfl) (fun w' hw' => by obtain ⟨h0, h1⟩ := hw'; go_simp) ?_
              try simp only [Act.put, List.setIfInBounds_toArray, List.set_cons_zero, List.set_cons_succ]
              refine U_one 10 (by kernel_rfl) rfl rfl (fun K hK => ?_)
              go_simp
              have hba := (Below.refl wq.heap.size wq).alloc (Nat.le_refl _) (.cells #[.int .u32 (x : Int), .int .u32 (y : Int)] 69)
              have HB8 := Lib.hid (below_top HBq.out hba)
              have HO8 := Lib.hid (own_below HOq.out hba)
              refine hK _ _ (fun _ => (HXY.out _ HB8.out)) ?_
              clear hK K
              try simp only [Act.put, List.setIfInBounds_toArray, List.set_cons_zero, List.set_cons_succ]
              clear hS hba HBq HOq
              have hS := HXY.out _ HB8.out
              refine U_one 11 (by kernel_rfl) rfl rfl (fun K hK => ?_)
              refine wp_append_any _ (.tmp 74) (.tmp 84) _ rfl w.heap.size 69 i0 _ 2 8 Tryz.underlying34 hi0 hz0 hz1 hz2 rfl (by omega) u14 (prsK false a b t).length (mvs (prsK false a b t)) rfl HO8.out (wq.heap.size + 1) (some ⟨wq.heap.size, 0, none⟩) 1 1 (mvs [(x, y)]) rfl (reads_two _ _ _ _) (by intro u hu; simp [mvs] at hu; rcases hu with rfl | rfl <;> rfl) (by simp only [maxLen]; omega) (by omega) HB8.out.size ?_
              intro v9 w9 hown9 hgrow9 hat9
              have HB9 := Lib.hid (HB8.out.grown hgrow9 HB8.out.size (fun q hq => (HO8.out.lt q hq).1))
              have HO9 := Lib.hid (show w9.ownsRow w.heap.size 69 2 v9 ((prsK false a b t).length + 1) (mvs ((prsK false a b t) ++ [(x, y)])) from by rw [mvs_app]; exact hown9)
              clear hown9 hgrow9 hat9 HB8 HO8
              refine hK _ _ (fun _ => (HXY.out _ HB9.out)) ?_
              clear hK K
              try simp only [Act.put, List.setIfInBounds_toArray, List.set_cons_zero, List.set_cons_succ]
              clear hS
              have hS := HXY.out _ HB9.out
              refine U_one 12 (by kernel_rfl) rfl rfl (fun K hK => ?_)
              go_simp
              refine hK _ _ (fun h => absurd h (by decide)) ?_
              clear hK K
              try simp only [Act.put, List.setIfInBounds_toArray, List.set_cons_zero, List.set_cons_succ]
              refine U_done (by kernel_rfl) ?_ _
              simp only [Calm, Exit.then]
              clear hS
              go_wp2_with fail
              go_roundw
              case rel => exact ⟨t + 1, by go_num, HLT.out, by rw [HTK.out, List.length_append]; exact HO9.out, HB9.out⟩
              case measure => have := HLT.out; simp [intOf]; omega
            · obtain rfl : t = k := by omega
              have HF := Lib.hid (show prsL h false a b = prsK false a b t from by unfold prsL; rw [if_pos HE0.out, HKN.out])
              clear hlt ht
              go_wp2_with fail
              go_ret2
              exact ⟨_, by rw [HE0.out]; rfl, by rw [HF.out]; exact HO.out, HB.out⟩
end
end Go.Proofs.YtblekggklimpeaaGreatDoor
