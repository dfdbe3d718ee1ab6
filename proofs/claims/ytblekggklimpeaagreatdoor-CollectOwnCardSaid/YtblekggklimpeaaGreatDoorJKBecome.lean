/- Become and Forward. Printed by wip/src/XKBecome.py. -/
/- Forward. Printed by wip/src/XKBecome.py. -/
import Derived.Test.YtblekggklimpeaaGreatDoorJKRenP
import Derived.Test.YtblekggklimpeaaGreatDoorJKEntry
import Derived.Test.YtblekggklimpeaaGreatDoorJUntil
import Derived.Sort.CutIn
set_option linter.unusedVariables false
set_option linter.unusedSimpArgs false
set_option linter.unusedSectionVars false
namespace Go.Proofs.YtblekggklimpeaaGreatDoor
open Go.RowKit Go.Sort
attribute [local go_sem] Oper.semAt_some
theorem readsB2 (w : World) (t : TypeId) (a b : Value) : Reads (w.alloc (.cells #[a, b] t)) (w.alloc (.cells #[a, b] t)).heap.size 1 (some ⟨w.heap.size, 0, none⟩) 2 [a, b] := by
  have B := Blk.new w t #[a, b]
  refine ⟨rfl, fun _ => ⟨_, rfl, B.lt, fun j u hu => ?_⟩⟩
  match j with
  | 0 => exact (B.cell 0).trans hu
  | 1 => exact (B.cell 1).trans hu
  | j + 2 => cases hu
theorem readsB1 (w : World) (t : TypeId) (a : Value) : Reads (w.alloc (.cells #[a] t)) (w.alloc (.cells #[a] t)).heap.size 1 (some ⟨w.heap.size, 0, none⟩) 1 [a] := by
  have B := Blk.new w t #[a]
  refine ⟨rfl, fun _ => ⟨_, rfl, B.lt, fun j u hu => ?_⟩⟩
  match j with
  | 0 => exact (B.cell 0).trans hu
  | j + 1 => cases hu
/-- What a deed leaves: its answer, and the heap. -/
def DeedP (p : HP) (E : Nat) (h' : HM) (l' : List Ob) (w : World) (e : Ending) (w' : World) : Prop := e = .returned (.int .i64 (E : Nat)) ∧ HAt w' p h' ∧ h'.Good l' ∧ Step p p w w'
/-- The pairs of a forwarding, and what it answers and leaves. -/
def pairsF (a b : List Nat) : List (Nat × Nat) := a.zip b
theorem pairsF_take {a b : List Nat} {k : Nat} (ha : k < a.length) (hb : k < b.length) : pairsF (a.take (k + 1)) (b.take (k + 1)) = pairsF (a.take k) (b.take k) ++ [(a[k], b[k])] := zip_take_succ ha hb
def fwdE (h : HM) (a b : List Nat) : Nat := if fitsE h a b = 0 then (if a.Nodup then 0 else 30) else fitsE h a b
def fwdH (h : HM) (l : List Ob) (a b : List Nat) : HM := if fwdE h a b = 0 then renH (renO (pairsF a b)) h l else h
def fwdL (h : HM) (l : List Ob) (a b : List Nat) : List Ob := if fwdE h a b = 0 then l.map (ren (renO (pairsF a b))) else l
theorem fwd_keys {a b : List Nat} (hnd : a.Nodup) {k : Nat} (ha : k < a.length) : a[k] ∉ (pairsF (a.take k) (b.take k)).map (·.1) := by
  intro h
  obtain ⟨q, hq, e⟩ := List.mem_map.1 h
  have h1 := (List.of_mem_zip hq).1
  rw [e] at h1
  have := (List.take_sublist (k + 1) a).nodup hnd
  rw [List.take_add_one, List.getElem?_eq_getElem ha, List.nodup_append] at this
  exact this.2.2 _ h1 _ (by simp) rfl
theorem keep_cell {W W' : World} {m : Nat} (hg : W.grownBy W' (some m)) {p : Addr} (h1 : p.block < W.heap.size) (h2 : p.block ≠ m) {v : Value} (hc : W.cell? p = some v) : W'.cell? p = some v :=
  (World.cell?_of_block (hg.block p.block h1 (fun e => h2 (by injection e)))).trans hc
theorem take_self {α : Type} (l : List α) : l.take l.length = l := List.take_length
section
variable {w : World} {p : HP} {h : HM} {l : List Ob} {A A' : Option Addr} {n c n' c' : Nat} {a b : List Nat}
set_option maxRecDepth 100000 in
set_option maxHeartbeats 8000000 in
theorem become_any (H : HAt w p h) (G : h.Good l) (hs : Spares w) (hfar : Far p) (ha : Reads w w.heap.size 1 A n (u32s a)) (hb : Reads w w.heap.size 1 A' n' (u32s b)) (hn : n ≤ 100000000000000) (hn' : n' ≤ 100000000000000) (ha32 : ∀ x ∈ a, x < 4294967296) (hb32 : ∀ x ∈ b, x < 4294967296) :
    Calls Tryz.prog 9 #[ptr p.g, .slice A n c, .slice A' n' c'] w (DeedP p (becE h a b) (becH h l a b) (becL h l a b) w) := by
  have la : a.length = n := by have := ha.1; rw [u32s_len] at this; omega
  have lb : b.length = n' := by have := hb.1; rw [u32s_len] at this; omega
  have HFT := Lib.hid (fits_any (c := c) (c' := c') H G.fit ha hb (by omega) (by omega) ha32 hb32)
  have HH := Lib.hid (And.intro H (And.intro G (And.intro hs hfar)))
  have HRD := Lib.hid (fun (w' : World) (hbw : Below w.heap.size w w') => And.intro (ha.below hbw) (hb.below hbw))
  have H32 := Lib.hid (And.intro ha32 hb32)
  have HFO := Lib.hid (fun hf => fits_ok (h := h) (a := a) (b := b) hf)
  have HE := Lib.hid (show becE h a b = if fitsE h a b = 0 then (if (a ++ b).Nodup then 0 else 30) else fitsE h a b from rfl)
  have hsz := World.size_alloc w (.cells #[.slice A n c, .slice A' n' c'] 23)
  have HTW := Lib.hid (twice_any (w := w.alloc (.cells #[.slice A n c, .slice A' n' c'] 23)) (A := some ⟨w.heap.size, 0, none⟩) (c := 2) (rs := [⟨A, n, c, a⟩, ⟨A', n', c', b⟩]) (readsB2 w _ (.slice A n c) (.slice A' n' c')) (by
      have hB := (Below.refl w.heap.size w).alloc (Nat.le_refl _) (.cells #[.slice A n c, .slice A' n' c'] 23)
      intro r hr
      simp only [List.mem_cons, List.not_mem_nil, or_false] at hr
      rcases hr with rfl | rfl
      · exact ⟨(ha.below hB).more hB.size, by show n ≤ _; omega, ha32⟩
      · exact ⟨(hb.below hB).more hB.size, by show n' ≤ _; omega, hb32⟩) (by simp) (by simp [allX]; omega))
  rw [show allX [⟨A, n, c, a⟩, ⟨A', n', c', b⟩] = a ++ b from by simp [allX]] at HTW
  have HLN := Lib.hid (And.intro la lb)
  clear H G hs hfar ha hb ha32 hb32 la lb
  have hmm := @run_makeMap Tryz.prog
  unfold ptr at HFT ⊢
  generalize fitsE h a b = fe at *
  go_enter Tryz.func9, Tryz.ntmps9
  go_wp2_with fail
  refine HFT.out.mono ?_
  rintro e w1 ⟨rfl, rfl⟩
  by_cases hfe : fe = 0
  rotate_left
  · have hne : ((fe : Int) != 0) = true := by simp; omega
    have HF := Lib.hid (show DeedP p (becE h a b) (becH h l a b) (becL h l a b) w (.returned (.int .i64 (fe : Int))) w from by
      have he := HE.out
      rw [if_neg hfe] at he
      unfold becH becL
      rw [if_neg (by omega), if_neg (by omega), he]
      exact ⟨rfl, HH.out.1, HH.out.2.1, Step.refl _ _⟩)
    clear hfe
    go_wp2_with fail
    go_ret
    exact HF.out
  subst hfe
  obtain ⟨hlen, hia, hib⟩ := HFO.out rfl
  have HI := Lib.hid (And.intro hia hib)
  obtain rfl : n' = n := by have := HLN.out; omega
  have HLL := Lib.hid hlen
  clear hia hib hlen
  rw [if_pos rfl] at HE
  simp only [List.length_cons, List.length_nil] at HTW
  go_wp2_with fail
  refine HTW.out.mono ?_
  rintro e w2 ⟨rfl, hb2⟩
  have HB2 := Lib.hid (show Below w.heap.size w w2 from ((Below.refl w.heap.size w).alloc (Nat.le_refl _) (.cells #[.slice A n' c, .slice A' n' c'] 23)).trans (hb2.mono (by omega)))
  clear hb2
  by_cases hnd : (a ++ b).Nodup
  rotate_left
  · have HF := Lib.hid (show DeedP p (becE h a b) (becH h l a b) (becL h l a b) w (.returned (.int .i64 ((30 : Nat) : Int))) w2 from by
      have he := HE.out
      rw [if_neg hnd] at he
      unfold becH becL
      rw [if_neg (by omega), if_neg (by omega), he]
      exact ⟨rfl, HH.out.1.below HB2.out, HH.out.2.1, .of_below HB2.out⟩)
    rw [show decide (¬ (a ++ b).Nodup) = true from decide_eq_true hnd]
    clear hnd
    go_wp2_with fail
    go_ret
    exact HF.out
  rw [show decide (¬ (a ++ b).Nodup) = false from decide_eq_false (fun e => e hnd)]
  rw [if_pos hnd] at HE
  have HND := Lib.hid hnd
  clear hnd
  have HM0 := Lib.hid (show MapR (w2.alloc (.map #[] 0)) w2.heap.size 0 [] ∧ Below w2.heap.size w2 (w2.alloc (.map #[] 0)) from ⟨(MapE.made w2 _ _ _).ext (fun x => rfl) (fun x => by simp), (Below.refl _ _).alloc (Nat.le_refl _) _⟩)
  go_upto_region 8 with fail
  generalize w2.alloc (.map #[] 0) = w3 at *
  clear hmm
  go_loopw [24] (fun iv wr => ∃ k : Nat, iv = .int .i64 k ∧ k ≤ n' ∧ MapR wr w2.heap.size (2 * k) (pairsB (a.take k) (b.take k)) ∧ Below w2.heap.size w2 wr) (fun iv _ => n' - (intOf iv).toNat)
  case atStart => exact ⟨0, rfl, Nat.zero_le _, HM0.out.1, HM0.out.2⟩
  case round =>
    obtain ⟨k, rfl, hk, hmr, hbr⟩ := hrel
    have HMR := Lib.hid hmr
    have HBR := Lib.hid hbr
    clear hmr hbr
    by_cases hlt : k < n'
    · have hbw : Below w.heap.size w wr := HB2.out.trans (HBR.out.mono HB2.out.size)
      obtain ⟨ra, rb⟩ := HRD.out wr hbw
      have hka : k < a.length := by have := HLN.out; omega
      have hkb : k < b.length := by have := HLN.out; omega
      obtain ⟨ada, u, rfl, hba, hu, hca⟩ := ra.at_ hlt
      obtain ⟨x, hx, rfl⟩ := u32s_at hu
      obtain ⟨adb, u, rfl, hbb, hu2, hcb⟩ := rb.at_ hlt
      obtain ⟨y, hy, rfl⟩ := u32s_at hu2
      have hx32 : x < 4294967296 := H32.out.1 x (List.mem_of_getElem? hx)
      have hy32 : y < 4294967296 := H32.out.2 y (List.mem_of_getElem? hy)
      obtain rfl : a[k] = x := by rw [List.getElem?_eq_getElem hka] at hx; exact Option.some.inj hx
      obtain rfl : b[k] = y := by rw [List.getElem?_eq_getElem hkb] at hy; exact Option.some.inj hy
      have HKY := Lib.hid (bec_keys HND.out hka hkb)
      have HTK := Lib.hid (pairsB_take hka hkb)
      generalize a[k] = x at *
      generalize b[k] = y at *
      have HLT := Lib.hid hlt
      clear hx hy hu hu2 ra rb hka hkb
      go_upto_region 10 with fail
      refine wp_region_U 23 (fun w' => w'.cell? (ada.add k) = some (.int .u32 (x : Int)) ∧ w'.cell? (adb.add k) = some (.int .u32 (y : Int))) (by kernel_rfl) ?_
      have HBQ := Lib.hid (show Below w2.heap.size w2 wr.drew from below_drew HBR.out)
      have hmq := HMR.out.below (below_drew (Below.refl wr.heap.size wr))
      have hS : (wr.drew.cell? (ada.add k) = some (.int .u32 (x : Int)) ∧ wr.drew.cell? (adb.add k) = some (.int .u32 (y : Int))) := ⟨hca, hcb⟩
      clear hca hcb HMR hbw
      generalize wr.drew = wq at *
      obtain ⟨v1, s1, Wa, Wb, hE1, hga, hE2, hmb, hgb⟩ := MapE.entry hmq tyOO (x := x) (v := (y : Int)) hx32 (wf_u32 hy32) (by omega)
      obtain ⟨v2, s2, Wc, Wd, hE3, hgc, hE4, hmd, hgd⟩ := MapE.entry (MapR.put (w := wq) HKY.out.1 hmb) tyOO (x := y) (v := (x : Int)) hy32 (wf_u32 hx32) (by omega)
      have HMD := Lib.hid (show MapR Wd w2.heap.size (2 * (k + 1)) (pairsB (a.take (k + 1)) (b.take (k + 1))) ∧ Below w2.heap.size w2 Wd from ⟨by
        rw [HTK.out]
        exact MapR.put (w := wq) HKY.out.2 hmd, (HBQ.out.grown hgb HBQ.out.size (fun q e => by injection e with e; omega)).grown hgd (Nat.le_trans HBQ.out.size hgb.size) (fun q e => by injection e with e; omega)⟩)
      have HSK := Lib.hid (fun (W W' : World) (hg : W.grownBy W' (some w2.heap.size)) (hz : w2.heap.size ≤ W.heap.size) (hc : W.cell? (ada.add k) = some (.int .u32 (x : Int)) ∧ W.cell? (adb.add k) = some (.int .u32 (y : Int))) => show W'.cell? (ada.add k) = some (.int .u32 (x : Int)) ∧ W'.cell? (adb.add k) = some (.int .u32 (y : Int)) from
        ⟨keep_cell hg (by rw [block_of_add]; have := HB2.out.size; omega) (by rw [block_of_add]; have := HB2.out.size; omega) hc.1, keep_cell hg (by rw [block_of_add]; have := HB2.out.size; omega) (by rw [block_of_add]; have := HB2.out.size; omega) hc.2⟩)
      have hSa := HSK.out wq Wa hga HBQ.out.size hS
      have hSb := HSK.out wq Wb hgb HBQ.out.size hS
      have hSc := HSK.out Wb Wc hgc (Nat.le_trans HBQ.out.size hgb.size) hSb
      have HS1 := Lib.hid hSa
      have HS2 := Lib.hid hSb
      have HS3 := Lib.hid hSc
      clear hSa hSb hSc hmb hgb hgc hmd hgd hga hmq HBQ
      refine U_read 0 (v := (.map (some w2.heap.size))) rfl (by kernel_rfl) (fun _ _ _ h => h) hS (by rfl) (fun w' hw' => by obtain ⟨h0, h1⟩ := hw'; go_simp) ?_
      try simp only [Act.put, List.setIfInBounds_toArray, List.set_cons_zero, List.set_cons_succ]
      refine U_read 1 (v := (.slice (some ada) n' c)) rfl (by kernel_rfl) (fun _ _ _ h => h) hS (by rfl) (fun w' hw' => by obtain ⟨h0, h1⟩ := hw'; go_simp) ?_
      try simp only [Act.put, List.setIfInBounds_toArray, List.set_cons_zero, List.set_cons_succ]
      refine U_read 2 (v := (.int .i64 (k : Int))) rfl (by kernel_rfl) (fun _ _ _ h => h) hS (by rfl) (fun w' hw' => by obtain ⟨h0, h1⟩ := hw'; go_simp) ?_
      try simp only [Act.put, List.setIfInBounds_toArray, List.set_cons_zero, List.set_cons_succ]
      refine U_read 3 (v := (.pointer (some (ada.add k)))) rfl (by kernel_rfl) (fun _ _ _ h => h) hS (by rfl) (fun w' hw' => by obtain ⟨h0, h1⟩ := hw'; go_simp) ?_
      try simp only [Act.put, List.setIfInBounds_toArray, List.set_cons_zero, List.set_cons_succ]
      refine U_read 4 (v := (.int .u32 (x : Int))) rfl (by kernel_rfl) (fun _ _ _ h => h) hS (by rfl) (fun w' hw' => by obtain ⟨h0, h1⟩ := hw'; go_simp) ?_
      try simp only [Act.put, List.setIfInBounds_toArray, List.set_cons_zero, List.set_cons_succ]
      refine U_read 5 (v := (.map (some w2.heap.size))) rfl (by kernel_rfl) (fun _ _ _ h => h) hS (by rfl) (fun w' hw' => by obtain ⟨h0, h1⟩ := hw'; go_simp) ?_
      try simp only [Act.put, List.setIfInBounds_toArray, List.set_cons_zero, List.set_cons_succ]
      refine U_read 6 (v := (.slice (some adb) n' c')) rfl (by kernel_rfl) (fun _ _ _ h => h) hS (by rfl) (fun w' hw' => by obtain ⟨h0, h1⟩ := hw'; go_simp) ?_
      try simp only [Act.put, List.setIfInBounds_toArray, List.set_cons_zero, List.set_cons_succ]
      refine U_read 7 (v := (.int .i64 (k : Int))) rfl (by kernel_rfl) (fun _ _ _ h => h) hS (by rfl) (fun w' hw' => by obtain ⟨h0, h1⟩ := hw'; go_simp) ?_
      try simp only [Act.put, List.setIfInBounds_toArray, List.set_cons_zero, List.set_cons_succ]
      refine U_read 8 (v := (.pointer (some (adb.add k)))) rfl (by kernel_rfl) (fun _ _ _ h => h) hS (by rfl) (fun w' hw' => by obtain ⟨h0, h1⟩ := hw'; go_simp) ?_
      try simp only [Act.put, List.setIfInBounds_toArray, List.set_cons_zero, List.set_cons_succ]
      refine U_read 9 (v := (.int .u32 (y : Int))) rfl (by kernel_rfl) (fun _ _ _ h => h) hS (by rfl) (fun w' hw' => by obtain ⟨h0, h1⟩ := hw'; go_simp) ?_
      try simp only [Act.put, List.setIfInBounds_toArray, List.set_cons_zero, List.set_cons_succ]
      refine U_read 10 (v := (.slice (some adb) n' c')) rfl (by kernel_rfl) (fun _ _ _ h => h) hS (by rfl) (fun w' hw' => by obtain ⟨h0, h1⟩ := hw'; go_simp) ?_
      try simp only [Act.put, List.setIfInBounds_toArray, List.set_cons_zero, List.set_cons_succ]
      refine U_read 11 (v := (.int .i64 (k : Int))) rfl (by kernel_rfl) (fun _ _ _ h => h) hS (by rfl) (fun w' hw' => by obtain ⟨h0, h1⟩ := hw'; go_simp) ?_
      try simp only [Act.put, List.setIfInBounds_toArray, List.set_cons_zero, List.set_cons_succ]
      refine U_read 12 (v := (.pointer (some (adb.add k)))) rfl (by kernel_rfl) (fun _ _ _ h => h) hS (by rfl) (fun w' hw' => by obtain ⟨h0, h1⟩ := hw'; go_simp) ?_
      try simp only [Act.put, List.setIfInBounds_toArray, List.set_cons_zero, List.set_cons_succ]
      refine U_read 13 (v := (.int .u32 (y : Int))) rfl (by kernel_rfl) (fun _ _ _ h => h) hS (by rfl) (fun w' hw' => by obtain ⟨h0, h1⟩ := hw'; go_simp) ?_
      try simp only [Act.put, List.setIfInBounds_toArray, List.set_cons_zero, List.set_cons_succ]
      refine U_read 14 (v := (.slice (some ada) n' c)) rfl (by kernel_rfl) (fun _ _ _ h => h) hS (by rfl) (fun w' hw' => by obtain ⟨h0, h1⟩ := hw'; go_simp) ?_
      try simp only [Act.put, List.setIfInBounds_toArray, List.set_cons_zero, List.set_cons_succ]
      refine U_read 15 (v := (.int .i64 (k : Int))) rfl (by kernel_rfl) (fun _ _ _ h => h) hS (by rfl) (fun w' hw' => by obtain ⟨h0, h1⟩ := hw'; go_simp) ?_
      try simp only [Act.put, List.setIfInBounds_toArray, List.set_cons_zero, List.set_cons_succ]
      refine U_read 16 (v := (.pointer (some (ada.add k)))) rfl (by kernel_rfl) (fun _ _ _ h => h) hS (by rfl) (fun w' hw' => by obtain ⟨h0, h1⟩ := hw'; go_simp) ?_
      try simp only [Act.put, List.setIfInBounds_toArray, List.set_cons_zero, List.set_cons_succ]
      refine U_read 17 (v := (.int .u32 (x : Int))) rfl (by kernel_rfl) (fun _ _ _ h => h) hS (by rfl) (fun w' hw' => by obtain ⟨h0, h1⟩ := hw'; go_simp) ?_
      try simp only [Act.put, List.setIfInBounds_toArray, List.set_cons_zero, List.set_cons_succ]
      refine U_one 18 (by kernel_rfl) rfl rfl (fun K hK => ?_)
      go_simp
      refine hK _ _ (fun _ => HS1.out) ?_
      clear hK K
      try simp only [Act.put, List.setIfInBounds_toArray, List.set_cons_zero, List.set_cons_succ]
      clear hS
      have hS := HS1.out
      refine U_read 19 (v := (.int .i64 (s1 : Nat))) rfl (by kernel_rfl) (fun _ _ _ h => h) hS (by rfl) (fun w' hw' => by obtain ⟨h0, h1⟩ := hw'; go_simp) ?_
      try simp only [Act.put, List.setIfInBounds_toArray, List.set_cons_zero, List.set_cons_succ]
      refine U_one 20 (by kernel_rfl) rfl rfl (fun K hK => ?_)
      go_simp
      refine hK _ _ (fun _ => HS2.out) ?_
      clear hK K
      try simp only [Act.put, List.setIfInBounds_toArray, List.set_cons_zero, List.set_cons_succ]
      clear hS
      have hS := HS2.out
      refine U_one 21 (by kernel_rfl) rfl rfl (fun K hK => ?_)
      go_simp
      refine hK _ _ (fun _ => HS3.out) ?_
      clear hK K
      try simp only [Act.put, List.setIfInBounds_toArray, List.set_cons_zero, List.set_cons_succ]
      clear hS
      have hS := HS3.out
      refine U_read 22 (v := (.int .i64 (s2 : Nat))) rfl (by kernel_rfl) (fun _ _ _ h => h) hS (by rfl) (fun w' hw' => by obtain ⟨h0, h1⟩ := hw'; go_simp) ?_
      try simp only [Act.put, List.setIfInBounds_toArray, List.set_cons_zero, List.set_cons_succ]
      refine U_one 23 (by kernel_rfl) rfl rfl (fun K hK => ?_)
      go_simp
      refine hK _ _ (fun h => absurd h (by decide)) ?_
      clear hK K
      try simp only [Act.put, List.setIfInBounds_toArray, List.set_cons_zero, List.set_cons_succ]
      refine U_done (by kernel_rfl) ?_ _
      simp only [Calm, Exit.then]
      clear hS hE1 hE2 hE3 hE4 HS1 HS2 HS3 HSK
      go_wp2_with fail
      go_roundw
      case rel => exact ⟨k + 1, by go_num, HLT.out, HMD.out.1, HMD.out.2⟩
      case measure => have := HLT.out; simp [intOf]; omega
    · obtain rfl : k = n' := by omega
      have hbw : Below w.heap.size w wr := HB2.out.trans (HBR.out.mono HB2.out.size)
      have hta : a.take k = a := List.take_of_length_le (by have := HLN.out; omega)
      have htb : b.take k = b := List.take_of_length_le (by have := HLN.out; omega)
      have hmr := HMR.out
      rw [hta, htb] at hmr
      have HRE := Lib.hid (rename_any (HH.out.1.below hbw) HH.out.2.1 (HH.out.2.2.1.below hbw) HH.out.2.2.2 hmr (renOk_of HH.out.2.1 (fun q hq => by
        rcases pairsB_mem hq with e | e
        · exact List.all_eq_true.1 (List.all_eq_true.2 HI.out.2) _ e.2
        · exact HI.out.1 _ e.2)))
      have HF := Lib.hid (fun (w' : World) (H' : HAt w' p (renH (renO (pairsB a b)) h l)) (G' : (renH (renO (pairsB a b)) h l).Good (l.map (ren (renO (pairsB a b))))) (S' : Step p p wr w') => show DeedP p (becE h a b) (becH h l a b) (becL h l a b) w (.returned (.int .i64 ((0 : Nat) : Int))) w' from by
        have he := HE.out
        unfold becH becL
        rw [if_pos he, if_pos he, he]
        exact ⟨rfl, H', G', (Step.of_below hbw).trans S'⟩)
      unfold ptr at HRE
      clear hta htb hmr hbw hlt hk HMR HBR
      go_wp2_with fail
      refine HRE.out.mono ?_
      rintro e w5 ⟨⟨v, rfl⟩, H5, G5, S5⟩
      have HF5 := Lib.hid (HF.out w5 H5 G5 S5)
      clear H5 G5 S5 HF
      go_wp2_with fail
      go_ret
      exact HF5.out
end
end Go.Proofs.YtblekggklimpeaaGreatDoor

namespace Go.Proofs.YtblekggklimpeaaGreatDoor
open Go.RowKit Go.Sort
attribute [local go_sem] Oper.semAt_some
section
variable {w : World} {p : HP} {h : HM} {l : List Ob} {A A' : Option Addr} {n c n' c' : Nat} {a b : List Nat}
set_option maxRecDepth 100000 in
set_option maxHeartbeats 8000000 in
theorem forward_any (H : HAt w p h) (G : h.Good l) (hs : Spares w) (hfar : Far p) (ha : Reads w w.heap.size 1 A n (u32s a)) (hb : Reads w w.heap.size 1 A' n' (u32s b)) (hn : n ≤ 100000000000000) (hn' : n' ≤ 100000000000000) (ha32 : ∀ x ∈ a, x < 4294967296) (hb32 : ∀ x ∈ b, x < 4294967296) :
    Calls Tryz.prog 12 #[ptr p.g, .slice A n c, .slice A' n' c'] w (DeedP p (fwdE h a b) (fwdH h l a b) (fwdL h l a b) w) := by
  have la : a.length = n := by have := ha.1; rw [u32s_len] at this; omega
  have lb : b.length = n' := by have := hb.1; rw [u32s_len] at this; omega
  have HFT := Lib.hid (fits_any (c := c) (c' := c') H G.fit ha hb (by omega) (by omega) ha32 hb32)
  have HH := Lib.hid (And.intro H (And.intro G (And.intro hs hfar)))
  have HRD := Lib.hid (fun (w' : World) (hbw : Below w.heap.size w w') => And.intro (ha.below hbw) (hb.below hbw))
  have H32 := Lib.hid (And.intro ha32 hb32)
  have HFO := Lib.hid (fun hf => fits_ok (h := h) (a := a) (b := b) hf)
  have HE := Lib.hid (show fwdE h a b = if fitsE h a b = 0 then (if a.Nodup then 0 else 30) else fitsE h a b from rfl)
  have hsz := World.size_alloc w (.cells #[.slice A n c] 23)
  have HTW := Lib.hid (twice_any (w := w.alloc (.cells #[.slice A n c] 23)) (A := some ⟨w.heap.size, 0, none⟩) (c := 1) (rs := [⟨A, n, c, a⟩]) (readsB1 w _ (.slice A n c)) (by
      have hB := (Below.refl w.heap.size w).alloc (Nat.le_refl _) (.cells #[.slice A n c] 23)
      intro r hr
      simp only [List.mem_cons, List.not_mem_nil, or_false] at hr
      subst hr
      exact ⟨(ha.below hB).more hB.size, by show n ≤ _; omega, ha32⟩) (by simp) (by simp [allX]; omega))
  rw [show allX [⟨A, n, c, a⟩] = a from by simp [allX]] at HTW
  have HLN := Lib.hid (And.intro la lb)
  clear H G hs hfar ha hb ha32 hb32 la lb
  have hmm := @run_makeMap Tryz.prog
  unfold ptr at HFT ⊢
  generalize fitsE h a b = fe at *
  go_enter Tryz.func12, Tryz.ntmps12
  go_wp2_with fail
  refine HFT.out.mono ?_
  rintro e w1 ⟨rfl, rfl⟩
  by_cases hfe : fe = 0
  rotate_left
  · have hne : ((fe : Int) != 0) = true := by simp; omega
    have HF := Lib.hid (show DeedP p (fwdE h a b) (fwdH h l a b) (fwdL h l a b) w (.returned (.int .i64 (fe : Int))) w from by
      have he := HE.out
      rw [if_neg hfe] at he
      unfold fwdH fwdL
      rw [if_neg (by omega), if_neg (by omega), he]
      exact ⟨rfl, HH.out.1, HH.out.2.1, Step.refl _ _⟩)
    clear hfe
    go_wp2_with fail
    go_ret
    exact HF.out
  subst hfe
  obtain ⟨hlen, hia, hib⟩ := HFO.out rfl
  have HI := Lib.hid (And.intro hia hib)
  obtain rfl : n' = n := by have := HLN.out; omega
  have HLL := Lib.hid hlen
  clear hia hib hlen
  rw [if_pos rfl] at HE
  simp only [List.length_cons, List.length_nil] at HTW
  go_wp2_with fail
  refine HTW.out.mono ?_
  rintro e w2 ⟨rfl, hb2⟩
  have HB2 := Lib.hid (show Below w.heap.size w w2 from ((Below.refl w.heap.size w).alloc (Nat.le_refl _) (.cells #[.slice A n' c] 23)).trans (hb2.mono (by omega)))
  clear hb2
  by_cases hnd : a.Nodup
  rotate_left
  · have HF := Lib.hid (show DeedP p (fwdE h a b) (fwdH h l a b) (fwdL h l a b) w (.returned (.int .i64 ((30 : Nat) : Int))) w2 from by
      have he := HE.out
      rw [if_neg hnd] at he
      unfold fwdH fwdL
      rw [if_neg (by omega), if_neg (by omega), he]
      exact ⟨rfl, HH.out.1.below HB2.out, HH.out.2.1, .of_below HB2.out⟩)
    rw [show decide (¬ a.Nodup) = true from decide_eq_true hnd]
    clear hnd
    go_wp2_with fail
    go_ret
    exact HF.out
  rw [show decide (¬ a.Nodup) = false from decide_eq_false (fun e => e hnd)]
  rw [if_pos hnd] at HE
  have HND := Lib.hid hnd
  clear hnd
  have HM0 := Lib.hid (show MapR (w2.alloc (.map #[] 0)) w2.heap.size 0 [] ∧ Below w2.heap.size w2 (w2.alloc (.map #[] 0)) from ⟨(MapE.made w2 _ _ _).ext (fun x => rfl) (fun x => by simp), (Below.refl _ _).alloc (Nat.le_refl _) _⟩)
  go_upto_region 8 with fail
  generalize w2.alloc (.map #[] 0) = w3 at *
  clear hmm
  go_loopw [23] (fun iv wr => ∃ k : Nat, iv = .int .i64 k ∧ k ≤ n' ∧ MapR wr w2.heap.size (1 * k) (pairsF (a.take k) (b.take k)) ∧ Below w2.heap.size w2 wr) (fun iv _ => n' - (intOf iv).toNat)
  case atStart => exact ⟨0, rfl, Nat.zero_le _, HM0.out.1, HM0.out.2⟩
  case round =>
    obtain ⟨k, rfl, hk, hmr, hbr⟩ := hrel
    have HMR := Lib.hid hmr
    have HBR := Lib.hid hbr
    clear hmr hbr
    by_cases hlt : k < n'
    · have hbw : Below w.heap.size w wr := HB2.out.trans (HBR.out.mono HB2.out.size)
      obtain ⟨ra, rb⟩ := HRD.out wr hbw
      have hka : k < a.length := by have := HLN.out; omega
      have hkb : k < b.length := by have := HLN.out; omega
      obtain ⟨ada, u, rfl, hba, hu, hca⟩ := ra.at_ hlt
      obtain ⟨x, hx, rfl⟩ := u32s_at hu
      obtain ⟨adb, u, rfl, hbb, hu2, hcb⟩ := rb.at_ hlt
      obtain ⟨y, hy, rfl⟩ := u32s_at hu2
      have hx32 : x < 4294967296 := H32.out.1 x (List.mem_of_getElem? hx)
      have hy32 : y < 4294967296 := H32.out.2 y (List.mem_of_getElem? hy)
      obtain rfl : a[k] = x := by rw [List.getElem?_eq_getElem hka] at hx; exact Option.some.inj hx
      obtain rfl : b[k] = y := by rw [List.getElem?_eq_getElem hkb] at hy; exact Option.some.inj hy
      have HKY := Lib.hid (fwd_keys (b := b) HND.out hka)
      have HTK := Lib.hid (pairsF_take hka hkb)
      generalize a[k] = x at *
      generalize b[k] = y at *
      have HLT := Lib.hid hlt
      clear hx hy hu hu2 ra rb hka hkb
      go_upto_region 10 with fail
      refine wp_region_U 9 (fun w' => w'.cell? (ada.add k) = some (.int .u32 (x : Int)) ∧ w'.cell? (adb.add k) = some (.int .u32 (y : Int))) (by kernel_rfl) ?_
      have HBQ := Lib.hid (show Below w2.heap.size w2 wr.drew from below_drew HBR.out)
      have hmq := HMR.out.below (below_drew (Below.refl wr.heap.size wr))
      have hS : (wr.drew.cell? (ada.add k) = some (.int .u32 (x : Int)) ∧ wr.drew.cell? (adb.add k) = some (.int .u32 (y : Int))) := ⟨hca, hcb⟩
      clear hca hcb HMR hbw
      generalize wr.drew = wq at *
      obtain ⟨Wa, hE1, hma, hga⟩ := MapE.put hmq tyOO (x := x) (v := (y : Int)) hx32 (wf_u32 hy32) (by omega)
      have HMD := Lib.hid (show MapR Wa w2.heap.size (1 * (k + 1)) (pairsF (a.take (k + 1)) (b.take (k + 1))) ∧ Below w2.heap.size w2 Wa from ⟨by
        rw [HTK.out, Nat.one_mul]
        rw [Nat.one_mul] at hma
        exact MapR.put (w := wq) HKY.out hma, HBQ.out.grown hga HBQ.out.size (fun q e => by injection e with e; omega)⟩)
      clear hma hga hmq HBQ
      refine U_read 0 (v := (.map (some w2.heap.size))) rfl (by kernel_rfl) (fun _ _ _ h => h) hS (by rfl) (fun w' hw' => by obtain ⟨h0, h1⟩ := hw'; go_simp) ?_
      try simp only [Act.put, List.setIfInBounds_toArray, List.set_cons_zero, List.set_cons_succ]
      refine U_readC 1 [3, 4, 9] (v := (.slice (some ada) n' c)) rfl (by kernel_rfl) (fun _ _ _ h => h) hS (by rfl) (fun w' hw' => by obtain ⟨h0, h1⟩ := hw'; go_simp) ?_
      try simp only [Act.put, List.setIfInBounds_toArray, List.set_cons_zero, List.set_cons_succ]
      refine U_readC 2 [3, 4, 9] (v := (.int .i64 (k : Int))) rfl (by kernel_rfl) (fun _ _ _ h => h) hS (by rfl) (fun w' hw' => by obtain ⟨h0, h1⟩ := hw'; go_simp) ?_
      try simp only [Act.put, List.setIfInBounds_toArray, List.set_cons_zero, List.set_cons_succ]
      refine U_readC 3 [4, 9] (v := (.pointer (some (ada.add k)))) rfl (by kernel_rfl) (fun _ _ _ h => h) hS (by rfl) (fun w' hw' => by obtain ⟨h0, h1⟩ := hw'; go_simp) ?_
      try simp only [Act.put, List.setIfInBounds_toArray, List.set_cons_zero, List.set_cons_succ]
      refine U_read 4 (v := (.int .u32 (x : Int))) rfl (by kernel_rfl) (fun _ _ _ h => h) hS (by rfl) (fun w' hw' => by obtain ⟨h0, h1⟩ := hw'; go_simp) ?_
      try simp only [Act.put, List.setIfInBounds_toArray, List.set_cons_zero, List.set_cons_succ]
      refine U_readC 5 [7, 8, 9] (v := (.slice (some adb) n' c')) rfl (by kernel_rfl) (fun _ _ _ h => h) hS (by rfl) (fun w' hw' => by obtain ⟨h0, h1⟩ := hw'; go_simp) ?_
      try simp only [Act.put, List.setIfInBounds_toArray, List.set_cons_zero, List.set_cons_succ]
      refine U_readC 6 [7, 8, 9] (v := (.int .i64 (k : Int))) rfl (by kernel_rfl) (fun _ _ _ h => h) hS (by rfl) (fun w' hw' => by obtain ⟨h0, h1⟩ := hw'; go_simp) ?_
      try simp only [Act.put, List.setIfInBounds_toArray, List.set_cons_zero, List.set_cons_succ]
      refine U_readC 7 [8, 9] (v := (.pointer (some (adb.add k)))) rfl (by kernel_rfl) (fun _ _ _ h => h) hS (by rfl) (fun w' hw' => by obtain ⟨h0, h1⟩ := hw'; go_simp) ?_
      try simp only [Act.put, List.setIfInBounds_toArray, List.set_cons_zero, List.set_cons_succ]
      refine U_read 8 (v := (.int .u32 (y : Int))) rfl (by kernel_rfl) (fun _ _ _ h => h) hS (by rfl) (fun w' hw' => by obtain ⟨h0, h1⟩ := hw'; go_simp) ?_
      try simp only [Act.put, List.setIfInBounds_toArray, List.set_cons_zero, List.set_cons_succ]
      refine U_one 9 (by kernel_rfl) rfl rfl (fun K hK => ?_)
      go_simp
      refine hK _ _ (fun h => absurd h (by decide)) ?_
      clear hK K
      try simp only [Act.put, List.setIfInBounds_toArray, List.set_cons_zero, List.set_cons_succ]
      refine U_done (by kernel_rfl) ?_ _
      simp only [Calm, Exit.then]
      clear hS hE1
      go_wp2_with fail
      go_roundw
      case rel => exact ⟨k + 1, by go_num, HLT.out, HMD.out.1, HMD.out.2⟩
      case measure => have := HLT.out; simp [intOf]; omega
    · obtain rfl : k = n' := by omega
      have hbw : Below w.heap.size w wr := HB2.out.trans (HBR.out.mono HB2.out.size)
      have hta : a.take k = a := List.take_of_length_le (by have := HLN.out; omega)
      have htb : b.take k = b := List.take_of_length_le (by have := HLN.out; omega)
      have hmr := HMR.out
      rw [hta, htb] at hmr
      have HRE := Lib.hid (rename_any (HH.out.1.below hbw) HH.out.2.1 (HH.out.2.2.1.below hbw) HH.out.2.2.2 hmr (renOk_of HH.out.2.1 (fun q hq => HI.out.2 _ (List.of_mem_zip hq).2)))
      have HF := Lib.hid (fun (w' : World) (H' : HAt w' p (renH (renO (pairsF a b)) h l)) (G' : (renH (renO (pairsF a b)) h l).Good (l.map (ren (renO (pairsF a b))))) (S' : Step p p wr w') => show DeedP p (fwdE h a b) (fwdH h l a b) (fwdL h l a b) w (.returned (.int .i64 ((0 : Nat) : Int))) w' from by
        have he := HE.out
        unfold fwdH fwdL
        rw [if_pos he, if_pos he, he]
        exact ⟨rfl, H', G', (Step.of_below hbw).trans S'⟩)
      unfold ptr at HRE
      clear hta htb hmr hbw hlt hk HMR HBR
      go_wp2_with fail
      refine HRE.out.mono ?_
      rintro e w5 ⟨⟨v, rfl⟩, H5, G5, S5⟩
      have HF5 := Lib.hid (HF.out w5 H5 G5 S5)
      clear H5 G5 S5 HF
      go_wp2_with fail
      go_ret
      exact HF5.out
end
end Go.Proofs.YtblekggklimpeaaGreatDoor
