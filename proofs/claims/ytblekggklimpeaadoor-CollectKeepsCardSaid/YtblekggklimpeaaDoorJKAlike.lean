/- alike: what a collection leaves is alike to what was there. Printed by gw.py from wip/src/XKAlike.src. -/
/- CollectKeeps, walked: it answers true. Printed by wip/src/XKKeepsL.py. -/
import Derived.Test.YtblekggklimpeaaDoorJKAgainM
import Derived.Test.YtblekggklimpeaaDoorJUntil
import Derived.Deep.RegionHeld3
import Derived.BigQuiet
set_option linter.unusedVariables false
set_option linter.unusedSimpArgs false
set_option linter.unusedSectionVars false
namespace Go.Proofs.YtblekggklimpeaaDoor
open Go.RowKit Go.Sort
attribute [local go_sem] Oper.semAt_some
theorem getD_map' {r : Nat → Nat} {L : List Nat} {i : Nat} (hi : i < L.length) : (L.map r).getD i 0 = r (L.getD i 0) := by
  rw [List.getD_eq_getElem?_getD, List.getD_eq_getElem?_getD, List.getElem?_map, List.getElem?_eq_getElem hi]
  rfl
theorem zrow (w : World) (z : Value) (t : TypeId) (n : Nat) (hm : n ≤ maxLen) : Row (w.alloc (.cells (zcells z n) t)) w.heap.size t n (List.replicate n z) :=
  ⟨_, Blk.new w _ _, by simp, hm, by simp [zcells], by simp [zcells]⟩
theorem toTL_nil (go : Nat → Nat) (N : Nat) : u32s (toTL go [] N) = List.replicate N (.int .u32 0) := by
  unfold toTL u32s
  apply List.ext_getElem?
  intro i
  rw [List.getElem?_map, List.getElem?_map, List.getElem?_replicate]
  by_cases hi : i < N
  · rw [List.getElem?_range hi, if_pos hi]; rfl
  · rw [List.getElem?_eq_none (by simpa using hi), if_neg hi]; rfl
theorem bkTL_nil (N : Nat) : bools (bkTL [] N) = List.replicate N (.bool false) := by
  unfold bkTL bools
  apply List.ext_getElem?
  intro i
  rw [List.getElem?_map, List.getElem?_map, List.getElem?_replicate]
  by_cases hi : i < N
  · rw [List.getElem?_range hi, if_pos hi]; rfl
  · rw [List.getElem?_eq_none (by simpa using hi), if_neg hi]; rfl
def akW (w : World) (N M : Nat) : World := ((((((w.alloc (.cells (zcells (.int .u32 0) N) 41)).alloc (.cells #[.slice (some ⟨w.heap.size, 0, none⟩) N N] 23)).alloc (.cells (zcells (.bool false) M) 4)).alloc (.cells #[.slice (some ⟨w.heap.size + 1 + 1, 0, none⟩) M M] 95)).alloc (.cells #[.slice none 0 0] 23)).alloc (.cells #[.slice none 0 0] 23))
def akX (s : Nat) : AkB := ⟨s + 1, s + 1 + 1 + 1, s + 1 + 1 + 1 + 1, s + 1 + 1 + 1 + 1 + 1, s, s + 1 + 1⟩
theorem ak_start (w : World) (go : Nat → Nat) (N M : Nat) (hN : N ≤ 1048577) (hM : M ≤ 1048577) :
    AkAt (akW w N M) w.heap.size (akX w.heap.size) (.slice none 0 0) (.slice none 0 0) (toTL go [] N) (bkTL [] M) [] [] ∧ AkFr w.heap.size w (akW w N M) ∧ w.heap.size ≤ (akW w N M).heap.size := by
  have hb : Below w.heap.size w (akW w N M) := ((((((Below.refl _ w).alloc (Nat.le_refl _) _).alloc (by simp) _).alloc (by simp; omega) _).alloc (by simp; omega) _).alloc (by simp; omega) _).alloc (by simp; omega) _
  refine ⟨⟨?_, ?_, ?_, ?_, ?_, ?_, ⟨rfl, .inl ⟨rfl, rfl⟩⟩, ⟨rfl, .inl ⟨rfl, rfl⟩⟩, by simp [akX]; omega, by simp [akX], by simp [Value.ownBlock], by simp [Value.ownBlock], by simp [Value.ownBlock]⟩, AkFr.of_below (Nat.le_refl _) hb, hb.size⟩
  · rw [toTL_len]
    have b := Blk.new (w.alloc (.cells (zcells (.int .u32 0) N) 41)) 23 #[.slice (some ⟨w.heap.size, 0, none⟩) N N]
    rw [World.size_alloc] at b
    exact (((b.alloc _).alloc _).alloc _).alloc _
  · rw [bkTL_len]
    have b := Blk.new (((w.alloc (.cells (zcells (.int .u32 0) N) 41)).alloc (.cells #[.slice (some ⟨w.heap.size, 0, none⟩) N N] 23)).alloc (.cells (zcells (.bool false) M) 4)) 95 #[.slice (some ⟨w.heap.size + 1 + 1, 0, none⟩) M M]
    rw [World.size_alloc, World.size_alloc, World.size_alloc] at b
    exact (b.alloc _).alloc _
  · have b := Blk.new ((((w.alloc (.cells (zcells (.int .u32 0) N) 41)).alloc (.cells #[.slice (some ⟨w.heap.size, 0, none⟩) N N] 23)).alloc (.cells (zcells (.bool false) M) 4)).alloc (.cells #[.slice (some ⟨w.heap.size + 1 + 1, 0, none⟩) M M] 95)) 23 #[.slice none 0 0]
    rw [World.size_alloc, World.size_alloc, World.size_alloc, World.size_alloc] at b
    exact b.alloc _
  · have b := Blk.new (((((w.alloc (.cells (zcells (.int .u32 0) N) 41)).alloc (.cells #[.slice (some ⟨w.heap.size, 0, none⟩) N N] 23)).alloc (.cells (zcells (.bool false) M) 4)).alloc (.cells #[.slice (some ⟨w.heap.size + 1 + 1, 0, none⟩) M M] 95)).alloc (.cells #[.slice none 0 0] 23)) 23 #[.slice none 0 0]
    rw [World.size_alloc, World.size_alloc, World.size_alloc, World.size_alloc, World.size_alloc] at b
    exact b
  · have r := zrow w (.int .u32 0) 41 N (by simp only [maxLen]; omega)
    rw [toTL_nil, toTL_len]
    refine r.same ?_
    unfold akW
    rw [Below.heap_alloc _ _ _ (by simp [akX]; omega), Below.heap_alloc _ _ _ (by simp [akX]; omega), Below.heap_alloc _ _ _ (by simp [akX]; omega), Below.heap_alloc _ _ _ (by simp [akX]; omega), Below.heap_alloc _ _ _ (by simp [akX])]
  · have r := zrow ((w.alloc (.cells (zcells (.int .u32 0) N) 41)).alloc (.cells #[.slice (some ⟨w.heap.size, 0, none⟩) N N] 23)) (.bool false) 4 M (by simp only [maxLen]; omega)
    rw [bkTL_nil, bkTL_len]
    rw [World.size_alloc, World.size_alloc] at r
    refine r.same ?_
    unfold akW
    rw [Below.heap_alloc _ _ _ (by simp [akX]), Below.heap_alloc _ _ _ (by simp [akX]), Below.heap_alloc _ _ _ (by simp [akX])]
section
variable {W1 W2 w : World} {p q : HP} {gp gq : Nat} {h : HM} {l : List Ob}
set_option maxRecDepth 100000 in
set_option maxHeartbeats 16000000 in
theorem alike_any (Lq : Live W2 w q gq h) (Lp : Live W1 w p gp (colH h l)) (G : h.Good l) {A A' : Option Addr} {n c c' : Nat} (ha : Reads w w.heap.size 1 A n (u32s h.roots)) (hb : Reads w w.heap.size 1 A' n (u32s (colR h l))) :
    Calls Tryd.prog 28 #[.pointer (some ⟨gq, 0, none⟩), .pointer (some ⟨gp, 0, none⟩), .slice A n c, .slice A' n c'] w (fun e w' => e = .returned (.bool true) ∧ Below w.heap.size w w') := by
  have hn : n = h.roots.length := by have := ha.1; rw [u32s_len] at this; omega
  have hn64 : n = 64 := by have := G.fit.roots; omega
  have hwl : h.words.length ≤ 1048576 := by have := G.fit.room; have := G.fit.hi; omega
  have hwl2 : (colH h l).words.length ≤ 1048576 := by have := (col_good G).fit.room; have := (col_good G).fit.hi; omega
  have HG := Lib.hid G
  have HLQ := Lib.hid (fun (w' : World) (hbw : Below w.heap.size w w') => Lq.after hbw)
  have HLP := Lib.hid (fun (w' : World) (hbw : Below w.heap.size w w') => Lp.after hbw)
  have HRD := Lib.hid (fun (w' : World) (hbw : Below w.heap.size w w') => And.intro (ha.below hbw) (hb.below hbw))
  have HT1 := Lib.hid Lq.top
  have HT2 := Lib.hid (fun (w' : World) (hbw : Below w.heap.size w w') => (Lp.after hbw).top)
  have HPK := Lib.hid (fun (X : List Nat) (o : OkX h l X) (p : Nat) (hp : kindM p = 2 → p ∈ liveO h l) => pair_ok G o hp)
  have hm1 := make_oop1 h.words.length hwl
  have hm2 := make_bool1 (colH h l).words.length hwl2
  have HN := Lib.hid (And.intro hn hn64)
  clear ha hb hn hn64 Lq Lp G
  generalize h.words.length = L1 at *
  generalize (colH h l).words.length = L2 at *
  go_enter Tryd.func28, Tryd.ntmps28
  go_wp2_with fail
  refine HT1.out.mono ?_
  rintro e w1 ⟨rfl, rfl⟩
  go_wp2_with fail
  refine (HT2.out _ (((Below.refl _ w).alloc (Nat.le_refl _) _).alloc (by simp) _)).mono ?_
  rintro e w2 ⟨rfl, rfl⟩
  go_upto_region 8 with fail
  obtain ⟨K0, F0, z0⟩ := ak_start w (goesM (planM h l)) (L1 + 1) (L2 + 1) (by omega) (by omega)
  unfold akW at K0 F0 z0
  generalize ((((((w.alloc (.cells (zcells (.int .u32 0) (L1 + 1)) 41)).alloc (.cells #[.slice (some ⟨w.heap.size, 0, none⟩) (L1 + 1) (L1 + 1)] 23)).alloc (.cells (zcells (.bool false) (L2 + 1)) 4)).alloc (.cells #[.slice (some ⟨w.heap.size + 1 + 1, 0, none⟩) (L2 + 1) (L2 + 1)] 95)).alloc (.cells #[.slice none 0 0] 23)).alloc (.cells #[.slice none 0 0] 23)) = w6 at *
  have HK0 := Lib.hid (And.intro K0 F0)
  have HPA := Lib.hid (fun (w' : World) (X : List Nat) (vx vy : Value) (o : OkX h l X) (F : AkFr w.heap.size w w') (K : AkAt w' w.heap.size (akX w.heap.size) vx vy (toTL (goesM (planM h l)) X (L1 + 1)) (bkTL (X.map (goesM (planM h l))) (L2 + 1)) X (X.map (goesM (planM h l)))) (p q : Nat) (hp : p < 4294967296) (hq : q = if kindM p = 2 then goesM (planM h l) p else p) (hl : kindM p = 2 → p ∈ liveO h l) =>
    pair_any K F.low.size hp hq (HPK.out X o p hl) (by omega) (by omega) (o.len HG.out))
  clear K0 F0 hm1 hm2 HT1 HT2 HPK
  go_loopw [14] (fun iv wr => ∃ (i : Nat) (X : List Nat) (vx vy : Value), iv = .int .i64 i ∧ i ≤ n ∧ OkX h l X ∧ AkAt wr w.heap.size (akX w.heap.size) vx vy (toTL (goesM (planM h l)) X (L1 + 1)) (bkTL (X.map (goesM (planM h l))) (L2 + 1)) X (X.map (goesM (planM h l))) ∧ AkFr w.heap.size w wr) (fun iv _ => n - (intOf iv).toNat)
  case atStart => exact ⟨0, [], _, _, rfl, Nat.zero_le _, OkX.nil, HK0.out.1, HK0.out.2⟩
  case round =>
    clear HK0 z0
    obtain ⟨i, X, vx, vy, rfl, hi, hx, hk, hf⟩ := hrel
    have HX := Lib.hid hx
    have HK := Lib.hid hk
    have HF := Lib.hid hf
    clear hx hk hf
    by_cases hlt : i < n
    · obtain ⟨ra, rb⟩ := HRD.out wr HF.out.low
      obtain ⟨ada, u, rfl, hba, hu, hca⟩ := ra.at_ hlt
      obtain ⟨y, hy, rfl⟩ := u32s_at hu
      obtain ⟨adb, u, rfl, hbb, hu2, hcb⟩ := rb.at_ hlt
      obtain ⟨z, hz, rfl⟩ := u32s_at hu2
      have hym := List.mem_of_getElem? hy
      have hy32 : y < 4294967296 := HG.out.fit.r32 y hym
      obtain rfl : whereM (planM h l) y = z := by
        unfold colR at hz
        rw [List.getElem?_map, hy] at hz
        exact Option.some.inj hz
      have HYL := Lib.hid (show kindM y = 2 → y ∈ liveO h l from fun hk2 => live_of_root HG.out hym hk2)
      have HLT := Lib.hid hlt
      have HWH := Lib.hid (show whereM (planM h l) y = if kindM y = 2 then goesM (planM h l) y else y from rfl)
      clear hu hu2 hy hz ra rb hym
      generalize whereM (planM h l) y = z at *
      go_upto_region 10 with fail
      refine wp_region_U 9 (fun w' => w'.cell? (ada.add i) = some (.int .u32 (y : Int)) ∧ w'.cell? (adb.add i) = some (.int .u32 (z : Int))) (by kernel_rfl) ?_
      have hS : wr.drew.cell? (ada.add i) = some (.int .u32 (y : Int)) ∧ wr.drew.cell? (adb.add i) = some (.int .u32 (z : Int)) := ⟨hca, hcb⟩
      have HKq := Lib.hid (HK.out.below (below_drew (Below.refl wr.heap.size wr)))
      have HFq := Lib.hid (HF.out.trans (AkFr.of_below HF.out.low.size (below_drew (Below.refl wr.heap.size wr))))
      clear hca hcb HK HF
      generalize wr.drew = wq at *
      have HC := Lib.hid (HPA.out wq X vx vy HX.out HFq.out HKq.out y z hy32 HWH.out HYL.out)
      unfold akX at HC
      simp only at HC
      refine U_read 0 (v := (.func (.func 70) #[] #[.pointer (some ⟨w.heap.size + 1, 0, none⟩), .pointer (some ⟨w.heap.size + 1 + 1 + 1, 0, none⟩), .pointer (some ⟨w.heap.size + 1 + 1 + 1 + 1, 0, none⟩), .pointer (some ⟨w.heap.size + 1 + 1 + 1 + 1 + 1, 0, none⟩)])) rfl (by kernel_rfl) (fun _ _ _ h => h) hS (by rfl) (fun w' hw' => by obtain ⟨h0, h1⟩ := hw'; go_simp) ?_
      try simp only [Act.put, List.setIfInBounds_toArray, List.set_cons_zero, List.set_cons_succ]
      refine U_readC 1 [3, 4, 9] (v := (.slice (some ada) n c)) rfl (by kernel_rfl) (fun _ _ _ h => h) hS (by rfl) (fun w' hw' => by obtain ⟨h0, h1⟩ := hw'; go_simp) ?_
      try simp only [Act.put, List.setIfInBounds_toArray, List.set_cons_zero, List.set_cons_succ]
      refine U_readC 2 [3, 4, 9] (v := (.int .i64 (i : Int))) rfl (by kernel_rfl) (fun _ _ _ h => h) hS (by rfl) (fun w' hw' => by obtain ⟨h0, h1⟩ := hw'; go_simp) ?_
      try simp only [Act.put, List.setIfInBounds_toArray, List.set_cons_zero, List.set_cons_succ]
      refine U_readC 3 [4, 9] (v := (.pointer (some (ada.add i)))) rfl (by kernel_rfl) (fun _ _ _ h => h) hS (by rfl) (fun w' hw' => by obtain ⟨h0, h1⟩ := hw'; go_simp) ?_
      try simp only [Act.put, List.setIfInBounds_toArray, List.set_cons_zero, List.set_cons_succ]
      refine U_read 4 (v := (.int .u32 (y : Int))) rfl (by kernel_rfl) (fun _ _ _ h => h) hS (by rfl) (fun w' hw' => by obtain ⟨h0, h1⟩ := hw'; go_simp) ?_
      try simp only [Act.put, List.setIfInBounds_toArray, List.set_cons_zero, List.set_cons_succ]
      refine U_readC 5 [7, 8, 9] (v := (.slice (some adb) n c')) rfl (by kernel_rfl) (fun _ _ _ h => h) hS (by rfl) (fun w' hw' => by obtain ⟨h0, h1⟩ := hw'; go_simp) ?_
      try simp only [Act.put, List.setIfInBounds_toArray, List.set_cons_zero, List.set_cons_succ]
      refine U_readC 6 [7, 8, 9] (v := (.int .i64 (i : Int))) rfl (by kernel_rfl) (fun _ _ _ h => h) hS (by rfl) (fun w' hw' => by obtain ⟨h0, h1⟩ := hw'; go_simp) ?_
      try simp only [Act.put, List.setIfInBounds_toArray, List.set_cons_zero, List.set_cons_succ]
      refine U_readC 7 [8, 9] (v := (.pointer (some (adb.add i)))) rfl (by kernel_rfl) (fun _ _ _ h => h) hS (by rfl) (fun w' hw' => by obtain ⟨h0, h1⟩ := hw'; go_simp) ?_
      try simp only [Act.put, List.setIfInBounds_toArray, List.set_cons_zero, List.set_cons_succ]
      refine U_read 8 (v := (.int .u32 (z : Int))) rfl (by kernel_rfl) (fun _ _ _ h => h) hS (by rfl) (fun w' hw' => by obtain ⟨h0, h1⟩ := hw'; go_simp) ?_
      try simp only [Act.put, List.setIfInBounds_toArray, List.set_cons_zero, List.set_cons_succ]
      refine U_one 9 (by kernel_rfl) rfl rfl (fun K hK => ?_)
      go_simp
      refine HC.out.mono ?_
      rintro e w5 ⟨rfl, hf5, vx5, vy5, hk5⟩
      have HF5 := Lib.hid (HFq.out.trans hf5)
      have HK5 := Lib.hid hk5
      clear hf5 hk5 hS HC HKq HFq
      refine hK _ _ (fun h => absurd h (by decide)) ?_
      clear hK K
      try simp only [Act.put, List.setIfInBounds_toArray, List.set_cons_zero, List.set_cons_succ]
      refine U_one 10 (by kernel_rfl) rfl rfl (fun K hK => ?_)
      go_simp
      refine hK _ _ (fun h => absurd h (by decide)) ?_
      clear hK K
      try simp only [Act.put, List.setIfInBounds_toArray, List.set_cons_zero, List.set_cons_succ]
      refine U_done (by kernel_rfl) ?_ _
      simp only [Calm, Exit.then]
      have hnl : n ≤ 64 := by have := HN.out.2; omega
      go_wp2_with fail
      go_roundw
      case rel => exact ⟨i + 1, addX X y, vx5, vy5, by go_num, HLT.out, HX.out.add HYL.out, HK5.out, HF5.out⟩
      case measure => have := HLT.out; simp [intOf]; omega
    · obtain rfl : i = n := by omega
      clear hlt hi
      go_wp2_with fail
      clear HRD HN
      go_loopw [15] (fun iv wr => ∃ (m : Nat) (X : List Nat) (vx vy : Value), iv = .int .i64 m ∧ m ≤ X.length ∧ OkX h l X ∧ AkAt wr w.heap.size (akX w.heap.size) vx vy (toTL (goesM (planM h l)) X (L1 + 1)) (bkTL (X.map (goesM (planM h l))) (L2 + 1)) X (X.map (goesM (planM h l))) ∧ AkFr w.heap.size w wr) (fun iv _ => 1048577 - (intOf iv).toNat)
      case atStart => exact ⟨0, X, vx, vy, rfl, Nat.zero_le _, HX.out, HK.out, HF.out⟩
      case round =>
        clear HX HK HF
        obtain ⟨m, X, vx, vy, rfl, hm, hx, hk, hf⟩ := hrel
        have HX := Lib.hid hx
        have HK := Lib.hid hk
        have HF := Lib.hid hf
        have hXl := hx.len HG.out
        clear hx hk hf
        by_cases hlt : m < X.length
        · have HXM := Lib.hid (List.getElem?_eq_getElem hlt)
          obtain ⟨j, hj, k, hkk, e1, e2, e3, hh⟩ := live_obj HG.out (HX.out.live _ (List.getElem_mem hlt))
          have hxl := HX.out.live _ (List.getElem_mem hlt)
          have hx32 : X[m] < 4294967296 := by rw [e1]; exact isB_u32 HG.out (isB_obj HG.out hj)
          have hg32 : goesM (planM h l) X[m] < 4294967296 := goes_lt HG.out _
          have HA1 := Lib.hid (fun (w' : World) (hbw : Below w.heap.size w w') => show Calls Tryd.prog 25 #[.pointer (some ⟨gq, 0, none⟩), .int .u32 (X[m] : Nat)] w' (Told (.tuple #[(l[j]).x.val, .int .i64 0]) w') from by
            have hh := head_obj (HLQ.out w' hbw) HG.out hj
            rw [← e1] at hh
            exact hh)
          have HA2 := Lib.hid (fun (w' : World) (hbw : Below w.heap.size w w') => show Calls Tryd.prog 25 #[.pointer (some ⟨gp, 0, none⟩), .int .u32 (goesM (planM h l) X[m] : Nat)] w' (Told (.tuple #[(relob (planM h l) (voidM h l) l[j]).x.val, .int .i64 0]) w') from by
            have hh := head_obj (HLP.out w' hbw) (col_good HG.out) hkk
            rw [← e2, e3] at hh
            exact hh)
          have HB1 := Lib.hid (fun (w' : World) (hbw : Below w.heap.size w w') (hp : (l[j]).x.ptrB = true) (i : Nat) (hi : i < (l[j]).fs.length) => show Calls Tryd.prog 26 #[.pointer (some ⟨gq, 0, none⟩), .int .u32 (X[m] : Nat), .int .i64 i] w' (Told (.tuple #[.int .u32 ((l[j]).fs.getD i 0 : Nat), .int .i64 0]) w') from by
            have hh := get_obj (HLQ.out w' hbw) HG.out hj hp hi
            rw [← e1] at hh
            exact hh)
          have HB2 := Lib.hid (fun (w' : World) (hbw : Below w.heap.size w w') (hp : (l[j]).x.ptrB = true) (i : Nat) (hi : i < (l[j]).fs.length) => show Calls Tryd.prog 26 #[.pointer (some ⟨gp, 0, none⟩), .int .u32 (goesM (planM h l) X[m] : Nat), .int .i64 i] w' (Told (.tuple #[.int .u32 (fldM (planM h l) (voidM h l) ((l[j]).fs.getD i 0) : Nat), .int .i64 0]) w') from by
            have hh := get_obj (HLP.out w' hbw) (col_good HG.out) hkk (by rw [e3]; exact hp) (i := i) (by rw [e3, relob_len]; exact hi)
            rw [← e2, e3, relob_fsP hp, getD_map' hi] at hh
            exact hh)
          have HC1 := Lib.hid (fun (w' : World) (hbw : Below w.heap.size w w') (hf : (l[j]).x.fmt = 3) (i : Nat) (hi : i < (l[j]).fs.length) => show ∃ v e : Nat, Calls Tryd.prog 71 #[.pointer (some ⟨gq, 0, none⟩), .int .u32 (X[m] : Nat), .int .i64 i] w' (Told (.tuple #[.int .u32 (v : Nat), .int .i64 (e : Nat)]) w') ∧ ∀ w'', Below w.heap.size w w'' → ∃ e2 : Nat, Calls Tryd.prog 71 #[.pointer (some ⟨gp, 0, none⟩), .int .u32 (goesM (planM h l) X[m] : Nat), .int .i64 i] w'' (Told (.tuple #[.int .u32 (v : Nat), .int .i64 (e2 : Nat)]) w'') from by
            refine ⟨h.readN X[m] i [3], h.lookE X[m] i [3], (HLQ.out w' hbw).word _ hx32 i, fun w'' hbw2 => ⟨(colH h l).lookE (goesM (planM h l) X[m]) i [3], ?_⟩⟩
            have hh := (HLP.out w'' hbw2).word _ hg32 i
            rw [keep_word HG.out hxl hj hkk e1 e2 e3 hf hi] at hh
            exact hh)
          have HD1 := Lib.hid (fun (w' : World) (hbw : Below w.heap.size w w') (hf : (l[j]).x.fmt = 2) (i t : Nat) (hi : 4 * i + t < 4 * (l[j]).fs.length) => show ∃ v e : Nat, Calls Tryd.prog 72 #[.pointer (some ⟨gq, 0, none⟩), .int .u32 (X[m] : Nat), .int .i64 (4 * (i : Int) + (t : Int))] w' (Told (.tuple #[.int .u8 (v : Nat), .int .i64 (e : Nat)]) w') ∧ ∀ w'', Below w.heap.size w w'' → Calls Tryd.prog 72 #[.pointer (some ⟨gp, 0, none⟩), .int .u32 (goesM (planM h l) X[m] : Nat), .int .i64 (4 * (i : Int) + (t : Int))] w'' (Told (.tuple #[.int .u8 (v : Nat), .int .i64 (e : Nat)]) w'') from by
            have hk := keep_byte HG.out hxl hj hkk e1 e2 e3 hf hi
            rw [show ((4 * i + t : Nat) : Int) = 4 * (i : Int) + (t : Int) by omega] at hk
            refine ⟨h.byteN X[m] (4 * (i : Int) + (t : Int)), h.lookE X[m] (4 * (i : Int) + (t : Int)) [2], (HLQ.out w' hbw).byte _ hx32 _, fun w'' hbw2 => ?_⟩
            have hh := (HLP.out w'' hbw2).byte _ hg32 (4 * (i : Int) + (t : Int))
            rw [hk.1, hk.2] at hh
            exact hh)
          have hok := HG.out.laid.ok _ (List.getElem_mem hj)
          have HHH := Lib.hid hh
          have HOK := Lib.hid hok
          have hsz : (l[j]).x.size = (l[j]).fs.length := hok.size
          have hfl : (l[j]).fs.length ≤ 1048576 := by have := (w0_parts HG.out hj).2.2.2; have := HG.out.fit.room; have := HG.out.fit.hi; omega
          have HRX := Lib.hid (fun (w' : World) (X' : List Nat) (vx' vy' : Value) (hX' : X'[m]? = some X[m]) (K : AkAt w' w.heap.size (akX w.heap.size) vx' vy' (toTL (goesM (planM h l)) X' (L1 + 1)) (bkTL (X'.map (goesM (planM h l))) (L2 + 1)) X' (X'.map (goesM (planM h l)))) =>
            show ∃ gX cX gY cY, vx' = .slice (some ⟨gX, 0, none⟩) X'.length cX ∧ vy' = .slice (some ⟨gY, 0, none⟩) X'.length cY ∧ w'.cell? ⟨w.heap.size + 1 + 1 + 1 + 1, 0, none⟩ = some (.slice (some ⟨gX, 0, none⟩) X'.length cX) ∧ w'.cell? ⟨w.heap.size + 1 + 1 + 1 + 1 + 1, 0, none⟩ = some (.slice (some ⟨gY, 0, none⟩) X'.length cY) ∧ w'.cell? ⟨gX, m, none⟩ = some (.int .u32 (X[m] : Nat)) ∧ w'.cell? ⟨gY, m, none⟩ = some (.int .u32 (goesM (planM h l) X[m] : Nat)) ∧ m < X'.length from by
              have hml := (List.getElem?_eq_some_iff.1 hX').1
              obtain ⟨gX, cX, ev, hr, _, _⟩ := Row.of_any K.rx (by omega)
              obtain ⟨gY, cY, ev2, hr2, _, _⟩ := Row.of_any K.ry (by rw [List.length_map]; omega)
              rw [List.length_map] at ev2
              have b1 := K.boxX.cell 0
              have b2 := K.boxY.cell 0
              rw [ev] at b1
              rw [ev2] at b2
              exact ⟨gX, cX, gY, cY, ev, ev2, b1, b2, hr.cell (u32s_get' hX'), hr2.cell (u32s_get' (by rw [List.getElem?_map, hX']; rfl)), hml⟩)
          have HLT := Lib.hid hlt
          clear e1 e2 e3 hh hxl hok hx32 hg32 hkk
          unfold relob at HA2
          unfold Hd.val at HA1 HA2
          simp only at HA2
          generalize l[j] = b at *
          generalize goesM (planM h l) X[m] = gx at *
          generalize X[m] = x at *
          generalize hS : b.x.size = S at *
          generalize hff : b.x.fmt = f at *
          generalize b.x.spare = sp at *
          generalize hcl : b.x.cls = cl at *
          generalize b.x.ser = se at *
          have HCL := Lib.hid (show cl < 4294967296 from by rw [← hcl]; exact HOK.out.fit.cls)
          have HCW := Lib.hid (show ∃ cl2, whereM (planM h l) cl = cl2 ∧ cl2 = (if kindM cl = 2 then goesM (planM h l) cl else cl) from ⟨_, rfl, rfl⟩)
          obtain ⟨cl2, hcl2, hcl3⟩ := HCW.out
          rw [hcl2] at HA2
          have HC3 := Lib.hid hcl3
          have HFE := Lib.hid (And.intro hS hff)
          obtain ⟨gX, cX, gY, cY, rfl, rfl, a0, a1, a2, a3, hml⟩ := HRX.out wr X _ _ HXM.out HK.out
          clear hcl hcl2 hcl3 hS hff HCW
          have hsS : S ≤ 1048576 := by omega
          have HSZ := Lib.hid hsz
          clear hsz hfl
          go_wp2_with fail
          refine (HA1.out wr HF.out.low).mono ?_
          rintro e w2 ⟨rfl, hb2⟩
          have hb3 := hb2.alloc hb2.size (.cells #[.int .i64 (S : Nat), .int .i64 (f : Nat), .int .i64 (sp : Nat), .int .u32 (cl : Nat), .int .u32 (se : Nat)] 56)
          have HY3 := Lib.hid (Blk.new w2 56 #[.int .i64 (S : Nat), .int .i64 (f : Nat), .int .i64 (sp : Nat), .int .u32 (cl : Nat), .int .u32 (se : Nat)])
          have HK3 := Lib.hid (HK.out.below hb3)
          have HF3 := Lib.hid (HF.out.trans (AkFr.of_below HF.out.low.size hb3))
          clear hb2 hb3 a0 a1 a2 a3 hml HK HF
          go_upto_region 16 with fail
          generalize w2.alloc (.cells #[.int .i64 (S : Nat), .int .i64 (f : Nat), .int .i64 (sp : Nat), .int .u32 (cl : Nat), .int .u32 (se : Nat)] 56) = w3 at *
          generalize w2.heap.size = b16 at *
          obtain ⟨_, _, _, _, ex, ey, a0, a1, a2, a3, hml⟩ := HRX.out w3 X _ _ HXM.out HK3.out
          cases ex
          cases ey
          go_wp2_with fail
          refine (HA2.out w3 HF3.out.low).mono ?_
          rintro e w4 ⟨rfl, hb4⟩
          have hb5 := hb4.alloc hb4.size (.cells #[.int .i64 (S : Nat), .int .i64 (f : Nat), .int .i64 (sp : Nat), .int .u32 (cl2 : Nat), .int .u32 (se : Nat)] 56)
          have HZ5 := Lib.hid (Blk.new w4 56 #[.int .i64 (S : Nat), .int .i64 (f : Nat), .int .i64 (sp : Nat), .int .u32 (cl2 : Nat), .int .u32 (se : Nat)])
          have HY5 := Lib.hid (HY3.out.below hb5 HY3.out.lt)
          have HK5 := Lib.hid (HK3.out.below hb5)
          have HF5 := Lib.hid (HF3.out.trans (AkFr.of_below HF3.out.low.size hb5))
          clear hb4 hb5 a0 a1 a2 a3 hml HK3 HF3 HY3
          go_upto_region 17 with fail
          generalize w4.alloc (.cells #[.int .i64 (S : Nat), .int .i64 (f : Nat), .int .i64 (sp : Nat), .int .u32 (cl2 : Nat), .int .u32 (se : Nat)] 56) = w5 at *
          generalize w4.heap.size = b18 at *
          have HPC := Lib.hid (HPA.out w5 X _ _ HX.out HF5.out HK5.out cl cl2 HCL.out HC3.out (fun hk2 => HHH.out cl (List.mem_cons_self ..) hk2))
          unfold akX at HPC
          simp only at HPC
          have y0 := HY5.out.cell 0
          have y1 := HY5.out.cell 1
          have y2 := HY5.out.cell 2
          have y3 := HY5.out.cell 3
          have y4 := HY5.out.cell 4
          have q0 := HZ5.out.cell 0
          have q1 := HZ5.out.cell 1
          have q2 := HZ5.out.cell 2
          have q3 := HZ5.out.cell 3
          have q4 := HZ5.out.cell 4
          go_wp2_with fail
          refine HPC.out.mono ?_
          rintro e w6 ⟨rfl, hf6, vx6, vy6, hk6⟩
          have HF6 := Lib.hid (HF5.out.trans hf6)
          have HY6 := Lib.hid (hf6.hdr _ _ HY5.out)
          have HZ6 := Lib.hid (hf6.hdr _ _ HZ5.out)
          have HK6 := Lib.hid hk6
          have HX6 := Lib.hid (HX.out.add (p := cl) (fun hk2 => HHH.out cl (List.mem_cons_self ..) hk2))
          have HM6 := Lib.hid (addX_get (p := cl) HXM.out)
          clear hf6 hk6 y0 y1 y2 y3 y4 q0 q1 q2 q3 q4 HPC HK5 HF5 HY5 HZ5 HX HXM HA1 HA2
          go_wp2_with fail
          have hXa := HX6.out.len HG.out
          have HSS := Lib.hid hsS
          clear hsS
          go_loopw [20] (fun iv wr => ∃ (t : Nat) (Y : List Nat) (vx vy : Value), iv = .int .i64 t ∧ t ≤ S ∧ Y[m]? = some x ∧ OkX h l Y ∧ AkAt wr w.heap.size (akX w.heap.size) vx vy (toTL (goesM (planM h l)) Y (L1 + 1)) (bkTL (Y.map (goesM (planM h l))) (L2 + 1)) Y (Y.map (goesM (planM h l))) ∧ AkFr w.heap.size w wr ∧ Blk wr b16 56 #[.int .i64 (S : Nat), .int .i64 (f : Nat), .int .i64 (sp : Nat), .int .u32 (cl : Nat), .int .u32 (se : Nat)] ∧ Blk wr b18 56 #[.int .i64 (S : Nat), .int .i64 (f : Nat), .int .i64 (sp : Nat), .int .u32 (cl2 : Nat), .int .u32 (se : Nat)]) (fun iv _ => S - (intOf iv).toNat)
          case atStart => exact ⟨0, _, _, _, rfl, Nat.zero_le _, HM6.out, HX6.out, HK6.out, HF6.out, HY6.out, HZ6.out⟩
          case round =>
            clear HK6 HF6 HX6 HM6 HY6 HZ6 hXa
            obtain ⟨t, Y, vx, vy, rfl, ht, hym, hx, hk, hf, hy, hz⟩ := hrel
            have HYM := Lib.hid hym
            have HX := Lib.hid hx
            have HK := Lib.hid hk
            have HF := Lib.hid hf
            have HY := Lib.hid hy
            have HZ := Lib.hid hz
            have hYl := hx.len HG.out
            clear hym hx hk hf hy hz
            have y0 := HY.out.cell 0
            by_cases hlt2 : t < S
            · have y1 := HY.out.cell 1
              obtain ⟨gX, cX, gY, cY, rfl, rfl, a0, a1, a2, a3, hml⟩ := HRX.out wr Y _ _ HYM.out HK.out
              have HT := Lib.hid hlt2
              have HTL := Lib.hid (show t < b.fs.length from by have := HSZ.out; omega)
              have hSb : S ≤ 1048576 := HSS.out
              by_cases f1 : f = 1
              · have q1 : ((f : Int) == 1) = true := by simp; omega
                have hp : b.x.ptrB = true := by unfold Hd.ptrB; rw [HFE.out.2]; simp [f1]
                have HG1 := Lib.hid (HB1.out wr HF.out.low hp t HTL.out)
                have HG2 := Lib.hid (fun (w' : World) (hbw : Below w.heap.size w w') => HB2.out w' hbw hp t HTL.out)
                have hpm : b.fs.getD t 0 ∈ b.fs := by rw [List.getD_eq_getElem?_getD, List.getElem?_eq_getElem HTL.out]; exact List.getElem_mem _
                have HPM := Lib.hid (show kindM (b.fs.getD t 0) = 2 → b.fs.getD t 0 ∈ liveO h l from fun hk2 => HHH.out _ (List.mem_cons_of_mem _ (by rw [if_pos f1]; exact hpm)) hk2)
                have HQV := Lib.hid (show fldM (planM h l) (voidM h l) (b.fs.getD t 0) = if kindM (b.fs.getD t 0) = 2 then goesM (planM h l) (b.fs.getD t 0) else b.fs.getD t 0 from by
                  unfold fldM
                  rw [if_neg (fun e => e.2 (by rw [planM_fst]; exact HPM.out e.1))]
                  rfl)
                have HPV := Lib.hid (HOK.out.f32 _ hpm)
                clear f1 hp hpm
                generalize fldM (planM h l) (voidM h l) (b.fs.getD t 0) = qv at *
                generalize b.fs.getD t 0 = pv at *
                go_wp2_with fail
                refine HG1.out.mono ?_
                rintro e w7 ⟨rfl, hb7⟩
                have HK7 := Lib.hid (HK.out.below hb7)
                have HF7 := Lib.hid (HF.out.trans (AkFr.of_below HF.out.low.size hb7))
                have HY7 := Lib.hid (HY.out.below hb7 HY.out.lt)
                have HZ7 := Lib.hid (HZ.out.below hb7 HZ.out.lt)
                clear hb7 a0 a1 a2 a3 hml y0 y1 HK HF HY HZ
                obtain ⟨_, _, _, _, ex, ey, a0, a1, a2, a3, hml⟩ := HRX.out w7 Y _ _ HYM.out HK7.out
                cases ex
                cases ey
                go_wp2_with fail
                refine (HG2.out w7 HF7.out.low).mono ?_
                rintro e w8 ⟨rfl, hb8⟩
                have HK8 := Lib.hid (HK7.out.below hb8)
                have HF8 := Lib.hid (HF7.out.trans (AkFr.of_below HF7.out.low.size hb8))
                have HY8 := Lib.hid (HY7.out.below hb8 HY7.out.lt)
                have HZ8 := Lib.hid (HZ7.out.below hb8 HZ7.out.lt)
                clear hb8 a0 a1 a2 a3 hml HK7 HF7 HY7 HZ7
                have HPC := Lib.hid (HPA.out w8 Y _ _ HX.out HF8.out HK8.out pv qv HPV.out HQV.out HPM.out)
                unfold akX at HPC
                simp only at HPC
                go_wp2_with fail
                refine HPC.out.mono ?_
                rintro e w9 ⟨rfl, hf9, vx9, vy9, hk9⟩
                have HF9 := Lib.hid (HF8.out.trans hf9)
                have HY9 := Lib.hid (hf9.hdr _ _ HY8.out)
                have HZ9 := Lib.hid (hf9.hdr _ _ HZ8.out)
                have HK9 := Lib.hid hk9
                clear hf9 hk9 HPC HK8 HF8 HY8 HZ8
                go_wp2_with fail
                go_roundw
                case rel => exact ⟨t + 1, addX Y pv, vx9, vy9, by go_num, HT.out, addX_get HYM.out, HX.out.add HPM.out, HK9.out, HF9.out, HY9.out, HZ9.out⟩
                case measure => have := HT.out; simp [intOf]; omega
              · have q1 : ((f : Int) == 1) = false := by simp; omega
                by_cases f3 : f = 3
                · have q3 : ((f : Int) == 3) = true := by simp; omega
                  obtain ⟨v, ev, hc1, hc2⟩ := HC1.out wr HF.out.low f3 t HTL.out
                  have HG1 := Lib.hid hc1
                  have HG2 := Lib.hid hc2
                  clear f1 f3 hc1 hc2
                  go_wp2_with fail
                  refine HG1.out.mono ?_
                  rintro e w7 ⟨rfl, hb7⟩
                  have HK7 := Lib.hid (HK.out.below hb7)
                  have HF7 := Lib.hid (HF.out.trans (AkFr.of_below HF.out.low.size hb7))
                  have HY7 := Lib.hid (HY.out.below hb7 HY.out.lt)
                  have HZ7 := Lib.hid (HZ.out.below hb7 HZ.out.lt)
                  clear hb7 a0 a1 a2 a3 hml y0 y1 HK HF HY HZ
                  obtain ⟨_, _, _, _, ex, ey, a0, a1, a2, a3, hml⟩ := HRX.out w7 Y _ _ HYM.out HK7.out
                  cases ex
                  cases ey
                  obtain ⟨e2, hc2⟩ := HG2.out w7 HF7.out.low
                  have HG3 := Lib.hid hc2
                  clear hc2
                  go_wp2_with fail
                  refine HG3.out.mono ?_
                  rintro e w8 ⟨rfl, hb8⟩
                  have HK8 := Lib.hid (HK7.out.below hb8)
                  have HF8 := Lib.hid (HF7.out.trans (AkFr.of_below HF7.out.low.size hb8))
                  have HY8 := Lib.hid (HY7.out.below hb8 HY7.out.lt)
                  have HZ8 := Lib.hid (HZ7.out.below hb8 HZ7.out.lt)
                  clear hb8 a0 a1 a2 a3 hml HK7 HF7 HY7 HZ7
                  go_wp2_with fail
                  go_roundw
                  case rel => exact ⟨t + 1, Y, _, _, by go_num, HT.out, HYM.out, HX.out, HK8.out, HF8.out, HY8.out, HZ8.out⟩
                  case measure => have := HT.out; simp [intOf]; omega
                · have q3 : ((f : Int) == 3) = false := by simp; omega
                  by_cases f2 : f = 2
                  · have q2 : ((f : Int) == 2) = true := by simp; omega
                    have HBY := Lib.hid (fun (w' : World) (hbw : Below w.heap.size w w') (u : Nat) (hu : u < 4) => HD1.out w' hbw f2 t u (by have := HTL.out; omega))
                    clear f1 f2 f3 a0 a1 a2 a3 hml
                    go_wp2_with fail
                    go_loopw [29] (fun jv w7 => ∃ u : Nat, jv = .int .i64 (4 * (t : Int) + (u : Int)) ∧ u ≤ 4 ∧ Below wr.heap.size wr w7) (fun jv _ => (4 * (t : Int) + 4 - intOf jv).toNat)
                    case atStart => exact ⟨0, by simp, by omega, Below.refl _ _⟩
                    case round =>
                      obtain ⟨u, rfl, hu, hb7⟩ := hrel
                      have HB7 := Lib.hid hb7
                      clear hb7
                      by_cases hu4 : u < 4
                      · have HK7 := Lib.hid (HK.out.below HB7.out)
                        have HF7 := Lib.hid (HF.out.trans (AkFr.of_below HF.out.low.size HB7.out))
                        obtain ⟨v, ev, hc1, hc2⟩ := HBY.out _ HF7.out.low u hu4
                        have HG1 := Lib.hid hc1
                        have HG2 := Lib.hid hc2
                        have HU4 := Lib.hid hu4
                        clear hc1 hc2
                        obtain ⟨_, _, _, _, ex, ey, a0, a1, a2, a3, hml⟩ := HRX.out _ Y _ _ HYM.out HK7.out
                        cases ex
                        cases ey
                        go_wp2_with fail
                        refine HG1.out.mono ?_
                        rintro e w8 ⟨rfl, hb8⟩
                        have HB8 := Lib.hid (below_top HB7.out hb8)
                        have HK8 := Lib.hid (HK.out.below HB8.out)
                        have HF8 := Lib.hid (HF.out.trans (AkFr.of_below HF.out.low.size HB8.out))
                        clear hb8 a0 a1 a2 a3 hml HK7 HF7
                        obtain ⟨_, _, _, _, ex, ey, a0, a1, a2, a3, hml⟩ := HRX.out w8 Y _ _ HYM.out HK8.out
                        cases ex
                        cases ey
                        go_wp2_with fail
                        refine (HG2.out w8 HF8.out.low).mono ?_
                        rintro e w9 ⟨rfl, hb9⟩
                        have HB9 := Lib.hid (below_top HB8.out hb9)
                        clear hb9 a0 a1 a2 a3 hml HK8 HF8
                        go_wp2_with fail
                        go_roundw
                        case rel => exact ⟨u + 1, by go_num, HU4.out, HB9.out⟩
                        case measure => have := HU4.out; simp [intOf]; omega
                      · obtain rfl : u = 4 := by omega
                        clear hu4 hu
                        have HK7 := Lib.hid (HK.out.below HB7.out)
                        have HF7 := Lib.hid (HF.out.trans (AkFr.of_below HF.out.low.size HB7.out))
                        have HY7 := Lib.hid (HY.out.below HB7.out HY.out.lt)
                        have HZ7 := Lib.hid (HZ.out.below HB7.out HZ.out.lt)
                        go_wp2_with fail
                        go_roundw
                        case rel => exact ⟨t + 1, Y, _, _, by go_num, HT.out, HYM.out, HX.out, HK7.out, HF7.out, HY7.out, HZ7.out⟩
                        case measure => have := HT.out; simp [intOf]; omega
                  · have q2 : ((f : Int) == 2) = false := by simp; omega
                    clear f1 f2 f3 a0 a1 a2 a3 hml
                    go_wp2_with fail
                    go_roundw
                    case rel => exact ⟨t + 1, Y, _, _, by go_num, HT.out, HYM.out, HX.out, HK.out, HF.out, HY.out, HZ.out⟩
                    case measure => have := HT.out; simp [intOf]; omega
            · obtain rfl : t = S := by omega
              have hml := (List.getElem?_eq_some_iff.1 HYM.out).1
              have HML := Lib.hid hml
              clear hlt2 ht
              go_wp2_with fail
              go_roundw
              case rel => exact ⟨m + 1, Y, vx, vy, by go_num, HML.out, HX.out, HK.out, HF.out⟩
              case measure => have := HML.out; simp [intOf]; omega
        · obtain rfl : m = X.length := by omega
          clear hlt
          have hvx := own_val HK.out.rx
          obtain ⟨Ax, cx, rfl⟩ := hvx
          have b0 : wr.cell? ⟨w.heap.size + 1 + 1 + 1 + 1, 0, none⟩ = some (.slice Ax X.length cx) := HK.out.boxX.cell 0
          go_wp2_with fail
          go_ret
          exact ⟨rfl, HF.out.low⟩
end
end Go.Proofs.YtblekggklimpeaaDoor

namespace Go.Proofs.YtblekggklimpeaaDoor
open Go.RowKit Go.Sort
attribute [local go_sem] Oper.semAt_some
theorem colV_keep {h : HM} {l : List Ob} (G : h.Good l) : ∃ x1 x3 x4 : Int, colV h l = .agg #[.int .i64 ((liveO h l).length : Nat), .int .i64 x1, .int .i64 ((h.words.length : Int) - ((colH h l).words.length : Int)), .int .i64 x3, .int .i64 x4] := by
  refine ⟨((l.length - (liveO h l).length : Nat) : Int), (movedN h l : Int), (clearedN h l : Int), ?_⟩
  unfold colV
  have h1 := col_room G
  have h2 : (colH h l).words.length = (0 :: wsOf (colL h l)).length := rfl
  rw [List.length_cons] at h1 h2
  rw [show ((h.words.length - (1 + (wsOf (colL h l)).length) : Nat) : Int) = (h.words.length : Int) - ((colH h l).words.length : Int) from by omega]
set_option maxRecDepth 100000 in
set_option maxHeartbeats 8000000 in
theorem keepsL_any (W : World) (E : Env W) (k : Cs) (hk : k.At W W.heap.size) : Calls Tryd.prog 6 #[k.agg] W (Told (.bool true) W) := by
  have hb1 := (Below.refl W.heap.size W).alloc (Nat.le_refl _) (.cells k.cells 26)
  have B1 := Blk.new W 26 k.cells
  have HB1 := Lib.hid hb1
  have HBX := Lib.hid B1
  have HE := Lib.hid (E.below hb1)
  have HK := Lib.hid (hk.below hb1)
  have HBU := Lib.hid (fun (w : World) (E : Env w) (hk : k.At w w.heap.size) => built_any w E k hk)
  have HAW := Lib.hid (fun (w : World) (E : Env w) => awake_any w E)
  have hsz := World.size_alloc W (.cells k.cells 26)
  clear hb1 B1 E hk
  unfold Cs.cells at HB1 HBX HE HK HBU hsz
  unfold Cs.agg at HBU ⊢
  go_enter Tryd.func6, Tryd.ntmps6
  obtain ⟨x0, x1, x2, x3⟩ := cells4K HBX.out
  go_wp2_with fail
  clear x0 x1 x2 x3
  generalize W.alloc (.cells #[.int .i64 k.size, .slice k.A k.n k.c, .slice k.A' k.n' k.c', .int .u32 (k.last : Nat)] 26) = W1 at *
  refine (HBU.out W1 HE.out HK.out).mono ?_
  rintro e w1 (⟨hno, ⟨v, rfl⟩, hb⟩ | ⟨hok, p, g, rfl, L, hws, hrs⟩)
  · have HB2 := Lib.hid (below_top HB1.out hb)
    have HE2 := Lib.hid (HE.out.below hb)
    have HK2 := Lib.hid (HK.out.below hb)
    have HX2 := Lib.hid (HBX.out.below hb HBX.out.lt)
    obtain ⟨x0, x1, x2, x3⟩ := cells4K HX2.out
    clear hb hno
    go_wp2_with fail
    refine (HBU.out w1 HE2.out HK2.out).mono ?_
    rintro e w2 hbu
    obtain ⟨v2, bv, rfl, hb2⟩ : ∃ v2 bv, e = .returned (.tuple #[v2, .bool bv]) ∧ Below w1.heap.size w1 w2 := by
      rcases hbu with ⟨_, ⟨v, rfl⟩, hb⟩ | ⟨_, p, g, rfl, L, _⟩
      · exact ⟨_, _, rfl, hb⟩
      · exact ⟨_, _, rfl, L.below⟩
    have HB3 := Lib.hid (below_top HB2.out hb2)
    have HE3 := Lib.hid (HE2.out.below hb2)
    clear hbu hb2 x0 x1 x2 x3 HBU
    go_wp2_with fail
    refine (HAW.out _ HE3.out).mono ?_
    rintro e w3 ⟨rfl, hb3⟩
    have HB4 := Lib.hid (below_top HB3.out hb3)
    clear hb3
    go_wp2_with fail
    go_ret
    exact ⟨rfl, HB4.out⟩
  · have HL := Lib.hid L
    obtain ⟨l, G⟩ := L.good
    have HG := Lib.hid G
    have HB2 := Lib.hid (below_top HB1.out L.below)
    have HX2 := Lib.hid (HBX.out.below L.below HBX.out.lt)
    have HK2 := Lib.hid (HK.out.below L.below)
    have HOK := Lib.hid hok
    have HBB := Lib.hid (HBU.out w1 L.envw (HK.out.below L.below))
    obtain ⟨x0, x1, x2, x3⟩ := cells4K HX2.out
    clear L G hws hrs hok HBU HBX HK
    go_wp2_with fail
    refine HBB.out.mono ?_
    rintro e w2 (⟨hno, _⟩ | ⟨_, q, gq, rfl, Lq, _, _⟩)
    · exact absurd HOK.out hno
    have HQ2 := Lib.hid (Lq.rebase HL.out.below HE.out)
    have HD := Lib.hid (show ∀ j, p.has j → j < w1.heap.size from fun j hj => HL.out.at_.lt hj)
    have HDq := Lib.hid (show ∀ j, q.has j → w1.heap.size ≤ j from fun j hj => Lq.new j hj)
    have HL2 := Lib.hid (HL.out.after Lq.below)
    have HB3 := Lib.hid (below_top HB2.out Lq.below)
    have HEV := Lib.hid HL2.out.envw
    clear Lq HBB x0 x1 x2 x3 HX2 HK2 HL HOK
    go_wp2_with fail
    refine (HAW.out _ HEV.out).mono ?_
    rintro e w3 ⟨rfl, hb3⟩
    have HL3 := Lib.hid (HL2.out.after hb3)
    have HQ3 := Lib.hid (HQ2.out.after hb3)
    have HB4 := Lib.hid (below_top HB3.out hb3)
    have HZ3 := Lib.hid (show w1.heap.size ≤ w3.heap.size from by have h1 := HQ3.out.at_.lt (show q.has q.g from .inl rfl); have h2 := HDq.out q.g (.inl rfl); omega)
    have HLV := Lib.hid (live_any HQ3.out.at_ HG.out HQ3.out.envw.spares)
    rw [HQ3.out.hg] at HLV
    unfold ptr at HLV
    clear hb3 HL2 HQ2 HEV HAW
    go_wp2_with fail
    refine HLV.out.mono ?_
    rintro e w4 ⟨v4, rfl, ho4, hb4⟩
    obtain ⟨A4, c4, rfl⟩ := own_val ho4
    have HO4 := Lib.hid ho4
    have HL4 := Lib.hid (HL3.out.after hb4)
    have HQ4 := Lib.hid (HQ3.out.after hb4)
    have HCO := Lib.hid (HL4.out.collect HG.out)
    clear ho4 hb4 HLV HL3 HQ3
    obtain ⟨x1, x3, x4, hcv⟩ := colV_keep HG.out
    rw [hcv] at HCO
    have HR12 := Lib.hid (show (colH k.h l).words.length ≤ k.h.words.length ∧ k.h.words.length ≤ 1048576 from ⟨by
      show (0 :: wsOf (colL k.h l)).length ≤ _
      exact col_room HG.out, by have := HG.out.fit.room; have := HG.out.fit.hi; omega⟩)
    have HTG := Lib.hid (fun (w' : World) (L : Live W1 w' q gq k.h) => L.top)
    have HTH := Lib.hid (fun (w' : World) (p' : HP) (L : Live W1 w' p' g (colH k.h l)) => L.top)
    clear hcv
    generalize k.h.words.length = L1 at *
    generalize (colH k.h l).words.length = L2 at *
    go_wp2_with fail
    refine HCO.out.mono ?_
    rintro e w5 ⟨p', rfl, hL5, hst⟩
    have HL5 := Lib.hid hL5
    have HQ5 := Lib.hid (HQ4.out.beside hst (fun j hj hp => by have h1 := HD.out j hp; have h2 := HDq.out j hj; omega) (fun j hp => HL4.out.new j hp))
    have HO5 := Lib.hid (show w5.ownsRow w3.heap.size 41 1 (.slice A4 (liveO k.h l).length c4) (liveO k.h l).length (u32s (liveO k.h l)) from own_keep HO4.out (fun j hj => hst.block j (HO4.out.lt j hj).2 (fun e => by have h1 := HD.out _ e; have h2 := HZ3.out; have h3 := (HO4.out.lt j hj).1; omega)))
    clear hL5 hst HCO HL4 HQ4 HO4 HD HDq
    go_upto_region 7 with fail
    have hb6 := (Below.refl w5.heap.size w5).alloc (Nat.le_refl _) (.cells #[.int .i64 ((liveO k.h l).length : Nat), .int .i64 x1, .int .i64 ((L1 : Int) - (L2 : Int)), .int .i64 x3, .int .i64 x4] 46)
    have HV6 := Lib.hid (Blk.new w5 46 #[.int .i64 ((liveO k.h l).length : Nat), .int .i64 x1, .int .i64 ((L1 : Int) - (L2 : Int)), .int .i64 x3, .int .i64 x4])
    have HL6 := Lib.hid (HL5.out.after hb6)
    have HQ6 := Lib.hid (HQ5.out.after hb6)
    have HO6 := Lib.hid (own_below HO5.out hb6)
    clear hb6 HL5 HQ5 HO5
    generalize w5.alloc (.cells #[.int .i64 ((liveO k.h l).length : Nat), .int .i64 x1, .int .i64 ((L1 : Int) - (L2 : Int)), .int .i64 x3, .int .i64 x4] 46) = w6 at *
    generalize w5.heap.size = b8 at *
    have HC := Lib.hid (show ∀ w', Below w6.heap.size w6 w' → w'.cell? ⟨b8, 0, none⟩ = some (.int .i64 ((liveO k.h l).length : Nat)) ∧ w'.cell? ⟨b8, 2, none⟩ = some (.int .i64 ((L1 : Int) - (L2 : Int))) from fun w' hb => ⟨(HV6.out.below hb HV6.out.lt).cell 0, (HV6.out.below hb HV6.out.lt).cell 2⟩)
    have HRG := Lib.hid (fun (w' : World) (hb : Below w6.heap.size w6 w') => show Calls Tryd.prog 29 #[.pointer (some ⟨gq, 0, none⟩)] w' (fun e w'' => ∃ g2 c2, e = .returned (.slice (some ⟨g2, 0, none⟩) 64 c2) ∧ Reads w'' w''.heap.size 1 (some ⟨g2, 0, none⟩) 64 (u32s k.h.roots) ∧ Below w'.heap.size w' w'') from
      (HQ6.out.after hb).roots.mono fun e w'' ⟨g2, c2, he, hr, _, hb2⟩ => ⟨g2, c2, by rw [u32s_len, HG.out.fit.roots] at he; exact he, by have h1 := hr.reads hr.lt; rw [u32s_len, HG.out.fit.roots] at h1; exact h1, hb2⟩)
    have HRH := Lib.hid (fun (w' : World) (hb : Below w6.heap.size w6 w') => show Calls Tryd.prog 29 #[.pointer (some ⟨g, 0, none⟩)] w' (fun e w'' => ∃ g2 c2, e = .returned (.slice (some ⟨g2, 0, none⟩) 64 c2) ∧ Reads w'' w''.heap.size 1 (some ⟨g2, 0, none⟩) 64 (u32s (colR k.h l)) ∧ Below w'.heap.size w' w'') from
      (HL6.out.after hb).roots.mono fun e w'' ⟨g2, c2, he, hr, _, hb2⟩ => ⟨g2, c2, by rw [u32s_len, (col_good HG.out).fit.roots] at he; exact he, by have h1 := hr.reads hr.lt; rw [u32s_len, (col_good HG.out).fit.roots] at h1; exact h1, hb2⟩)
    have HAL := Lib.hid (fun (w' : World) (hb : Below w6.heap.size w6 w') (Aa Ab : Option Addr) (ca cb : Nat) (ra : Reads w' w'.heap.size 1 Aa 64 (u32s k.h.roots)) (rb : Reads w' w'.heap.size 1 Ab 64 (u32s (colR k.h l))) => show Calls Tryd.prog 28 #[.pointer (some ⟨gq, 0, none⟩), .pointer (some ⟨g, 0, none⟩), .slice Aa 64 ca, .slice Ab 64 cb] w' (fun e w'' => e = .returned (.bool true) ∧ Below w'.heap.size w' w'') from
      alike_any (HQ6.out.after hb) (HL6.out.after hb) HG.out ra rb)
    have HT1 := Lib.hid (fun (w' : World) (hb : Below w6.heap.size w6 w') => show Calls Tryd.prog 30 #[.pointer (some ⟨gq, 0, none⟩)] w' (fun e w'' => e = .returned (.int .i64 (L1 : Nat)) ∧ w' = w'') from HTG.out w' (HQ6.out.after hb))
    have HT2 := Lib.hid (fun (w' : World) (hb : Below w6.heap.size w6 w') => show Calls Tryd.prog 30 #[.pointer (some ⟨g, 0, none⟩)] w' (fun e w'' => e = .returned (.int .i64 (L2 : Nat)) ∧ w' = w'') from HTH.out w' _ (HL6.out.after hb))
    have HS1 := Lib.hid (fun (w' : World) (hb : Below w6.heap.size w6 w') => show Calls Tryd.prog 31 #[.pointer (some ⟨gq, 0, none⟩)] w' (fun e w'' => e = .returned (.int .u32 (k.h.last : Nat)) ∧ w' = w'') from (HQ6.out.after hb).last)
    have HS2 := Lib.hid (fun (w' : World) (hb : Below w6.heap.size w6 w') => show Calls Tryd.prog 31 #[.pointer (some ⟨g, 0, none⟩)] w' (fun e w'' => e = .returned (.int .u32 (k.h.last : Nat)) ∧ w' = w'') from (HL6.out.after hb).last)
    obtain ⟨c0, c2⟩ := HC.out w6 (Below.refl _ _)
    have hB0 : Below w6.heap.size w6 w6.drew := below_drew (Below.refl _ _)
    have hw1 : IntKind.i64.wrap ((L1 : Int) - (L2 : Int)) = (L1 : Int) - (L2 : Int) := IntWalk.i64_in _ (by have := HR12.out; omega)
    have hw2 : wrap64 ((L1 : Int) - (L2 : Int)) = (L1 : Int) - (L2 : Int) := IntWalk.wrap64_in _ (by have := HR12.out; omega)
    have HLN := Lib.hid (show ∃ n, (liveO k.h l).length = n from ⟨_, rfl⟩)
    obtain ⟨nl, hnl⟩ := HLN.out
    have HNL := Lib.hid hnl
    rw [hnl] at HC c0 HO6 HV6 ⊢
    clear HLN hnl HTG HTH
    go_region_held3 (fun w' => w'.cell? ⟨b8, 0, none⟩ = some (.int .i64 (nl : Nat)) ∧ w'.cell? ⟨b8, 2, none⟩ = some (.int .i64 ((L1 : Int) - (L2 : Int))))
      (first | exact ⟨c0, c2⟩ | exact HC.out _ (by assumption) | go_keep)
      (first
        | (go_at_call 29; first
            | (with_reducible refine (HRG.out _ (by assumption)).mono ?_; rintro e wa ⟨ga, ca, rfl, ra, hba⟩; have hBa := below_top (by assumption) hba)
            | (with_reducible refine (HRH.out _ (by assumption)).mono ?_; rintro e wb ⟨gb, cb, rfl, rb, hbb⟩; have hBb := below_top (by assumption) hbb))
        | (go_at_call 28; first
            | (with_reducible refine (HAL.out _ (by assumption) _ _ _ _ ((ra.below hbb).more hbb.size) rb).mono ?_; rintro e wc ⟨rfl, hbc⟩; have hBc := below_top (by assumption) hbc)
            | (with_reducible refine (HAL.out _ (by assumption) _ _ _ _ ra ((rb.below hba).more hba.size)).mono ?_; rintro e wc ⟨rfl, hbc⟩; have hBc := below_top (by assumption) hbc))
        | (go_at_call 30; first
            | (with_reducible refine (HT1.out _ (by assumption)).mono ?_; rintro e wt ⟨rfl, rfl⟩)
            | (with_reducible refine (HT2.out _ (by assumption)).mono ?_; rintro e wt ⟨rfl, rfl⟩))
        | (go_at_call 31; first
            | (with_reducible refine (HS1.out _ (by assumption)).mono ?_; rintro e wt ⟨rfl, rfl⟩)
            | (with_reducible refine (HS2.out _ (by assumption)).mono ?_; rintro e wt ⟨rfl, rfl⟩)))
    have HBc := Lib.hid hBc
    have HLc := Lib.hid (HL6.out.after hBc)
    have HQc := Lib.hid (HQ6.out.after hBc)
    have HOc := Lib.hid (own_below HO6.out hBc)
    have HFI := Lib.hid (HLc.out.first)
    rw [first_oopI (col_good HG.out)] at HFI
    have hnb : nl ≤ 1048576 := by
      have h1 : (liveO k.h l).length ≤ (oopsL l).length := List.length_filter_le _ _
      have h2 := oopsL_le HG.out
      have h3 := HNL.out
      omega
    clear ra rb hba hbb hbc hBa hBb hBc hB0 c0 c2 hw1 hw2 HC HRG HRH HAL HT1 HT2 HS1 HS2 HL6 HQ6 HO6 HV6
    go_wp2_with fail
    refine HFI.out.mono ?_
    rintro e w8 ⟨rfl, rfl⟩
    go_wp2_with fail
    go_loopw [9, 77] (fun ov iv wr => ∃ t : Nat, ov = .int .u32 (oopI (colL k.h l) t : Nat) ∧ iv = .int .i64 t ∧ t ≤ nl ∧ Below wc.heap.size wc wr) (fun _ iv _ => nl - (intOf iv).toNat)
    case atStart => exact ⟨0, rfl, rfl, Nat.zero_le _, Below.refl _ _⟩
    case round =>
      obtain ⟨t, rfl, rfl, ht, hb⟩ := hrel
      have HB := Lib.hid hb
      clear hb
      by_cases hlt : t < nl
      · have hkz : t < (keepZ k.h l).length := by rw [keepZ_len]; have := HNL.out; omega
        have hkc : t < (colL k.h l).length := by rw [colL_len]; exact hkz
        obtain ⟨j, hj, e2, e3, -⟩ := keepZ_mem (List.getElem_mem hkz)
        have hcl : (liveO k.h l)[t]? = some (2 * posOf (l.take j)) := by
          rw [← keepZ_fst, List.getElem?_map, List.getElem?_eq_getElem hkz, ← e2]
          rfl
        have hck : (colL k.h l)[t] = relob (planM k.h l) (voidM k.h l) l[j] := by rw [colL_get hkz, e3]
        obtain ⟨gv, cv, hvv, hrv, _, _⟩ := Row.of_any (own_below HOc.out HB.out) (by omega)
        have hcell := hrv.cell (u32s_get' hcl)
        cases hvv
        have hoi : oopI (colL k.h l) t = 2 * posOf ((colL k.h l).take t) := by unfold oopI; rw [if_pos hkc]
        rw [hoi]
        have hib := isB_obj (col_good HG.out) hkc
        have ho32 := isB_u32 (col_good HG.out) hib
        have HIS := Lib.hid ((HLc.out.after HB.out).is _ ho32)
        rw [hib] at HIS
        have HH1 := Lib.hid (head_obj (HQc.out.after HB.out) HG.out hj)
        have HH2 := Lib.hid (fun (w' : World) (hb : Below wc.heap.size wc w') => show Calls Tryd.prog 25 #[.pointer (some ⟨g, 0, none⟩), .int .u32 (2 * posOf ((colL k.h l).take t) : Nat)] w' (Told (.tuple #[(relob (planM k.h l) (voidM k.h l) l[j]).x.val, .int .i64 0]) w') from by
          have hh := head_obj (HLc.out.after hb) (col_good HG.out) hkc
          rw [hck] at hh
          exact hh)
        have HNX := Lib.hid (fun (w' : World) (hb : Below wc.heap.size wc w') => (HLc.out.after hb).next _ ho32)
        have hnx : (colH k.h l).nextN (2 * posOf ((colL k.h l).take t)) = oopI (colL k.h l) (t + 1) ∧ (colH k.h l).isE (2 * posOf ((colL k.h l).take t)) = 0 := by
          constructor
          · unfold HM.nextN
            rw [if_pos hib]
            exact next_oopI (col_good HG.out) t hkc
          · unfold HM.isE
            simp [hib]
        rw [hnx.1, hnx.2] at HNX
        have HLT := Lib.hid hlt
        unfold relob at HH2
        unfold Hd.val at HH1 HH2
        simp only at HH2
        clear hnx hib ho32 hck hcl e2 e3 hrv hkc hkz hoi
        generalize (l[j]).x.cls = cl at *
        generalize whereM (planM k.h l) cl = cl2 at *
        generalize (l[j]).x.size = S at *
        generalize (l[j]).x.fmt = ft at *
        generalize (l[j]).x.spare = sp at *
        generalize (l[j]).x.ser = se at *
        generalize hon : oopI (colL k.h l) (t + 1) = on at *
        have HON := Lib.hid hon
        clear hon
        generalize 2 * posOf ((colL k.h l).take t) = o at *
        generalize 2 * posOf (l.take j) = pp at *
        go_wp2_with fail
        refine HIS.out.mono ?_
        rintro e w9 ⟨rfl, rfl⟩
        go_wp2_with fail
        refine HH1.out.mono ?_
        rintro e w10 ⟨rfl, hb10⟩
        have hb11 := hb10.alloc hb10.size (.cells #[.int .i64 (S : Nat), .int .i64 (ft : Nat), .int .i64 (sp : Nat), .int .u32 (cl : Nat), .int .u32 (se : Nat)] 56)
        have HY := Lib.hid (Blk.new w10 56 #[.int .i64 (S : Nat), .int .i64 (ft : Nat), .int .i64 (sp : Nat), .int .u32 (cl : Nat), .int .u32 (se : Nat)])
        have HB11 := Lib.hid (below_top HB.out hb11)
        clear hb10 hb11 hcell
        go_upto_region 16 with fail
        generalize w10.alloc (.cells #[.int .i64 (S : Nat), .int .i64 (ft : Nat), .int .i64 (sp : Nat), .int .u32 (cl : Nat), .int .u32 (se : Nat)] 56) = w11 at *
        generalize w10.heap.size = b12 at *
        go_wp2_with fail
        refine (HH2.out _ HB11.out).mono ?_
        rintro e w12 ⟨rfl, hb12⟩
        have hb13 := hb12.alloc hb12.size (.cells #[.int .i64 (S : Nat), .int .i64 (ft : Nat), .int .i64 (sp : Nat), .int .u32 (cl2 : Nat), .int .u32 (se : Nat)] 56)
        have HZ := Lib.hid (Blk.new w12 56 #[.int .i64 (S : Nat), .int .i64 (ft : Nat), .int .i64 (sp : Nat), .int .u32 (cl2 : Nat), .int .u32 (se : Nat)])
        have HY13 := Lib.hid (HY.out.below hb13 HY.out.lt)
        have HB13 := Lib.hid (below_top HB11.out hb13)
        clear hb12 hb13
        go_upto_region 17 with fail
        generalize w12.alloc (.cells #[.int .i64 (S : Nat), .int .i64 (ft : Nat), .int .i64 (sp : Nat), .int .u32 (cl2 : Nat), .int .u32 (se : Nat)] 56) = w13 at *
        generalize w12.heap.size = b14 at *
        have y4 := HY13.out.cell 4
        have z4 := HZ.out.cell 4
        go_wp2_with fail
        refine (HNX.out _ HB13.out).mono ?_
        rintro e w14 ⟨rfl, hb14⟩
        have HB14 := Lib.hid (below_top HB13.out hb14)
        clear hb14 y4 z4
        go_wp2_with fail
        go_roundw
        case rel => exact ⟨t + 1, by rw [HON.out], by go_num, HLT.out, HB14.out⟩
        case measure => have := HLT.out; simp [intOf]; omega
      · obtain rfl : t = nl := by omega
        have hoi : oopI (colL k.h l) t = 0 := by
          unfold oopI
          rw [if_neg (by rw [colL_len, keepZ_len]; have := HNL.out; omega)]
        rw [hoi]
        have HF := Lib.hid (below_top HB1.out (below_top HLc.out.below HB.out))
        clear hlt ht hoi
        go_wp2_with fail
        go_ret
        exact ⟨rfl, HF.out⟩
end Go.Proofs.YtblekggklimpeaaDoor
