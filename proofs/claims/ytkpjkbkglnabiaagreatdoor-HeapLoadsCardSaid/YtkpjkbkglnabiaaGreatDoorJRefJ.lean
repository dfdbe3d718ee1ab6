/- The document's heap: Alloc. -/
/- The document's heap: First, Next, Find. -/
/- The document's heap: Bytes. -/
/- The document's heap: Show. -/
/- The document's heaps: Alike. -/
/- The document's heap: Copy (in work). -/
/- Two heaps side by side: the program's, and the document's. -/
import Derived.Test.YtkpjkbkglnabiaaGreatDoorRefI
import Derived.Test.YtkpjkbkglnabiaaGreatDoorJRefA
import Derived.Test.YtkpjkbkglnabiaaGreatDoorPackB
import Derived.Test.YtkpjkbkglnabiaaGreatDoorLive
import Derived.Test.YtkpjkbkglnabiaaGreatDoorJSnd
import Derived.Test.YtkpjkbkglnabiaaGreatDoorBytesOf
import Derived.Test.YtkpjkbkglnabiaaGreatDoorShow
import Derived.Test.YtkpjkbkglnabiaaGreatDoorSame
import Derived.Test.YtkpjkbkglnabiaaGreatDoorJBoth
set_option linter.unusedSectionVars false
set_option linter.unusedVariables false
namespace Go.Proofs.YtkpjkbkglnabiaaGreatDoor
open Go.RowKit
attribute [local go_sem] Oper.semAt_some

theorem RMade.after {p : HP} {h' : HM} {v : Value} {w w1 w' : World} {e : Ending} (m : RMade p h' v w1 e w') (hb : Below w.heap.size w w1) : RMade p h' v w e w' := by
  obtain ⟨p', h1, h2, h3⟩ := m
  exact ⟨p', h1, h2, (Step.of_below hb).trans h3⟩
theorem rep_at (k n a b : Nat) (hk : k < n) : (List.replicate k a ++ List.replicate (n - k) b)[k]? = some b := by
  rw [List.getElem?_append_right (by simp), List.length_replicate, Nat.sub_self, List.getElem?_replicate, if_pos (by omega)]
theorem set_replicate_app (k n a b : Nat) (hk : k < n) : (List.replicate k a ++ List.replicate (n - k) b).set k a = List.replicate (k + 1) a ++ List.replicate (n - (k + 1)) b := by
  rw [List.set_append_right _ _ (by simp), List.length_replicate, Nat.sub_self, show n - k = (n - (k + 1)) + 1 by omega, List.replicate_succ, List.set_cons_zero, List.replicate_succ' (n := k)]
  simp
theorem push_eq {h : HM} (c t k : Nat) (hcl : h.clsB c = true) :
    h.allocH (mkHd c t k) = (if h.size < h.words.length + 3 + k ∨ h.last = 4294967295 then h else h.pushH ⟨k, t, 0, c, 0⟩ (List.replicate k (if t = 1 ∨ t = 4 then h.roots.getD 0 0 else 0))) ∧
    h.allocV (mkHd c t k) = (if h.size < h.words.length + 3 + k ∨ h.last = 4294967295 then .tuple #[.int .u32 0, .int .i64 4] else .tuple #[.int .u32 (2 * h.words.length : Nat), .int .i64 0]) := by
  unfold HM.allocH HM.allocV HM.allocE
  have e : mkHd c (t : Int) (k : Int) = ⟨k, t, 0, c, 0⟩ := rfl
  rw [e]
  dsimp only
  rw [hcl]
  have hf : h.fill ⟨k, t, 0, c, 0⟩ = (if t = 1 ∨ t = 4 then h.roots.getD 0 0 else 0) := by
    unfold HM.fill Hd.ptrB
    by_cases ht : t = 1 ∨ t = 4
    · simp [ht]
    · simp [ht]
  rw [hf]
  by_cases hfull : h.size < h.words.length + 3 + k ∨ h.last = 4294967295
  · simp [hfull]
  · simp [hfull]
theorem make_eq {h : HM} (c : Nat) (bs : List Nat) (hl : bs.length ≤ 262140) (hcl : h.clsB c = true) :
    h.makeH c bs = (if h.size < h.words.length + 3 + (bs.length + 3) / 4 ∨ h.last = 4294967295 then h else h.pushH (makeX c bs) (packM bs)) ∧
    h.makeV c bs = (if h.size < h.words.length + 3 + (bs.length + 3) / 4 ∨ h.last = 4294967295 then .tuple #[.int .u32 0, .int .i64 4] else .tuple #[.int .u32 (2 * h.words.length : Nat), .int .i64 0]) := by
  have e0 : h.makeE c bs = h.allocE (makeX c bs) := by unfold HM.makeE; rw [if_neg (by omega)]
  unfold HM.makeH HM.makeV
  rw [e0]
  unfold HM.allocE
  rw [show (makeX c bs).cls = c from rfl, hcl, show (makeX c bs).size = (bs.length + 3) / 4 from rfl]
  by_cases hfull : h.size < h.words.length + 3 + (bs.length + 3) / 4 ∨ h.last = 4294967295
  · simp [hfull]
  · simp [hfull]
section
variable {w : World} {p : HP} {h : HM} (R : RAt w p h) (f : h.Fit)
include R f
set_option maxRecDepth 100000 in
set_option maxHeartbeats 4000000 in
theorem rAlloc_any (c : Nat) (hc : c < 4294967296) (t n : Int) :
    Calls Tryz.prog 29 #[ptr p.g, .int .u32 c, .int .i64 t, .int .i64 n] w (RMade p (h.AllocH c t n) (h.AllocV c t n) w) := by
  have bad : allocOk t n = false → (h.AllocH c t n = h ∧ h.AllocV c t n = .tuple #[.int .u32 0, .int .i64 1]) := fun e => by simp [HM.AllocH, HM.AllocV, e]
  have HK := Lib.hid (risclass_any R f c hc)
  have HR := Lib.hid R
  by_cases h1 : t < 1
  · have HF := Lib.hid (bad (by simp [allocOk]; omega))
    clear bad
    go_enter Tryz.func29, Tryz.ntmps29
    go_wp2_with fail
    go_ret2
    exact ⟨p, by rw [HF.out.2]; rfl, by rw [HF.out.1]; exact HR.out, Step.refl _ _⟩
  by_cases h2 : 4 < t
  · have HF := Lib.hid (bad (by simp [allocOk]; omega))
    clear bad
    go_enter Tryz.func29, Tryz.ntmps29
    go_wp2_with fail
    go_ret2
    exact ⟨p, by rw [HF.out.2]; rfl, by rw [HF.out.1]; exact HR.out, Step.refl _ _⟩
  by_cases h3 : n < 0
  · have HF := Lib.hid (bad (by simp [allocOk]; omega))
    clear bad
    go_enter Tryz.func29, Tryz.ntmps29
    go_wp2_with fail
    go_ret2
    exact ⟨p, by rw [HF.out.2]; rfl, by rw [HF.out.1]; exact HR.out, Step.refl _ _⟩
  by_cases h4 : 65535 < n
  · have HF := Lib.hid (bad (by simp [allocOk]; omega))
    clear bad
    go_enter Tryz.func29, Tryz.ntmps29
    go_wp2_with fail
    go_ret2
    exact ⟨p, by rw [HF.out.2]; rfl, by rw [HF.out.1]; exact HR.out, Step.refl _ _⟩
  obtain ⟨k, rfl⟩ := Int.eq_ofNat_of_zero_le (by omega : 0 ≤ n)
  have hn : k ≤ 65535 := by omega
  unfold ptr at HK ⊢
  cases hcl : h.clsB c
  · have HF := Lib.hid (show h.AllocH c t (k : Int) = h ∧ h.AllocV c t (k : Int) = .tuple #[.int .u32 0, .int .i64 3] by
      unfold HM.AllocH HM.AllocV
      have : allocOk t (k : Int) = true := by simp [allocOk]; omega
      rw [if_pos this, if_pos this]
      unfold HM.allocH HM.allocV HM.allocE mkHd
      simp [hcl])
    rw [hcl] at HK
    clear hcl bad R
    go_enter Tryz.func29, Tryz.ntmps29
    go_wp2_with fail
    refine HK.out.mono ?_
    rintro e w1 ⟨rfl, rfl⟩
    go_wp2_with fail
    go_ret2
    exact ⟨p, by rw [HF.out.2]; rfl, by rw [HF.out.1]; exact HR.out, Step.refl _ _⟩
  · rw [hcl] at HK
    have hmk := make_u32 k (by omega)
    have hrl := f.roots
    have HFIT := Lib.hid f
    have HCL := Lib.hid hcl
    have hnp : ¬ p.has w.heap.size := fun hh => by have := R.lt hh; omega
    have HNP := Lib.hid hnp
    clear bad hcl hnp
    rcases (by omega : t = 1 ∨ t = 4 ∨ t = 2 ∨ t = 3) with rfl | rfl | rfl | rfl
    · have HF := Lib.hid (show h.AllocH c 1 (k : Int) = (if h.size < h.words.length + 3 + k ∨ h.last = 4294967295 then h else h.pushH ⟨k, 1, 0, c, 0⟩ (List.replicate k (h.roots.getD 0 0))) ∧
          h.AllocV c 1 (k : Int) = (if h.size < h.words.length + 3 + k ∨ h.last = 4294967295 then .tuple #[.int .u32 0, .int .i64 4] else .tuple #[.int .u32 (2 * h.words.length : Nat), .int .i64 0]) by
        have hok : allocOk 1 (k : Int) = true := by simp [allocOk]; omega
        unfold HM.AllocH HM.AllocV
        rw [if_pos hok, if_pos hok]
        exact push_eq c 1 k HCL.out)
      have HLY := Lib.hid (fun wr hb hr => rlay_any (w := wr) (R.below hb) f c 1 0 w.heap.size k (List.replicate k (h.roots.getD 0 0)) hc (by omega) (by omega) hn (by simp) hr HNP.out)
      have HC2 := Lib.hid (fun wr (hb : Below w.heap.size w wr) => (R.below hb).c2)
      have HC0 := Lib.hid (fun wr (hb : Below w.heap.size w wr) => (R.below hb).root (i := 0) (by omega))
      generalize h.roots.getD 0 0 = r0 at *
      clear R
      go_enter Tryz.func29, Tryz.ntmps29
      go_wp2_with fail
      refine HK.out.mono ?_
      rintro e w1 ⟨rfl, rfl⟩
      go_wp2_with fail
      have HS := Lib.hid (zcells_row w 29 k 0 (by simp only [maxLen]; omega))
      have HB0 := Lib.hid (show Below w.heap.size w (w.alloc (.cells (zcells (.int .u32 0) k) 29)) from (Below.refl _ _).alloc (Nat.le_refl _) _)
      clear hmk
      go_loopw [11] (fun i wr => ∃ j : Nat, j ≤ k ∧ i = .int .i64 j ∧ Row wr w.heap.size 29 k (u32s (List.replicate j r0 ++ List.replicate (k - j) 0)) ∧ Below w.heap.size w wr) (fun i _ => k - (intOf i).toNat)
      case atStart => exact ⟨0, by omega, rfl, by simpa using HS.out, HB0.out⟩
      case round =>
        obtain ⟨j, hj, rfl, hrow, hbel⟩ := hrel
        have HBEL := Lib.hid hbel
        rcases Nat.lt_or_ge j k with hlt | hge
        · have hset := hrow.set j (.int .u32 (r0 : Int))
          rw [show (u32s (List.replicate j r0 ++ List.replicate (k - j) 0)).set j (.int .u32 (r0 : Int)) = u32s (List.replicate (j + 1) r0 ++ List.replicate (k - (j + 1)) 0) by rw [← set_replicate_app j k r0 0 hlt]; simp [u32s, List.map_set]] at hset
          have hcw := hrow.cell (i := j) (u := .int .u32 0) (by simp only [u32s, List.getElem?_map, rep_at j k r0 0 hlt]; rfl)
          have hcf := hrow.frozen j
          have HSET := Lib.hid hset
          have k2 := HC2.out wr hbel
          have k3 := HC0.out wr hbel
          rw [hrl] at k2
          clear hset hrow hbel HS HB0
          have hjk : (j : Int) < (k : Int) := by omega
          go_wp2_with fail
          go_roundw
          case rel => exact ⟨j + 1, by omega, by go_num, HSET.out, HBEL.out.setCell (p := ⟨w.heap.size, j, none⟩) (Nat.le_refl _) _⟩
          case measure => simp [intOf]; omega
        · obtain rfl : j = k := by omega
          have hrow' : Row wr w.heap.size 29 j (u32s (List.replicate j r0)) := by simpa using hrow
          have HLC := Lib.hid (HLY.out wr hbel hrow')
          rw [← HF.out.1, ← HF.out.2, HM.AllocV_eq] at HLC
          clear hrow hrow' hbel HLY HS HB0
          go_wp2_with fail
          refine HLC.out.mono ?_
          rintro e w2 ⟨p2, rfl, R2, S2⟩
          have HR2 := Lib.hid R2
          have HS2 := Lib.hid S2
          clear R2 S2
          go_wp2_with fail
          go_ret2
          exact ⟨p2, by rw [HM.AllocV_eq]; rfl, HR2.out, (Step.of_below HBEL.out).trans HS2.out⟩
    · have HF := Lib.hid (show h.AllocH c 4 (k : Int) = (if h.size < h.words.length + 3 + k ∨ h.last = 4294967295 then h else h.pushH ⟨k, 4, 0, c, 0⟩ (List.replicate k (h.roots.getD 0 0))) ∧
          h.AllocV c 4 (k : Int) = (if h.size < h.words.length + 3 + k ∨ h.last = 4294967295 then .tuple #[.int .u32 0, .int .i64 4] else .tuple #[.int .u32 (2 * h.words.length : Nat), .int .i64 0]) by
        have hok : allocOk 4 (k : Int) = true := by simp [allocOk]; omega
        unfold HM.AllocH HM.AllocV
        rw [if_pos hok, if_pos hok]
        exact push_eq c 4 k HCL.out)
      have HLY := Lib.hid (fun wr hb hr => rlay_any (w := wr) (R.below hb) f c 4 0 w.heap.size k (List.replicate k (h.roots.getD 0 0)) hc (by omega) (by omega) hn (by simp) hr HNP.out)
      have HC2 := Lib.hid (fun wr (hb : Below w.heap.size w wr) => (R.below hb).c2)
      have HC0 := Lib.hid (fun wr (hb : Below w.heap.size w wr) => (R.below hb).root (i := 0) (by omega))
      generalize h.roots.getD 0 0 = r0 at *
      clear R
      go_enter Tryz.func29, Tryz.ntmps29
      go_wp2_with fail
      refine HK.out.mono ?_
      rintro e w1 ⟨rfl, rfl⟩
      go_wp2_with fail
      have HS := Lib.hid (zcells_row w 29 k 0 (by simp only [maxLen]; omega))
      have HB0 := Lib.hid (show Below w.heap.size w (w.alloc (.cells (zcells (.int .u32 0) k) 29)) from (Below.refl _ _).alloc (Nat.le_refl _) _)
      clear hmk
      go_loopw [11] (fun i wr => ∃ j : Nat, j ≤ k ∧ i = .int .i64 j ∧ Row wr w.heap.size 29 k (u32s (List.replicate j r0 ++ List.replicate (k - j) 0)) ∧ Below w.heap.size w wr) (fun i _ => k - (intOf i).toNat)
      case atStart => exact ⟨0, by omega, rfl, by simpa using HS.out, HB0.out⟩
      case round =>
        obtain ⟨j, hj, rfl, hrow, hbel⟩ := hrel
        have HBEL := Lib.hid hbel
        rcases Nat.lt_or_ge j k with hlt | hge
        · have hset := hrow.set j (.int .u32 (r0 : Int))
          rw [show (u32s (List.replicate j r0 ++ List.replicate (k - j) 0)).set j (.int .u32 (r0 : Int)) = u32s (List.replicate (j + 1) r0 ++ List.replicate (k - (j + 1)) 0) by rw [← set_replicate_app j k r0 0 hlt]; simp [u32s, List.map_set]] at hset
          have hcw := hrow.cell (i := j) (u := .int .u32 0) (by simp only [u32s, List.getElem?_map, rep_at j k r0 0 hlt]; rfl)
          have hcf := hrow.frozen j
          have HSET := Lib.hid hset
          have k2 := HC2.out wr hbel
          have k3 := HC0.out wr hbel
          rw [hrl] at k2
          clear hset hrow hbel HS HB0
          have hjk : (j : Int) < (k : Int) := by omega
          go_wp2_with fail
          go_roundw
          case rel => exact ⟨j + 1, by omega, by go_num, HSET.out, HBEL.out.setCell (p := ⟨w.heap.size, j, none⟩) (Nat.le_refl _) _⟩
          case measure => simp [intOf]; omega
        · obtain rfl : j = k := by omega
          have hrow' : Row wr w.heap.size 29 j (u32s (List.replicate j r0)) := by simpa using hrow
          have HLC := Lib.hid (HLY.out wr hbel hrow')
          rw [← HF.out.1, ← HF.out.2, HM.AllocV_eq] at HLC
          clear hrow hrow' hbel HLY HS HB0
          go_wp2_with fail
          refine HLC.out.mono ?_
          rintro e w2 ⟨p2, rfl, R2, S2⟩
          have HR2 := Lib.hid R2
          have HS2 := Lib.hid S2
          clear R2 S2
          go_wp2_with fail
          go_ret2
          exact ⟨p2, by rw [HM.AllocV_eq]; rfl, HR2.out, (Step.of_below HBEL.out).trans HS2.out⟩
    · have HF := Lib.hid (show h.AllocH c 2 (k : Int) = (if h.size < h.words.length + 3 + k ∨ h.last = 4294967295 then h else h.pushH ⟨k, 2, 0, c, 0⟩ (List.replicate k 0)) ∧
          h.AllocV c 2 (k : Int) = (if h.size < h.words.length + 3 + k ∨ h.last = 4294967295 then .tuple #[.int .u32 0, .int .i64 4] else .tuple #[.int .u32 (2 * h.words.length : Nat), .int .i64 0]) by
        have hok : allocOk 2 (k : Int) = true := by simp [allocOk]; omega
        unfold HM.AllocH HM.AllocV
        rw [if_pos hok, if_pos hok]
        exact push_eq c 2 k HCL.out)
      have HLY := Lib.hid (fun wr hb hr => rlay_any (w := wr) (R.below hb) f c 2 0 w.heap.size k (List.replicate k 0) hc (by omega) (by omega) hn (by simp) hr HNP.out)
      clear R
      go_enter Tryz.func29, Tryz.ntmps29
      go_wp2_with fail
      refine HK.out.mono ?_
      rintro e w1 ⟨rfl, rfl⟩
      go_wp2_with fail
      have HS := Lib.hid (zcells_row w 29 k 0 (by simp only [maxLen]; omega))
      have HB0 := Lib.hid (show Below w.heap.size w (w.alloc (.cells (zcells (.int .u32 0) k) 29)) from (Below.refl _ _).alloc (Nat.le_refl _) _)
      clear hmk
      go_loopw [11] (fun i wr => i = .int .i64 0 ∧ wr = w.alloc (.cells (zcells (.int .u32 0) k) 29)) (fun _ _ => 0)
      case atStart => exact ⟨rfl, rfl⟩
      case round =>
        obtain ⟨rfl, rfl⟩ := hrel
        have HLC := Lib.hid (HLY.out _ HB0.out HS.out)
        rw [← HF.out.1, ← HF.out.2, HM.AllocV_eq] at HLC
        clear HLY HS
        rcases Nat.eq_zero_or_pos k with h0 | h0
        · subst h0
          go_wp2_with fail
          refine HLC.out.mono ?_
          rintro e w2 ⟨p2, rfl, R2, S2⟩
          have HR2 := Lib.hid R2
          have HS2 := Lib.hid S2
          clear R2 S2
          go_wp2_with fail
          go_ret2
          exact ⟨p2, by rw [HM.AllocV_eq]; rfl, HR2.out, (Step.of_below HB0.out).trans HS2.out⟩
        · have hz : decide ((0 : Int) < (k : Int)) = true := by simp; omega
          go_wp2_with fail
          refine HLC.out.mono ?_
          rintro e w2 ⟨p2, rfl, R2, S2⟩
          have HR2 := Lib.hid R2
          have HS2 := Lib.hid S2
          clear R2 S2
          go_wp2_with fail
          go_ret2
          exact ⟨p2, by rw [HM.AllocV_eq]; rfl, HR2.out, (Step.of_below HB0.out).trans HS2.out⟩
    · have HF := Lib.hid (show h.AllocH c 3 (k : Int) = (if h.size < h.words.length + 3 + k ∨ h.last = 4294967295 then h else h.pushH ⟨k, 3, 0, c, 0⟩ (List.replicate k 0)) ∧
          h.AllocV c 3 (k : Int) = (if h.size < h.words.length + 3 + k ∨ h.last = 4294967295 then .tuple #[.int .u32 0, .int .i64 4] else .tuple #[.int .u32 (2 * h.words.length : Nat), .int .i64 0]) by
        have hok : allocOk 3 (k : Int) = true := by simp [allocOk]; omega
        unfold HM.AllocH HM.AllocV
        rw [if_pos hok, if_pos hok]
        exact push_eq c 3 k HCL.out)
      have HLY := Lib.hid (fun wr hb hr => rlay_any (w := wr) (R.below hb) f c 3 0 w.heap.size k (List.replicate k 0) hc (by omega) (by omega) hn (by simp) hr HNP.out)
      clear R
      go_enter Tryz.func29, Tryz.ntmps29
      go_wp2_with fail
      refine HK.out.mono ?_
      rintro e w1 ⟨rfl, rfl⟩
      go_wp2_with fail
      have HS := Lib.hid (zcells_row w 29 k 0 (by simp only [maxLen]; omega))
      have HB0 := Lib.hid (show Below w.heap.size w (w.alloc (.cells (zcells (.int .u32 0) k) 29)) from (Below.refl _ _).alloc (Nat.le_refl _) _)
      clear hmk
      go_loopw [11] (fun i wr => i = .int .i64 0 ∧ wr = w.alloc (.cells (zcells (.int .u32 0) k) 29)) (fun _ _ => 0)
      case atStart => exact ⟨rfl, rfl⟩
      case round =>
        obtain ⟨rfl, rfl⟩ := hrel
        have HLC := Lib.hid (HLY.out _ HB0.out HS.out)
        rw [← HF.out.1, ← HF.out.2, HM.AllocV_eq] at HLC
        clear HLY HS
        rcases Nat.eq_zero_or_pos k with h0 | h0
        · subst h0
          go_wp2_with fail
          refine HLC.out.mono ?_
          rintro e w2 ⟨p2, rfl, R2, S2⟩
          have HR2 := Lib.hid R2
          have HS2 := Lib.hid S2
          clear R2 S2
          go_wp2_with fail
          go_ret2
          exact ⟨p2, by rw [HM.AllocV_eq]; rfl, HR2.out, (Step.of_below HB0.out).trans HS2.out⟩
        · have hz : decide ((0 : Int) < (k : Int)) = true := by simp; omega
          go_wp2_with fail
          refine HLC.out.mono ?_
          rintro e w2 ⟨p2, rfl, R2, S2⟩
          have HR2 := Lib.hid R2
          have HS2 := Lib.hid S2
          clear R2 S2
          go_wp2_with fail
          go_ret2
          exact ⟨p2, by rw [HM.AllocV_eq]; rfl, HR2.out, (Step.of_below HB0.out).trans HS2.out⟩
set_option maxRecDepth 100000 in
set_option maxHeartbeats 4000000 in
theorem rMake_any (c : Nat) (hc : c < 4294967296) (A : Option Addr) (n cap : Nat) (bs : List Nat) (hn : n ≤ 9223372036854775807) (hr : Reads w w.heap.size 1 A n (u8c bs)) (hb : ∀ x ∈ bs, x < 256) :
    Calls Tryz.prog 30 #[ptr p.g, .int .u32 c, .slice A n cap] w (RMade p (h.makeH c bs) (h.makeV c bs) w) := by
  have hl : bs.length = n := by have := hr.1; simpa [u8c] using this
  have HK := Lib.hid (risclass_any R f c hc)
  have HR := Lib.hid R
  unfold ptr at HK ⊢
  by_cases hlong : 262140 < n
  · have HF := Lib.hid (show h.makeH c bs = h ∧ h.makeV c bs = .tuple #[.int .u32 0, .int .i64 2] by simp [HM.makeH, HM.makeV, HM.makeE, hl, hlong])
    clear hl hr R
    go_enter Tryz.func30, Tryz.ntmps30
    go_wp2_with fail
    go_ret2
    exact ⟨p, by rw [HF.out.2]; rfl, by rw [HF.out.1]; exact HR.out, Step.refl _ _⟩
  cases hcl : h.clsB c
  · have HF := Lib.hid (show h.makeH c bs = h ∧ h.makeV c bs = .tuple #[.int .u32 0, .int .i64 3] by
      have e : (makeX c bs).cls = c := rfl
      simp [HM.makeH, HM.makeV, HM.makeE, HM.allocE, hl, hlong, e, hcl])
    rw [hcl] at HK
    clear hl hr R hcl
    go_enter Tryz.func30, Tryz.ntmps30
    go_wp2_with fail
    refine HK.out.mono ?_
    rintro e w1 ⟨rfl, rfl⟩
    go_wp2_with fail
    go_ret2
    exact ⟨p, by rw [HF.out.2]; rfl, by rw [HF.out.1]; exact HR.out, Step.refl _ _⟩
  · rw [hcl] at HK
    have HE := Lib.hid (make_eq (h := h) c bs (by omega) hcl)
    have HLN := Lib.hid (rlength_any n (by omega) w)
    have HPK := Lib.hid (rpackBytes_any (w := w) A n cap w.heap.size bs (by omega) hr (Nat.le_refl _) hb)
    have hpl := packM_len bs
    rw [hl] at hpl
    have HLY := Lib.hid (fun wr gf (hb : Below w.heap.size w wr) (hg : w.heap.size ≤ gf) hrow => rlay_any (w := wr) (R.below hb) f c 2 (4 * ((n + 3) / 4) - n) gf ((n + 3) / 4) (packM bs) hc (by omega) (by omega) (by omega) hpl hrow
      (fun hh => by have := R.lt hh; omega))
    have hx : (⟨(n + 3) / 4, 2, 4 * ((n + 3) / 4) - n, c, 0⟩ : Hd) = makeX c bs := by unfold makeX; rw [hl]
    rw [hx] at HLY
    rw [hl] at HE
    rw [← HE.out.1, ← HE.out.2, HM.makeV_eq] at HLY
    unfold RPackB at HPK
    rw [hpl] at HPK
    clear hx HE hr R hcl hpl hl
    generalize 4 * ((n + 3) / 4) - n = sp at *
    generalize (n + 3) / 4 = F at *
    go_enter Tryz.func30, Tryz.ntmps30
    go_wp2_with fail
    refine HK.out.mono ?_
    rintro e w1 ⟨rfl, rfl⟩
    go_wp2_with fail
    refine HLN.out.mono ?_
    rintro e w1 ⟨rfl, rfl⟩
    go_wp2_with fail
    refine HPK.out.mono ?_
    rintro e w1 ⟨gf, rfl, hrow, hge, hbel⟩
    have HLC := Lib.hid (HLY.out w1 gf hbel hge hrow)
    have HBEL := Lib.hid hbel
    clear hrow hge hbel HPK HLY
    go_wp2_with fail
    refine HLC.out.mono ?_
    rintro e w2 ⟨p2, rfl, R2, S2⟩
    have HR2 := Lib.hid R2
    have HS2 := Lib.hid S2
    clear R2 S2
    go_wp2_with fail
    go_ret2
    exact ⟨p2, by rw [HM.makeV_eq]; rfl, HR2.out, (Step.of_below HBEL.out).trans HS2.out⟩
end
end Go.Proofs.YtkpjkbkglnabiaaGreatDoor

namespace Go.Proofs.YtkpjkbkglnabiaaGreatDoor
open Go.RowKit
attribute [local go_sem] Oper.semAt_some
theorem findN_first {l : List Ob} {k : Nat} (hk : k < l.length) (h : ∀ j (hj : j < k), (l[j]'(by omega)).x.ser ≠ (l[k]'hk).x.ser) : findN l (l[k]'hk).x.ser = 2 * posOf (l.take k) := by
  unfold findN oopI
  have : l.findIdx (fun b => b.x.ser == (l[k]'hk).x.ser) = k := by
    rw [List.findIdx_eq hk]
    exact ⟨by simp, fun j hj => by simpa using h j hj⟩
  rw [this, if_pos hk]
section
variable {w : World} {p : HP} {h : HM} (R : RAt w p h) (f : h.Fit)
include R f
theorem rfirst_any : Calls Tryz.prog 86 #[ptr p.g] w (Said (.int .u32 (h.objM 1 : Nat)) w) := by
  have c1 := R.c1
  have hone := f.one
  have hroom := f.room
  have hhi := f.hi
  unfold ptr
  by_cases h1 : h.words.length = 1
  · have HF := Lib.hid (show h.objM 1 = 0 by unfold HM.objM; rw [if_pos (by omega)])
    have hb : (((h.words.length : Nat) : Int) == 1) = true := by simp; omega
    clear h1 R
    generalize h.words.length = N at *
    go_enter Tryz.func86, Tryz.ntmps86
    go_wp2_with fail
    go_ret
    exact ⟨by rw [HF.out]; rfl, rfl⟩
  · have HF := Lib.hid (show h.objM 1 = 2 by unfold HM.objM; rw [if_neg (by omega)])
    have hb : (((h.words.length : Nat) : Int) == 1) = false := by simp; omega
    clear h1 R
    generalize h.words.length = N at *
    go_enter Tryz.func86, Tryz.ntmps86
    go_wp2_with fail
    go_ret
    exact ⟨by rw [HF.out]; rfl, rfl⟩
set_option maxRecDepth 100000 in
set_option maxHeartbeats 4000000 in
theorem rnext_any (hh : h.Heads) (o : Nat) (ho : o < 4294967296) (hi : h.isB o = true) : Calls Tryz.prog 91 #[ptr p.g, .int .u32 o] w (Told (.int .u32 (h.nextO o : Nat)) w) := by
  have hd := HM.isB_hd hh hi
  have HH := Lib.hid (rheader_any R f o ho hd)
  have HC := Lib.hid (fun w' (hb : Below w.heap.size w w') => (R.below hb).c1)
  have hfl := fld0
  have hroom := f.room
  have hhi := f.hi
  have hle := hd.1
  have hs := (HM.hd_fit f (o / 2)).size
  unfold Hd.val at HH
  unfold ptr at HH ⊢
  have hq : ((o : Int) / 2) = ((o / 2 : Nat) : Int) := by omega
  have HN : h.nextO o = h.objM (o / 2 + 3 + (h.hd (o / 2)).size) := rfl
  clear R hi hd
  generalize h.hd (o / 2) = X at *
  generalize o / 2 = q at *
  have HF := Lib.hid HN
  clear HN
  by_cases he : q + 3 + X.size = h.words.length
  · have HF2 := Lib.hid (show h.nextO o = 0 by rw [HF.out]; unfold HM.objM; rw [if_pos (by omega)])
    have hb : (((q : Int) + 3 + (X.size : Int)) == ((h.words.length : Nat) : Int)) = true := by simp; omega
    clear HF
    generalize h.words.length = N at *
    go_enter Tryz.func91, Tryz.ntmps91
    go_wp2_with fail
    refine HH.out.mono ?_
    rintro e w1 ⟨rfl, hb1⟩
    have c1 := HC.out w1 hb1
    have HB1 := Lib.hid hb1
    clear hb1 HC
    go_wp2_with fail
    go_ret
    exact ⟨by rw [HF2.out]; rfl, HB1.out⟩
  · have HF2 := Lib.hid (show h.nextO o = 2 * (q + 3 + X.size) by rw [HF.out]; unfold HM.objM; rw [if_neg (by omega)])
    have hb : (((q : Int) + 3 + (X.size : Int)) == ((h.words.length : Nat) : Int)) = false := by simp; omega
    clear HF
    generalize h.words.length = N at *
    go_enter Tryz.func91, Tryz.ntmps91
    go_wp2_with fail
    refine HH.out.mono ?_
    rintro e w1 ⟨rfl, hb1⟩
    have c1 := HC.out w1 hb1
    have HB1 := Lib.hid hb1
    clear hb1 HC
    go_wp2_with fail
    go_ret
    exact ⟨by rw [HF2.out]; rw [show (((2 * (q + 3 + X.size) : Nat)) : Int) = 2 * ((q : Int) + 3 + (X.size : Int)) by omega]; rfl, HB1.out⟩
set_option maxRecDepth 100000 in
set_option maxHeartbeats 4000000 in
theorem rfind_any {l : List Ob} (G : h.Good l) (s : Nat) (hs32 : s < 4294967296) : Calls Tryz.prog 88 #[ptr p.g, .int .u32 s] w (Told (.int .u32 (findN l s : Nat)) w) := by
  have HFS := Lib.hid (rfirst_any R f)
  rw [first_oopI G] at HFS
  have HG := Lib.hid G
  have HO := Lib.hid (fun k (hk : k < l.length) => show oopI l k = 2 * posOf (l.take k) ∧ 2 * posOf (l.take k) < 4294967296 ∧ 2 * posOf (l.take k) ≠ 0 by
    have h1 := posOf_take_lt G k hk
    have h2 := posOf_pos (l.take k)
    have h3 := f.room
    have h4 := f.hi
    unfold oopI
    rw [if_pos hk]
    exact ⟨rfl, by omega, by omega⟩)
  have HH := Lib.hid (fun k (hk : k < l.length) w' (hb : Below w.heap.size w w') => by
    have h1 := rheader_any (R.below hb) f (2 * posOf (l.take k)) (HO.out k hk).2.1 (HM.isB_hd G.laid.heads (isB_at G k hk))
    rw [half_pos, hd_at' G k hk] at h1
    exact h1)
  have HN := Lib.hid (fun k (hk : k < l.length) w' (hb : Below w.heap.size w w') => by
    have h1 := rnext_any (R.below hb) f G.laid.heads (2 * posOf (l.take k)) (HO.out k hk).2.1 (isB_at G k hk)
    rw [next_oopI G k hk] at h1
    exact h1)
  have hfl := fld4
  have H0 := Lib.hid (show oopI l l.length = 0 by unfold oopI; rw [if_neg (by omega)])
  unfold ptr at HFS HH HN ⊢
  clear G R
  go_enter Tryz.func88, Tryz.ntmps88
  go_wp2_with fail
  refine HFS.out.mono ?_
  rintro e w1 ⟨rfl, rfl⟩
  go_wp2_with fail
  have hsz : ∀ k, k < l.length → posOf (l.take k) < 1048576 := fun k hk => by have := posOf_take_lt HG.out k hk; have := f.room; have := f.hi; omega
  have HSZ := Lib.hid hsz
  clear hsz
  go_loopw [5] (fun i wr => ∃ k : Nat, k ≤ l.length ∧ i = .int .u32 (oopI l k : Nat) ∧ (∀ j (hj : j < l.length), j < k → (l[j]'hj).x.ser ≠ s) ∧ Below w.heap.size w wr) (fun i _ => if (intOf i).toNat = 0 then 0 else 4000000 - (intOf i).toNat)
  case atStart => exact ⟨0, by omega, rfl, fun j hj h0 => by omega, Below.refl _ _⟩
  case round =>
    obtain ⟨k, hk, rfl, hno, hbel⟩ := hrel
    have HNO := Lib.hid hno
    have HBEL := Lib.hid hbel
    rcases Nat.lt_or_ge k l.length with hlt | hge
    · obtain ⟨ho, h32, hne⟩ := HO.out k hlt
      have HHC := Lib.hid (HH.out k hlt wr hbel)
      have HNC := Lib.hid (fun w' (hb : Below wr.heap.size wr w') => HN.out k hlt w' (below_top hbel hb))
      unfold Hd.val at HHC
      have HL := Lib.hid hlt
      obtain ⟨X, hX⟩ : ∃ X, (l[k]'hlt).x = X := ⟨_, rfl⟩
      rw [hX] at HHC
      have HXE := Lib.hid (show (l[k]'HL.out).x = X from hX)
      clear hno hbel HFS HH HN hk hX
      clear hlt
      rw [ho]
      have HOE := Lib.hid ho
      clear ho
      have hsr := ((HG.out.laid.ok _ (List.getElem_mem HL.out)).fit.ser)
      rw [HXE.out] at hsr
      have HQ := Lib.hid (show posOf (l.take k) < 1048576 from HSZ.out k HL.out)
      generalize ho : 2 * posOf (l.take k) = o at *
      have HOO := Lib.hid ho
      clear ho
      have hnz : ((o : Int) == 0) = false := by simpa using hne
      by_cases hser : X.ser = s
      · have hq : (((X.ser : Nat) : Int) == (s : Int)) = true := by simp; omega
        have HS := Lib.hid hser
        clear hser
        go_wp2_with fail
        refine HHC.out.mono ?_
        rintro e w1 ⟨rfl, hb1⟩
        have HB1 := Lib.hid hb1
        clear hb1 HHC HNC
        go_wp2_with fail
        go_ret
        refine ⟨?_, below_top HBEL.out HB1.out⟩
        have : findN l s = o := by
          rw [← HOO.out, ← HS.out, ← HXE.out]
          exact findN_first HL.out (fun j hj => by have := HNO.out j (by have := HL.out; omega) hj; rw [HXE.out, HS.out]; exact this)
        rw [this]; rfl
      · have hq : (((X.ser : Nat) : Int) == (s : Int)) = false := by simp; omega
        have HS := Lib.hid hser
        clear hser
        go_wp2_with fail
        refine HHC.out.mono ?_
        rintro e w1 ⟨rfl, hb1⟩
        have HNC2 := Lib.hid (HNC.out w1 hb1)
        have HB1 := Lib.hid (below_top HBEL.out hb1)
        clear hb1 HHC HNC
        go_wp2_with fail
        refine HNC2.out.mono ?_
        rintro e w2 ⟨rfl, hb2⟩
        have HB2 := Lib.hid (below_top HB1.out hb2)
        clear hb2 HNC2
        go_wp2_with fail
        go_roundw
        case rel =>
          refine ⟨k + 1, HL.out, rfl, fun j hj hjk => ?_, HB2.out⟩
          rcases Nat.lt_or_ge j k with h1 | h1
          · exact HNO.out j hj h1
          · obtain rfl : j = k := by omega
            rw [HXE.out]; exact HS.out
        case measure =>
          show (if oopI l (k + 1) = 0 then 0 else 4000000 - oopI l (k + 1)) < (if o = 0 then 0 else 4000000 - o)
          have h1 := HQ.out
          have h2 := HOO.out
          rw [if_neg (show ¬ o = 0 from hne)]
          split
          · omega
          · rename_i h3
            have h4 : k + 1 < l.length := by
              rcases Nat.lt_or_ge (k + 1) l.length with h5 | h5
              · exact h5
              · exfalso; apply h3; unfold oopI; rw [if_neg (by omega)]
            have h5 := posOf_take_succ (l := l) k HL.out
            have h6 : oopI l (k + 1) = 2 * posOf (l.take (k + 1)) := by unfold oopI; rw [if_pos h4]
            have h7 := HSZ.out (k + 1) h4
            omega
    · obtain rfl : k = l.length := by omega
      rw [H0.out]
      clear hno hbel HFS HH HN hge
      go_wp2_with fail
      go_ret
      refine ⟨?_, HBEL.out⟩
      have : findN l s = 0 := find_done (fun y => HNO.out y.1 y.2 y.2)
      rw [this]; rfl
end
end Go.Proofs.YtkpjkbkglnabiaaGreatDoor

namespace Go.Proofs.YtkpjkbkglnabiaaGreatDoor
open Go.RowKit
attribute [local go_sem] Oper.semAt_some
/-- The bytes of an object, one by one. -/
def HM.bytesN (h : HM) (o : Nat) (n : Nat) : List Nat := (List.range n).map fun i => h.byteN o (i : Nat)
theorem HM.bytesN_len (h : HM) (o n : Nat) : (h.bytesN o n).length = n := by simp [HM.bytesN]
theorem HM.bytesN_succ (h : HM) (o n : Nat) : h.bytesN o (n + 1) = h.bytesN o n ++ [h.byteN o (n : Nat)] := by simp [HM.bytesN, List.range_succ]
/-- What the document's Bytes answers. -/
def HM.rbE (h : HM) (o : Nat) : Nat := if h.isB o = false then 3 else if (h.hd (o / 2)).fmt = 2 then 0 else 21
def RBytesP (h : HM) (o : Nat) (w : World) (d : Ending) (w' : World) : Prop :=
  Below w.heap.size w w' ∧ ((h.rbE o ≠ 0 ∧ d = .returned (.tuple #[.slice none 0 0, .int .i64 (h.rbE o : Nat)])) ∨
    (h.rbE o = 0 ∧ ∃ v, d = .returned (.tuple #[v, .int .i64 0]) ∧ w'.ownsRow w.heap.size 5 1 v (h.hd (o / 2)).len (u8c (h.bytesN o (h.hd (o / 2)).len))))
theorem ownsRow_grown {w w' : World} {base : Nat} {e : TypeId} {v : Value} {n : Nat} {xs : List Value} (h : w.ownsRow base e 1 v n xs) (hb : Below w.heap.size w w') : w'.ownsRow base e 1 v n xs := by
  refine ⟨h.1, ?_⟩
  rcases h.2 with h1 | ⟨g, cap, cur, h1, h2, h3, h4⟩
  · exact .inl h1
  · exact .inr ⟨g, cap, cur, h1, h2, (hb.block g (Array.getElem?_eq_some_iff.1 h3).1).trans h3, h4⟩
section
variable {w : World} {p : HP} {h : HM} (R : RAt w p h) (f : h.Fit) (o : Nat) (ho : o < 4294967296) (hh : h.Heads)
include R f ho hh
set_option maxRecDepth 100000 in
set_option maxHeartbeats 4000000 in
theorem rbytes_any : Calls Tryz.prog 43 #[ptr p.g, .int .u32 o] w (RBytesP h o w) := by
  have HI := Lib.hid (ris_any R f o ho)
  cases hi : h.isB o
  · rw [hi] at HI
    have HF := Lib.hid (show h.rbE o = 3 by unfold HM.rbE; rw [if_pos hi])
    unfold ptr at HI ⊢
    clear R hi
    go_enter Tryz.func43, Tryz.ntmps43
    go_wp2_with fail
    refine HI.out.mono ?_
    rintro e w1 ⟨rfl, rfl⟩
    go_wp2_with fail
    go_ret2
    exact ⟨Below.refl _ _, .inl ⟨by rw [HF.out]; decide, by rw [HF.out]; rfl⟩⟩
  · rw [hi] at HI
    have hd := HM.isB_hd hh hi
    have HH := Lib.hid (rheader_any R f o ho hd)
    have HL := Lib.hid (fun w' (hb : Below w.heap.size w w') => rlen_any (R.below hb) f o ho hd)
    obtain ⟨hlen, hsp, hsz, hfm, -⟩ := hd_parts f _ hd
    have hfl := fld1
    unfold Hd.val at HH
    by_cases h2 : (h.hd (o / 2)).fmt = 2
    · have HF := Lib.hid (show h.rbE o = 0 by unfold HM.rbE; rw [if_neg (by simp [hi]), if_pos h2])
      have hq : ((((h.hd (o / 2)).fmt : Nat) : Int) != 2) = false := by simp; omega
      have hlb : (h.hd (o / 2)).len ≤ 4194304 := by
        have h1 := hd.1
        have h3 := f.room
        have h4 := f.hi
        unfold Hd.len
        rw [if_pos h2]
        omega
      have HB := Lib.hid (fun (k : Nat) (hk : k < (h.hd (o / 2)).len) w' (hb : Below w.heap.size w w') => rbyte_any (R.below hb) f hh o ho (k : Int) (by omega))
      have HBL := Lib.hid (fun k : Nat => h.byteN_lt o (k : Int))
      have HBS := Lib.hid (fun k => h.bytesN_succ o k)
      have HLL := Lib.hid (fun k => h.bytesN_len o k)
      have HB0 := Lib.hid (show h.bytesN o 0 = [] from rfl)
      clear R hi hd hsp
      generalize hX : h.hd (o / 2) = X at *
      have HXE := Lib.hid hX
      clear hX
      generalize hLE : X.len = L at *
      have HLE := Lib.hid hLE
      clear hLE
      obtain ⟨i0, hi0, hz0, hz1, hz2⟩ := info_parts info_u8
      unfold ptr at HI HH HL HB ⊢
      go_enter Tryz.func43, Tryz.ntmps43
      go_wp2_with fail
      refine HI.out.mono ?_
      rintro e w1 ⟨rfl, rfl⟩
      go_wp2_with fail
      refine HH.out.mono ?_
      rintro e w1 ⟨rfl, hb1⟩
      have HB1 := Lib.hid hb1
      clear HI HH hb1
      go_wp2_with fail
      go_loopw [6, 7] (fun v i wr => ∃ k : Nat, k ≤ L ∧ i = .int .i64 k ∧ wr.ownsRow w.heap.size 5 1 v k (u8c (h.bytesN o k)) ∧ Below w.heap.size w wr) (fun _ i _ => L - (intOf i).toNat)
      case atStart => exact ⟨0, by omega, rfl, by rw [HB0.out]; exact ⟨by simp [u8c], .inl ⟨rfl, rfl⟩⟩, HB1.out⟩
      case round =>
        clear HB1
        obtain ⟨k, hk, rfl, hown, hbel⟩ := hrel
        have HOW := Lib.hid hown
        have HBEL := Lib.hid hbel
        have HLC := Lib.hid (HL.out wr hbel)
        clear hown hbel
        rcases Nat.lt_or_ge k L with hlt | hge
        · have hjt : decide ((k : Int) < (L : Int)) = true := by simp; omega
          have HKL := Lib.hid hlt
          go_wp2_with fail
          refine HLC.out.mono ?_
          rintro e w2 ⟨rfl, hb2⟩
          have HB2 := Lib.hid (below_top HBEL.out hb2)
          have HOW2 := Lib.hid (ownsRow_grown HOW.out hb2)
          have HBC := Lib.hid (HB.out k HKL.out w2 HB2.out)
          clear hb2 HLC HBEL HOW
          go_wp2_with fail
          refine HBC.out.mono ?_
          rintro e w3 ⟨rfl, hb3⟩
          have HB3 := Lib.hid (below_top HB2.out hb3)
          have HOW3 := Lib.hid (ownsRow_grown HOW2.out hb3)
          have hb256 := HBL.out k
          clear hb3 HBC HB2 HOW2
          generalize hby : h.byteN o (k : Int) = by_ at *
          have HBY := Lib.hid hby
          clear hby
          have hk4 : k < 4194304 := by have := HKL.out; omega
          go_wp2_with (at_builtin; refine wpList_append_any _ rfl (.tmp 33) (.tmp 35) _ rfl w.heap.size 5 i0 _ 1 1 Tryz.underlying31 hi0 hz0 hz1 hz2 rfl (by omega) u6 k _ rfl (HOW3.out.alloc _) (w3.heap.size + 1) (some ⟨w3.heap.size, 0, none⟩) 1 1 (u8c [by_]) rfl ⟨rfl, fun _ => ⟨_, rfl, by simp, cell_one_new _ _ _⟩⟩ (one_u8c _) (by simp only [maxLen]; omega) (by omega) (by have := HB3.out.size; simp; omega) ?_; intro v1 w5 hown5 hgrow hat5)
          go_roundw
          case rel =>
            refine ⟨k + 1, by have := HKL.out; omega, by go_num, ?_, below_grown (Nat.le_refl _) (HB3.out.alloc HB3.out.size _) hgrow (fun q hq => (HOW3.out.lt q hq).1)⟩
            rw [HBS.out, HBY.out]
            unfold u8c at hown5 ⊢
            rw [List.map_append]
            exact hown5
          case measure =>
            show L - ((k : Int) + 1).toNat < L - (k : Int).toNat
            have := HKL.out
            omega
        · obtain rfl : k = L := by omega
          have hjt : decide ((k : Int) < (k : Int)) = false := by simp
          clear hge hk
          go_wp2_with fail
          refine HLC.out.mono ?_
          rintro e w2 ⟨rfl, hb2⟩
          have HB2 := Lib.hid (below_top HBEL.out hb2)
          have HOW2 := Lib.hid (ownsRow_grown HOW.out hb2)
          clear hb2 HLC HBEL HOW
          go_wp2_with fail
          go_ret2
          refine ⟨HB2.out, .inr ⟨HF.out, _, rfl, ?_⟩⟩
          rw [HXE.out, HLE.out]
          exact HOW2.out
    · have HF := Lib.hid (show h.rbE o = 21 by unfold HM.rbE; rw [if_neg (by simp [hi]), if_neg h2])
      have hq : ((((h.hd (o / 2)).fmt : Nat) : Int) != 2) = true := by simp; omega
      clear R hi hd hsp HL h2
      generalize h.hd (o / 2) = X at *
      unfold ptr at HI HH ⊢
      go_enter Tryz.func43, Tryz.ntmps43
      go_wp2_with fail
      refine HI.out.mono ?_
      rintro e w1 ⟨rfl, rfl⟩
      go_wp2_with fail
      refine HH.out.mono ?_
      rintro e w1 ⟨rfl, hb1⟩
      have HB1 := Lib.hid hb1
      clear hb1
      go_wp2_with fail
      go_ret2
      exact ⟨HB1.out, .inl ⟨by rw [HF.out]; decide, by rw [HF.out]; rfl⟩⟩
end
end Go.Proofs.YtkpjkbkglnabiaaGreatDoor

namespace Go.Proofs.YtkpjkbkglnabiaaGreatDoor
open Go.RowKit Go.Sort Go.Lib
theorem oopT_obj {o : Nat} (hk : objB o = true) : oopT o = 64 :: Lib.itoa ((o / 2 : Nat) : Int) := by
  unfold objB kindM at hk
  unfold oopT
  by_cases h0 : o = 0
  · simp [h0] at hk
  · by_cases h1 : o % 2 = 1
    · simp [h0, h1] at hk
    · rw [if_neg h0, if_neg h1]
section
variable {w : World} {p : HP} {h : HM} (R : RAt w p h) (f : h.Fit) (hh : h.Heads) (hp : Pow w) (o : Nat) (ho : o < 4294967296) (hi : h.isB o = true)
include R f hh hp ho hi
set_option maxRecDepth 100000 in
set_option maxHeartbeats 8000000 in
theorem rshowH_any : Calls Tryz.prog 92 #[ptr p.g, .int .u32 o] w (Told (str (h.showT o)) w) := by
  have hd := HM.isB_hd hh hi
  have HHD := Lib.hid (rheader_any R f o ho hd)
  have HLN := Lib.hid (fun w' (hb : Below w.heap.size w w') => rlen_any (R.below hb) f o ho hd)
  have hfit := HM.hd_fit f (o / 2)
  have hmay : (h.hd (o / 2)).may = true := by have := hd.2; unfold okhd at this; simp only [Bool.and_eq_true] at this; exact this.1
  have hf4 : (h.hd (o / 2)).fmt ≤ 4 ∧ 1 ≤ (h.hd (o / 2)).fmt ∧ (h.hd (o / 2)).size ≤ 65535 := by
    unfold Hd.may at hmay
    simp only [Bool.and_eq_true, Bool.or_eq_true, decide_eq_true_eq] at hmay
    omega
  have hlen : (h.hd (o / 2)).len ≤ 262140 := by unfold Hd.len; split <;> omega
  have hc := hfit.cls
  have hr := hfit.ser
  have HOC := Lib.hid (fun w' => rshow_any (h.hd (o / 2)).cls hc w')
  have HIS := Lib.hid (fun w' (hb : Below w.heap.size w w') => itoa_any ((h.hd (o / 2)).ser : Nat) (by omega) (by omega) w' (hp.below hb))
  have HIL := Lib.hid (fun w' (hb : Below w.heap.size w w') => itoa_any ((h.hd (o / 2)).len : Nat) (by omega) (by omega) w' (hp.below hb))
  have HIO := Lib.hid (fun w' (hb : Below w.heap.size w w') => itoa_any ((o / 2 : Nat) : Int) (by omega) (by omega) w' (hp.below hb))
  have hl1 := Lib.itoa_length_le ((h.hd (o / 2)).ser : Nat) (by omega) (by omega)
  have hl2 := Lib.itoa_length_le ((h.hd (o / 2)).len : Nat) (by omega) (by omega)
  have hl3 := Lib.itoa_length_le ((o / 2 : Nat) : Int) (by omega) (by omega)
  have hl4 := oopT_len _ hc
  have hl5 : (fmtT (h.hd (o / 2)).fmt).length ≤ 8 := by
    have := hf4.1
    rcases (by omega : (h.hd (o / 2)).fmt = 0 ∨ (h.hd (o / 2)).fmt = 1 ∨ (h.hd (o / 2)).fmt = 2 ∨ (h.hd (o / 2)).fmt = 3 ∨ (h.hd (o / 2)).fmt = 4) with e | e | e | e | e <;> rw [e] <;> decide
  have hoT := oopT_obj (HM.isB_obj hi)
  have HHL := Lib.hid (show (h.headT o).length ≤ 200 by unfold HM.headT; rw [hoT]; simp only [List.length_append, List.length_cons, List.length_nil]; omega)
  have HHT := Lib.hid (show h.headT o = 64 :: Lib.itoa ((o / 2 : Nat) : Int) ++ 32 :: 35 :: Lib.itoa ((h.hd (o / 2)).ser : Nat) ++ 32 :: fmtT (h.hd (o / 2)).fmt ++ 32 :: Lib.itoa ((h.hd (o / 2)).len : Nat) ++ 32 :: [99, 108, 97, 115, 115] ++ 32 :: oopT (h.hd (o / 2)).cls from by unfold HM.headT; rw [hoT])
  have HST := Lib.hid (show h.showT o = h.partT o (h.hd (o / 2)).len from rfl)
  have HRD := Lib.hid (show ∀ i : Int, i ≤ 9223372036854775807 → ∀ w', Below w.heap.size w w' → Calls Tryz.prog 39 #[ptr p.g, .int .u32 o, .int .i64 i] w' (Told (.tuple #[.int .u8 (h.byteN o i : Nat), .int .i64 (h.lookE o i [2] : Nat)]) w') from
    fun i hi63 w' hb => rbyte_any (R.below hb) f hh o ho i hi63)
  have HRW := Lib.hid (show ∀ i : Int, i ≤ 9223372036854775807 → ∀ w', Below w.heap.size w w' → Calls Tryz.prog 35 #[ptr p.g, .int .u32 o, .int .i64 i] w' (Told (.tuple #[.int .u32 (h.readN o i [3] : Nat), .int .i64 (h.lookE o i [3] : Nat)]) w') from
    fun i hi63 w' hb => rword_any (R.below hb) f hh o ho i hi63)
  have HRG := Lib.hid (show ∀ i : Int, i ≤ 9223372036854775807 → ∀ w', Below w.heap.size w w' → Calls Tryz.prog 32 #[ptr p.g, .int .u32 o, .int .i64 i] w' (Told (.tuple #[.int .u32 (h.readN o i [1, 4] : Nat), .int .i64 (h.lookE o i [1, 4] : Nat)]) w') from
    fun i hi63 w' hb => rget_any (R.below hb) f hh o ho i hi63)
  have HET := Lib.hid (show ∀ i : Int, h.elT o i = if (h.hd (o / 2)).fmt = 2 then Lib.itoa (h.byteN o i) else if (h.hd (o / 2)).fmt = 3 then Lib.itoa (h.readN o i [3]) else oopT (h.readN o i [1, 4]) from fun i => rfl)
  have hq : ((o : Int) / 2) = ((o / 2 : Nat) : Int) := by omega
  have HPW := Lib.hid hp
  clear hi hd hmay R hp hoT
  generalize h.hd (o / 2) = x at *
  have hq32 : o / 2 < 2147483648 := by omega
  generalize o / 2 = q at *
  have HLEN := Lib.hid (show ∃ L, x.len = L from ⟨_, rfl⟩)
  generalize x.len = L at *
  obtain ⟨S, t, s, c, r⟩ := x
  unfold Hd.val at HHD
  dsimp only at *
  have hf5 := hf4.1
  have hf6 : (t : Int) < 5 := by omega
  have hf7 : (0 : Int) ≤ (t : Int) := by omega
  have HF41 := Lib.hid hf4.2.1
  clear hfit hf4
  unfold ptr at HHD HLN HRD HRW HRG ⊢
  unfold str at HOC HIS HIL HIO
  go_enter Tryz.func92, Tryz.ntmps92
  go_wp2_with fail
  refine HHD.out.mono ?_
  rintro e w1 ⟨rfl, hb1⟩
  go_wp2_with fail
  have hb := ((hb1.alloc hb1.size (.cells #[.int .i64 S, .int .i64 t, .int .i64 s, .int .u32 c, .int .u32 r] 101)).alloc (by have := hb1.size; simp; omega) (.cells #[.string ⟨#[]⟩, .string ⟨#[112, 111, 105, 110, 116, 101, 114, 115]⟩, .string ⟨#[98, 121, 116, 101, 115]⟩, .string ⟨#[119, 111, 114, 100, 115]⟩, .string ⟨#[119, 101, 97, 107]⟩] 114))
  obtain ⟨N1, hN1⟩ : ∃ N1, w1.heap.size = N1 := ⟨_, rfl⟩
  have B1 := (Blk.new w1 101 #[.int .i64 S, .int .i64 t, .int .i64 s, .int .u32 c, .int .u32 r]).alloc (.cells #[.string ⟨#[]⟩, .string ⟨#[112, 111, 105, 110, 116, 101, 114, 115]⟩, .string ⟨#[98, 121, 116, 101, 115]⟩, .string ⟨#[119, 111, 114, 100, 115]⟩, .string ⟨#[119, 101, 97, 107]⟩] 114)
  have B2 := Blk.new (w1.alloc (.cells #[.int .i64 S, .int .i64 t, .int .i64 s, .int .u32 c, .int .u32 r] 101)) 114 #[.string ⟨#[]⟩, .string ⟨#[112, 111, 105, 110, 116, 101, 114, 115]⟩, .string ⟨#[98, 121, 116, 101, 115]⟩, .string ⟨#[119, 111, 114, 100, 115]⟩, .string ⟨#[119, 101, 97, 107]⟩]
  rw [show (w1.alloc (.cells #[.int .i64 S, .int .i64 t, .int .i64 s, .int .u32 c, .int .u32 r] 101)).heap.size = N1 + 1 by simp [hN1]] at B2
  rw [hN1] at B1 ⊢
  have hNw : w.heap.size ≤ N1 := hN1 ▸ hb1.size
  generalize ((w1.alloc (.cells #[.int .i64 S, .int .i64 t, .int .i64 s, .int .u32 c, .int .u32 r] 101)).alloc (.cells #[.string ⟨#[]⟩, .string ⟨#[112, 111, 105, 110, 116, 101, 114, 115]⟩, .string ⟨#[98, 121, 116, 101, 115]⟩, .string ⟨#[119, 111, 114, 100, 115]⟩, .string ⟨#[119, 101, 97, 107]⟩] 114)) = W2 at *
  clear hb1 hN1
  have ct : W2.cell? ⟨N1 + 1, t, none⟩ = some (.string ⟨(fmtT t).toArray⟩) := by
    rcases (by omega : t = 0 ∨ t = 1 ∨ t = 2 ∨ t = 3 ∨ t = 4) with e | e | e | e | e <;> subst e
    · exact B2.cell 0
    · exact B2.cell 1
    · exact B2.cell 2
    · exact B2.cell 3
    · exact B2.cell 4
  obtain ⟨d0, d1, d2, d3, d4⟩ := B1.cells5
  have k0 := cell_regrown d0
  have k1 := cell_regrown d1
  have k2 := cell_regrown d2
  have k3 := cell_regrown d3
  have k4 := cell_regrown d4
  have kt := cell_regrown ct
  have HBR := Lib.hid (fun d os => hb.trans ((below_regrown W2 d os).mono hb.size))
  have CO := Lib.hid (show ∀ d os, Calls Tryz.prog 69 #[.int .i64 q] (grow (redrawn W2 d) os) fun e w'' => e = .returned (.string ⟨(itoa q).toArray⟩) ∧ ∃ p : Regrown, w'' = grow (redrawn W2 p.d) p.os from fun d os => Calls.regrown_of (HIO.out _ (HBR.out d os)))
  have CC := Lib.hid (show ∀ d os, Calls Tryz.prog 114 #[.int .u32 c] (grow (redrawn W2 d) os) fun e w'' => e = .returned (.string ⟨(oopT c).toArray⟩) ∧ ∃ p : Regrown, w'' = grow (redrawn W2 p.d) p.os from fun d os => Calls.regrown_of (HOC.out _))
  have CS := Lib.hid (show ∀ d os, Calls Tryz.prog 69 #[.int .i64 r] (grow (redrawn W2 d) os) fun e w'' => e = .returned (.string ⟨(itoa r).toArray⟩) ∧ ∃ p : Regrown, w'' = grow (redrawn W2 p.d) p.os from fun d os => Calls.regrown_of (HIS.out _ (HBR.out d os)))
  have CL := Lib.hid (show ∀ d os, Calls Tryz.prog 69 #[.int .i64 L] (grow (redrawn W2 d) os) fun e w'' => e = .returned (.string ⟨(itoa L).toArray⟩) ∧ ∃ p : Regrown, w'' = grow (redrawn W2 p.d) p.os from fun d os => Calls.regrown_of (HIL.out _ (HBR.out d os)))
  have CN := Lib.hid (show ∀ d os, Calls Tryz.prog 82 #[.pointer (some ⟨p.g, 0, none⟩), .int .u32 o] (grow (redrawn W2 d) os) fun e w'' => e = .returned (.int .i64 L) ∧ ∃ p : Regrown, w'' = grow (redrawn W2 p.d) p.os from fun d os => Calls.regrown_of (HLN.out _ (HBR.out d os)))
  have v1 : IntKind.i64.wrap (r : Int) = (r : Int) := IntWalk.i64_in _ (by omega)
  have v2 : IntKind.i64.wrap (q : Int) = (q : Int) := IntWalk.i64_in _ (by omega)
  have v3 : IntKind.u32.wrap (q : Int) = (q : Int) := by
    have hb : IntKind.u32.bits = 32 := rfl
    have hm : (2 : Int) ^ 32 = 4294967296 := by decide
    unfold IntKind.wrap; simp [hb, hm, IntKind.signed]; omega
  have HB := Lib.hid hb
  have HB1 := Lib.hid B1
  clear hb B1 B2
  have HHD2 := HHT
  generalize hA : itoa (q : Int) = TA at *
  generalize hB : itoa (r : Int) = TB at *
  generalize hF : fmtT t = TF at *
  generalize hD : itoa (L : Int) = TD at *
  generalize hC : oopT c = TC at *
  have n1 : ¬ 9223372036854775807 < 1 + TA.length := by omega
  have n2 : ¬ 9223372036854775807 < 1 + TA.length + 2 := by omega
  have n3 : ¬ 9223372036854775807 < 1 + TA.length + 2 + TB.length := by omega
  have n4 : ¬ 9223372036854775807 < 1 + TA.length + 2 + TB.length + 1 := by omega
  have n5 : ¬ 9223372036854775807 < 1 + TA.length + 2 + TB.length + 1 + TF.length := by omega
  have n6 : ¬ 9223372036854775807 < 1 + TA.length + 2 + TB.length + 1 + TF.length + 1 := by omega
  have n7 : ¬ 9223372036854775807 < 1 + TA.length + 2 + TB.length + 1 + TF.length + 1 + TD.length := by omega
  have n8 : ¬ 9223372036854775807 < 1 + TA.length + 2 + TB.length + 1 + TF.length + 1 + TD.length + 7 := by omega
  have n9 : ¬ 9223372036854775807 < 1 + TA.length + 2 + TB.length + 1 + TF.length + 1 + TD.length + 7 + TC.length := by omega
  clear hA hB hF hD hC hl1 hl2 hl3 hl4 hl5 d0 d1 d2 d3 d4 ct
  refine wp_region_below_tail 28 (by kernel_rfl) (by kernel_rfl) ?_
  simp only [List.take_succ_cons, List.take_zero, List.drop_succ_cons, List.drop_zero]
  repeat (quiet_step (first | with_reducible exact CO.out _ _ | with_reducible exact CC.out _ _ | with_reducible exact CS.out _ _ | with_reducible exact CL.out _ _ | with_reducible exact CN.out _ _))
  refine wpQuiet_nil ?_
  intro _ hw'
  obtain ⟨⟨dq, osq⟩, hw''⟩ := hw'
  subst hw''
  have HBq := Lib.hid (HBR.out dq osq)
  have BQ : Blk (grow (redrawn W2 dq) osq) N1 101 #[.int .i64 S, .int .i64 t, .int .i64 s, .int .u32 c, .int .u32 r] := Eq.trans ((below_regrown W2 dq osq).block N1 (Blk.lt HB1.out)) HB1.out
  generalize grow (redrawn W2 dq) osq = wq at HBq BQ ⊢
  clear k0 k1 k2 k3 k4 kt CO CC CS CL CN HB HB1 HBR
  have HLC := Lib.hid (HLN.out wq HBq.out)
  have HBQ := Lib.hid BQ
  clear BQ
  go_wp2_with fail
  refine HLC.out.mono ?_
  rintro e w3 ⟨rfl, hb3⟩
  have HB3 := Lib.hid (below_top HBq.out hb3)
  have HBK3 := Lib.hid (HBQ.out.below hb3 HBQ.out.lt)
  clear hb3 HLC HBq HBQ n1 n2 n3 n4 n5 n6 n7 n8 n9
  have hHT : Value.string ((((((((((⟨#[64]⟩ : ByteArray) ++ ⟨TA.toArray⟩) ++ ⟨#[32, 35]⟩) ++ ⟨TB.toArray⟩) ++ ⟨#[32]⟩) ++ ⟨TF.toArray⟩) ++ ⟨#[32]⟩) ++ ⟨TD.toArray⟩) ++ ⟨#[32, 99, 108, 97, 115, 115, 32]⟩) ++ ⟨TC.toArray⟩) = .string ⟨(h.headT o).toArray⟩ := by
    rw [HHT.out]
    simp [ByteArray.ext_iff]
  rw [hHT]
  by_cases hL0 : L = 0
  · have hz : ((L : Int) == 0) = true := by simp; omega
    have HF := Lib.hid (show h.showT o = h.headT o by rw [HST.out, hL0]; simp [HM.partT])
    clear hL0
    go_wp2_with fail
    go_ret
    exact ⟨by rw [HF.out]; rfl, HB3.out⟩
  · have hz : ((L : Int) == 0) = false := by simp; omega
    have HL0 := Lib.hid hL0
    clear hL0
    have hhl := HHL.out
    have nn : ¬ 9223372036854775807 < (h.headT o).length + 1 := by omega
    go_wp2_with fail
    have HBEL0 := HB3
    have hP0 : Value.string ((⟨(h.headT o).toArray⟩ : ByteArray) ++ ⟨#[58]⟩) = .string ⟨(h.headT o ++ 58 :: h.upT o 0).toArray⟩ := by
      rw [show h.upT o 0 = [] from rfl, ← str_add]
    rw [hP0]
    clear hP0 hHT nn hz
    go_loopw [7, 8] (fun tx i wr => ∃ k : Nat, k ≤ L ∧ i = .int .i64 k ∧ tx = .string ⟨(h.headT o ++ 58 :: h.upT o k).toArray⟩ ∧ Blk wr N1 101 #[.int .i64 S, .int .i64 t, .int .i64 s, .int .u32 c, .int .u32 r] ∧ Below w.heap.size w wr) (fun _ i _ => L - (Go.Lib.intOf i).toNat)
    case atStart => exact ⟨0, by omega, rfl, rfl, HBK3.out, HB3.out⟩
    case round =>
      clear HBK3 HB3 HBEL0
      obtain ⟨k, hk, rfl, rfl, BK, hbel⟩ := hrel
      have HBEL := Lib.hid hbel
      have HLC := Lib.hid (HLN.out wr hbel)
      have HBK := Lib.hid BK
      clear BK hbel
      rcases Nat.lt_or_ge k L with hlt | hge
      · have HW := Lib.hid (show h.headT o ++ 58 :: h.upT o (k + 1) = (h.headT o ++ 58 :: h.upT o k) ++ 32 :: h.elT o (k : Int) by rw [HM.upT_succ]; simp)
        have hpl : (h.headT o ++ 58 :: h.upT o k).length ≤ 8000000 := by
          have := HM.upT_len f o k
          simp; omega
        have hel := HM.elT_len f o (k : Int)
        have HL1 := Lib.hid hlt
        have hjt : decide ((k : Int) < (L : Int)) = true := by simp; omega
        have hki : (k : Int) ≤ 9223372036854775807 := by omega
        generalize h.headT o ++ 58 :: h.upT o k = PT at *
        have HEL := Lib.hid (show t = 2 ∧ h.elT o (k : Int) = Lib.itoa (h.byteN o (k : Int)) ∨ t = 3 ∧ h.elT o (k : Int) = Lib.itoa (h.readN o (k : Int) [3]) ∨ (t ≠ 2 ∧ t ≠ 3) ∧ h.elT o (k : Int) = oopT (h.readN o (k : Int) [1, 4]) by
          rw [HET.out]
          by_cases h2 : t = 2
          · exact .inl ⟨h2, by rw [if_pos h2]⟩
          · by_cases h3 : t = 3
            · exact .inr (.inl ⟨h3, by rw [if_neg h2, if_pos h3]⟩)
            · exact .inr (.inr ⟨⟨h2, h3⟩, by rw [if_neg h2, if_neg h3]⟩))
        clear hlt
        generalize hET : h.elT o (k : Int) = ET at *
        have n2 : ¬ 9223372036854775807 < 1 + ET.length := by omega
        have n3 : ¬ 9223372036854775807 < PT.length + (1 + ET.length) := by omega
        clear hET hpl hel
        rcases HEL.out with ⟨ht, he⟩ | ⟨ht, he⟩ | ⟨⟨ht2, ht3⟩, he⟩
        · have hq2 : (((t : Nat) : Int) == 2) = true := by simp; omega
          have HRC := Lib.hid (fun w' (hb : Below w.heap.size w w') => HRD.out (k : Int) hki w' hb)
          have hV := h.byteN_lt o (k : Int)
          generalize h.byteN o (k : Int) = V at *
          have HE := Lib.hid (show ET = Lib.itoa ((V : Nat) : Int) from he)
          clear HEL HRD HRW HRG ht he
          go_wp2_with fail
          refine HLC.out.mono ?_
          rintro e w4 ⟨rfl, hb4⟩
          have HB4 := Lib.hid (below_top HBEL.out hb4)
          have HBK4 := Lib.hid (HBK.out.below hb4 HBK.out.lt)
          obtain ⟨d0, d1, d2, d3, d4⟩ := HBK4.out.cells5
          have HRC4 := Lib.hid (HRC.out w4 HB4.out)
          clear hb4 HLC HBEL HBK HRC
          go_wp2_with fail
          refine HRC4.out.mono ?_
          rintro e w5 ⟨rfl, hb5⟩
          have HB5 := Lib.hid (below_top HB4.out hb5)
          have HBK5 := Lib.hid (HBK4.out.below hb5 HBK4.out.lt)
          have HC5 := Lib.hid (itoa_any ((V : Nat) : Int) (by omega) (by omega) w5 (HPW.out.below HB5.out))
          unfold str at HC5
          rw [← HE.out] at HC5
          clear hb5 HB4 HBK4 d0 d1 d2 d3 d4 HRC4
          go_wp2_with fail
          refine HC5.out.mono ?_
          rintro e w6 ⟨rfl, hb6⟩
          have HB6 := Lib.hid (below_top HB5.out hb6)
          have HBK6 := Lib.hid (HBK5.out.below hb6 HBK5.out.lt)
          clear hb6 HC5 HB5 HBK5
          go_wp2_with fail
          go_roundw
          case rel => exact ⟨k + 1, HL1.out, by go_num, by rw [HW.out, ← str_add]; rfl, HBK6.out, HB6.out⟩
          case measure =>
            show L - ((k : Int) + 1).toNat < L - (k : Int).toNat
            have := HL1.out
            omega
        · have hq2 : (((t : Nat) : Int) == 2) = false := by simp; omega
          have hq3 : (((t : Nat) : Int) == 3) = true := by simp; omega
          have HRC := Lib.hid (fun w' (hb : Below w.heap.size w w') => HRW.out (k : Int) hki w' hb)
          have hV := HM.readN_lt f o (k : Int) [3]
          generalize h.readN o (k : Int) [3] = V at *
          have HE := Lib.hid (show ET = Lib.itoa ((V : Nat) : Int) from he)
          clear HEL HRD HRW HRG ht he
          go_wp2_with fail
          refine HLC.out.mono ?_
          rintro e w4 ⟨rfl, hb4⟩
          have HB4 := Lib.hid (below_top HBEL.out hb4)
          have HBK4 := Lib.hid (HBK.out.below hb4 HBK.out.lt)
          obtain ⟨d0, d1, d2, d3, d4⟩ := HBK4.out.cells5
          have HRC4 := Lib.hid (HRC.out w4 HB4.out)
          clear hb4 HLC HBEL HBK HRC
          go_wp2_with fail
          refine HRC4.out.mono ?_
          rintro e w5 ⟨rfl, hb5⟩
          have HB5 := Lib.hid (below_top HB4.out hb5)
          have HBK5 := Lib.hid (HBK4.out.below hb5 HBK4.out.lt)
          have HC5 := Lib.hid (itoa_any ((V : Nat) : Int) (by omega) (by omega) w5 (HPW.out.below HB5.out))
          unfold str at HC5
          rw [← HE.out] at HC5
          clear hb5 HB4 HBK4 d0 d1 d2 d3 d4 HRC4
          go_wp2_with fail
          refine HC5.out.mono ?_
          rintro e w6 ⟨rfl, hb6⟩
          have HB6 := Lib.hid (below_top HB5.out hb6)
          have HBK6 := Lib.hid (HBK5.out.below hb6 HBK5.out.lt)
          clear hb6 HC5 HB5 HBK5
          go_wp2_with fail
          go_roundw
          case rel => exact ⟨k + 1, HL1.out, by go_num, by rw [HW.out, ← str_add]; rfl, HBK6.out, HB6.out⟩
          case measure =>
            show L - ((k : Int) + 1).toNat < L - (k : Int).toNat
            have := HL1.out
            omega
        · have hq2 : (((t : Nat) : Int) == 2) = false := by simp; omega
          have hq3 : (((t : Nat) : Int) == 3) = false := by simp; omega
          have HRC := Lib.hid (fun w' (hb : Below w.heap.size w w') => HRG.out (k : Int) hki w' hb)
          have hV := HM.readN_lt f o (k : Int) [1, 4]
          generalize h.readN o (k : Int) [1, 4] = V at *
          have HE := Lib.hid (show ET = oopT V from he)
          clear HEL HRD HRW HRG ht2 ht3 he
          go_wp2_with fail
          refine HLC.out.mono ?_
          rintro e w4 ⟨rfl, hb4⟩
          have HB4 := Lib.hid (below_top HBEL.out hb4)
          have HBK4 := Lib.hid (HBK.out.below hb4 HBK.out.lt)
          obtain ⟨d0, d1, d2, d3, d4⟩ := HBK4.out.cells5
          have HRC4 := Lib.hid (HRC.out w4 HB4.out)
          clear hb4 HLC HBEL HBK HRC
          go_wp2_with fail
          refine HRC4.out.mono ?_
          rintro e w5 ⟨rfl, hb5⟩
          have HB5 := Lib.hid (below_top HB4.out hb5)
          have HBK5 := Lib.hid (HBK4.out.below hb5 HBK4.out.lt)
          have HC5 := Lib.hid (rshow_any V hV w5)
          unfold str at HC5
          rw [← HE.out] at HC5
          clear hb5 HB4 HBK4 d0 d1 d2 d3 d4 HRC4
          go_wp2_with fail
          refine HC5.out.mono ?_
          rintro e w6 ⟨rfl, hb6⟩
          have HB6 := Lib.hid (below_top HB5.out hb6)
          have HBK6 := Lib.hid (HBK5.out.below hb6 HBK5.out.lt)
          clear hb6 HC5 HB5 HBK5
          go_wp2_with fail
          go_roundw
          case rel => exact ⟨k + 1, HL1.out, by go_num, by rw [HW.out, ← str_add]; rfl, HBK6.out, HB6.out⟩
          case measure =>
            show L - ((k : Int) + 1).toNat < L - (k : Int).toNat
            have := HL1.out
            omega
      · obtain rfl : k = L := by omega
        have hjt : decide ((k : Int) < (k : Int)) = false := by simp
        have HF := Lib.hid (show h.showT o = h.headT o ++ 58 :: h.upT o k by rw [HST.out]; unfold HM.partT; rw [if_neg HL0.out])
        clear hge hk
        go_wp2_with fail
        refine HLC.out.mono ?_
        rintro e w4 ⟨rfl, hb4⟩
        have HB4 := Lib.hid (below_top HBEL.out hb4)
        clear hb4 HLC HBEL
        go_wp2_with fail
        go_ret
        exact ⟨by rw [HF.out]; rfl, HB4.out⟩
end
end Go.Proofs.YtkpjkbkglnabiaaGreatDoor

namespace Go.Proofs.YtkpjkbkglnabiaaGreatDoor
open Go.RowKit
attribute [local go_sem] Oper.semAt_some
theorem drewN_below {w w' : World} {B n : Nat} (hb : Below B w w') : Below B w (w'.drewN n) := ⟨hb.os, hb.tape, hb.output, hb.size, hb.block⟩
set_option maxRecDepth 100000 in
set_option maxHeartbeats 8000000 in
theorem alike_any {w : World} {p q : HP} {a b : HM} (Ra : RAt w p a) (Rb : RAt w q b) (fa : a.Fit) (fb : b.Fit) :
    Calls Tryz.prog 15 #[ptr p.g, ptr q.g] w (Told (.bool (sameH a b)) w) := by
  have c0 := Ra.c0
  have c1 := Ra.c1
  have c2 := Ra.c2
  have c3 := Ra.c3
  have k0 := Rb.c0
  have k1 := Rb.c1
  have k2 := Rb.c2
  have k3 := Rb.c3
  have r1 := fa.room
  have r2 := fa.hi
  have r3 := fb.room
  have r4 := fb.hi
  have e1 := fa.roots
  have e2 := fb.roots
  rw [e1] at c2
  rw [e2] at k2
  have HRA := Lib.hid Ra
  have HRB := Lib.hid Rb
  have HFA := Lib.hid fa
  have HFB := Lib.hid fb
  have HF := Lib.hid (show sameH a b = (decide (a.size = b.size) && decide (a.last = b.last) && sameL a.words b.words && sameL a.roots b.roots) from rfl)
  clear Ra Rb fa fb e1 e2
  unfold ptr
  by_cases h1 : a.size = b.size
  · have v1 : ((a.size : Int) != (b.size : Int)) = false := by simp [h1]
    by_cases h2 : a.last = b.last
    · have v2 : ((a.last : Int) != (b.last : Int)) = false := by simp [h2]
      rw [decide_eq_true h1, decide_eq_true h2, Bool.true_and, Bool.true_and] at HF
      clear h1 h2
      by_cases h3 : a.words.length = b.words.length
      · have v3 : ((a.words.length : Int) != (b.words.length : Int)) = false := by simp [h3]
        have HL3 := Lib.hid h3
        clear h3
        go_enter Tryz.func15, Tryz.ntmps15
        go_wp2_with fail
        go_quiet (fail)
        go_wp2_with fail
        have HBB := Lib.hid (show Below w.heap.size w (w.drewN nq) from drewN_below (Below.refl _ _))
        have HLA2 := Lib.hid HFA.out.roots
        have HLB2 := Lib.hid HFB.out.roots
        clear HFA HFB c0 c1 c2 c3 k0 k1 k2 k3 v1 v2 v3
        obtain ⟨NA, hNA⟩ : ∃ NA, a.words.length = NA := ⟨_, rfl⟩
        have HLA1 := Lib.hid hNA
        have HLB1 := Lib.hid (HL3.out.symm.trans hNA)
        have hNA2 : NA ≤ 1048576 := by omega
        clear hNA HL3 r1 r2 r3 r4
        go_loopw [5] (fun i wr => ∃ k : Nat, k ≤ NA ∧ i = .int .i64 k ∧ a.words.take k = b.words.take k ∧ Below w.heap.size w wr) (fun i _ => NA - (intOf i).toNat)
        case atStart => exact ⟨0, by omega, rfl, rfl, HBB.out⟩
        case round =>
          obtain ⟨k, hk, rfl, ht, hb⟩ := hrel
          have HT := Lib.hid ht
          have RA := HRA.out.below hb
          have RB := HRB.out.below hb
          have cA := RA.c1
          have cB := RB.c1
          rw [HLA1.out] at cA
          rw [HLB1.out] at cB
          have HBW := Lib.hid hb
          clear ht hb HBB
          rcases Nat.lt_or_ge k NA with hlt | hge
          · have hx : k < a.words.length := by rw [HLA1.out]; exact hlt
            have hy : k < b.words.length := by rw [HLB1.out]; exact hlt
            have cx := RA.word hx
            have cy := RB.word hy
            have HX := Lib.hid hx
            have HY := Lib.hid hy
            clear hx hy RA RB
            by_cases he : a.words.getD k 0 = b.words.getD k 0
            · have HE := Lib.hid (take_eq_succ HX.out HY.out he HT.out)
              have hv : ((a.words.getD k 0 : Int) != (b.words.getD k 0 : Int)) = false := by rw [he]; simp
              clear he
              generalize a.words.getD k 0 = x at *
              generalize b.words.getD k 0 = y at *
              go_wp2_with fail
              go_quiet (fail)
              go_wp2_with fail
              go_roundw
              case rel => exact ⟨k + 1, by omega, by go_num, HE.out, by first | exact HBW.out | exact drewN_below HBW.out⟩
              case measure => simp [intOf]; omega
            · have HE := Lib.hid (sameL_at HX.out HY.out he)
              have hv : ((a.words.getD k 0 : Int) != (b.words.getD k 0 : Int)) = true := by rw [bne_iff_ne]; omega
              clear he
              generalize a.words.getD k 0 = x at *
              generalize b.words.getD k 0 = y at *
              go_wp2_with fail
              go_quiet (fail)
              go_wp2_with fail
              go_ret
              exact ⟨by rw [HF.out, HE.out]; simp, by first | exact HBW.out | exact drewN_below HBW.out⟩
          · obtain rfl : k = NA := by omega
            have HA := Lib.hid (sameL_all HLA1.out HLB1.out HT.out)
            rw [HA.out, Bool.true_and] at HF
            clear hge hk
            go_wp2_with fail
            have HBB := HBW
            clear HA HT HBW cA cB RA RB
            go_wp2_with fail
            go_loopw [6] (fun i wr => ∃ k : Nat, k ≤ 64 ∧ i = .int .i64 k ∧ a.roots.take k = b.roots.take k ∧ Below w.heap.size w wr) (fun i _ => 64 - (intOf i).toNat)
            case atStart => exact ⟨0, by omega, rfl, rfl, HBB.out⟩
            case round =>
              obtain ⟨k, hk, rfl, ht, hb⟩ := hrel
              have HT := Lib.hid ht
              have RA := HRA.out.below hb
              have RB := HRB.out.below hb
              have cA := RA.c2
              have cB := RB.c2
              rw [HLA2.out] at cA
              rw [HLB2.out] at cB
              have HBW := Lib.hid hb
              clear ht hb HBB
              rcases Nat.lt_or_ge k 64 with hlt | hge
              · have hx : k < a.roots.length := by rw [HLA2.out]; exact hlt
                have hy : k < b.roots.length := by rw [HLB2.out]; exact hlt
                have cx := RA.root hx
                have cy := RB.root hy
                have HX := Lib.hid hx
                have HY := Lib.hid hy
                clear hx hy RA RB
                by_cases he : a.roots.getD k 0 = b.roots.getD k 0
                · have HE := Lib.hid (take_eq_succ HX.out HY.out he HT.out)
                  have hv : ((a.roots.getD k 0 : Int) != (b.roots.getD k 0 : Int)) = false := by rw [he]; simp
                  clear he
                  generalize a.roots.getD k 0 = x at *
                  generalize b.roots.getD k 0 = y at *
                  go_wp2_with fail
                  go_quiet (fail)
                  go_wp2_with fail
                  go_roundw
                  case rel => exact ⟨k + 1, by omega, by go_num, HE.out, by first | exact HBW.out | exact drewN_below HBW.out⟩
                  case measure => simp [intOf]; omega
                · have HE := Lib.hid (sameL_at HX.out HY.out he)
                  have hv : ((a.roots.getD k 0 : Int) != (b.roots.getD k 0 : Int)) = true := by rw [bne_iff_ne]; omega
                  clear he
                  generalize a.roots.getD k 0 = x at *
                  generalize b.roots.getD k 0 = y at *
                  go_wp2_with fail
                  go_quiet (fail)
                  go_wp2_with fail
                  go_ret
                  exact ⟨by rw [HF.out, HE.out]; simp, by first | exact HBW.out | exact drewN_below HBW.out⟩
              · have hk64 : k = 64 := by omega
                have hjt : decide ((k : Int) < 64) = false := by simp; omega
                have HA := Lib.hid (sameL_all HLA2.out HLB2.out (by rw [← hk64]; exact HT.out))
                go_wp2_with fail
                go_ret
                exact ⟨by rw [HF.out, HA.out]; rfl, HBW.out⟩
      · have v3 : ((a.words.length : Int) != (b.words.length : Int)) = true := by simp; omega
        rw [sameL_len h3, Bool.false_and] at HF
        clear h3
        clear HFA HFB HRA HRB
        go_enter Tryz.func15, Tryz.ntmps15
        go_wp2_with fail
        go_quiet (fail)
        all_goals go_wp2_with fail
        all_goals go_ret
        all_goals exact ⟨by rw [HF.out]; rfl, by first | exact Below.refl _ _ | exact drewN_below (Below.refl _ _)⟩
    · have v2 : ((a.last : Int) != (b.last : Int)) = true := by simp; omega
      rw [decide_eq_true h1, decide_eq_false h2, Bool.true_and, Bool.false_and, Bool.false_and] at HF
      clear h1 h2
      clear HFA HFB HRA HRB
      go_enter Tryz.func15, Tryz.ntmps15
      go_wp2_with fail
      go_quiet (fail)
      all_goals go_wp2_with fail
      all_goals go_ret
      all_goals exact ⟨by rw [HF.out]; rfl, by first | exact Below.refl _ _ | exact drewN_below (Below.refl _ _)⟩
  · have v1 : ((a.size : Int) != (b.size : Int)) = true := by simp; omega
    rw [decide_eq_false h1, Bool.false_and, Bool.false_and, Bool.false_and] at HF
    clear h1
    clear HFA HFB HRA HRB
    go_enter Tryz.func15, Tryz.ntmps15
    go_wp2_with fail
    go_quiet (fail)
    all_goals go_wp2_with fail
    all_goals go_ret
    all_goals exact ⟨by rw [HF.out]; rfl, by first | exact Below.refl _ _ | exact drewN_below (Below.refl _ _)⟩
end Go.Proofs.YtkpjkbkglnabiaaGreatDoor

namespace Go.Proofs.YtkpjkbkglnabiaaGreatDoor
open Go.RowKit
attribute [local go_sem] Oper.semAt_some
theorem one_begins (l : List Bool) : ∀ u ∈ begins l, u.oneCell' = true := by
  intro u hu
  obtain ⟨x, _, rfl⟩ := List.mem_map.1 hu
  rfl
set_option maxRecDepth 100000 in
set_option maxHeartbeats 8000000 in
theorem copy_any {w : World} {p : HP} {h : HM} (R : RAt w p h) (f : h.Fit) : Calls Tryz.prog 14 #[ptr p.g] w (NewHeap RAt ptr h w) := by
  have c0 := R.c0
  have c1 := R.c1
  have c2 := R.c2
  have c3 := R.c3
  have c4 := R.c4
  have HR := Lib.hid R
  have HF := Lib.hid f
  clear R f
  unfold ptr
  go_enter Tryz.func14, Tryz.ntmps14
  go_wp2_with fail
  go_region
  have hX : w.heap.size < (w.alloc (.cells #[.int .i64 h.size, .slice none 0 0, .slice none 0 0, .int .u32 h.last, .slice none 0 0] 93)).heap.size := by simp
  have hb : Below w.heap.size w (w.alloc (.cells #[.int .i64 h.size, .slice none 0 0, .slice none 0 0, .int .u32 h.last, .slice none 0 0] 93)).drew := below_drew ((Below.refl _ _).alloc (Nat.le_refl _) _)
  have BX : Blk (w.alloc (.cells #[.int .i64 h.size, .slice none 0 0, .slice none 0 0, .int .u32 h.last, .slice none 0 0] 93)).drew w.heap.size 93 #[.int .i64 h.size, .slice none 0 0, .slice none 0 0, .int .u32 h.last, .slice none 0 0] := Blk.new w _ _
  generalize (w.alloc _).drew = W1 at *
  have HF' := HF.out
  have hroom := HF'.room
  have hhi := HF'.hi
  have hone := HF'.one
  have hr1 : 1 ≤ h.roots.length := by have := HF'.roots; omega
  have hr2 : h.roots.length ≤ 1048576 := by have := HF'.roots; omega
  have hs1 : 1 ≤ h.starts.length := by have := HF'.marks; omega
  have hs2 : h.starts.length ≤ 1048576 := by have := HF'.marks; omega
  clear HF'
  generalize hBx : w.heap.size = X at *
  clear c0 c1 c2 c3 c4 hX
  have x1 := BX.cell 1
  have z1 := BX.frozen 1
  have hgX : X < W1.heap.size := BX.lt
  have HR1 := HR.out.below (show Below w.heap.size w W1 by rw [hBx]; exact hb)
  have k1 := HR1.c1
  have HN := Lib.hid (HR1.2.1.reads HR1.2.1.lt)
  rw [u32s_len] at HN
  obtain ⟨i0, hi0, hz0, hz1, hz2⟩ := info_parts info_u32
  have HO := Lib.hid (show W1.ownsRow (X + 1) 29 1 (.slice none 0 0) 0 [] from ⟨rfl, .inl ⟨rfl, rfl⟩⟩)
  clear HR1
  go_wp2_with fail
  go_cut [25] (fun v wx => ∃ gw cw, Blk wx X 93 #[.int .i64 h.size, .slice (some ⟨gw, 0, none⟩) h.words.length cw, .slice none 0 0, .int .u32 h.last, .slice none 0 0] ∧ Row wx gw 29 cw (u32s h.words) ∧ X < gw ∧ Below X w wx)
  case first =>
    go_region_law
      ((refine step_append_any _ (by rfl) _ _ _ (by rfl) (X + 1) 29 i0 _ 1 4 Tryz.underlying42 hi0 hz0 hz1 hz2 rfl (by omega) (.slice none 0 0) 0 [] (by rfl) HO.out.drew W1.heap.size (some ⟨p.gw, 0, none⟩) h.words.length p.cw (u32s h.words) (by rfl) HN.out.drew (one_u32s _) (by simp only [maxLen]; omega) (by omega) hgX ?_; intro v1 w5 hown5 hgrow hat5; obtain ⟨g5, c5, rfl, hrow5, hlen5, hge5⟩ := Row.of_any hown5 (by omega); have k5 := (hgrow.cell_far ⟨X, 1, none⟩ hgX (by simp [Value.ownBlock])).trans x1; have z5 := (hgrow.frozen_far ⟨X, 1, none⟩ hgX (by simp [Value.ownBlock])).trans z1; clear hown5))
    all_goals
      have hbel : Below X w w5 := below_grown (by omega) (below_drew hb) hgrow (by simp [Value.ownBlock])
      have BX5 : Blk w5 X 93 #[.int .i64 h.size, .slice none 0 0, .slice none 0 0, .int .u32 h.last, .slice none 0 0] := BX.same (hgrow.block X hgX (by simp [Value.ownBlock]))
      rw [List.nil_append] at hrow5
      try simp only [Nat.zero_add]
      go_wp2_with fail
      go_meet
      exact ⟨g5, c5, BX5.set_ 1 _, hrow5.far (p := ⟨X, 1, none⟩) (by simp; omega) _, hge5, hbel.setCell (p := ⟨X, 1, none⟩) (by simp) _⟩
  case rest =>
  obtain ⟨gw, cw, BXn, R0n, hg0n, hbn⟩ := hcut
  clear x1 z1 hgX k1 HN HO hi0 hz0 hz1 hz2 hb BX
  have BX := BXn
  have hb := hbn
  have R0 := R0n
  have hg0 := hg0n
  clear BXn hbn R0n hg0n
  have x1 := BX.cell 2
  have z1 := BX.frozen 2
  have hgX : X < wc.heap.size := BX.lt
  have HR1 := HR.out.below (show Below w.heap.size w wc by rw [hBx]; exact hb)
  have k1 := HR1.c2
  have HN := Lib.hid (HR1.2.2.2.reads HR1.2.2.2.lt)
  rw [u32s_len] at HN
  obtain ⟨i0, hi0, hz0, hz1, hz2⟩ := info_parts info_oop
  have HO := Lib.hid (show wc.ownsRow (X + 1) 30 1 (.slice none 0 0) 0 [] from ⟨rfl, .inl ⟨rfl, rfl⟩⟩)
  clear HR1
  go_wp2_with fail
  go_cut [37] (fun v wx => ∃ gr cr, Blk wx X 93 #[.int .i64 h.size, .slice (some ⟨gw, 0, none⟩) h.words.length cw, .slice (some ⟨gr, 0, none⟩) h.roots.length cr, .int .u32 h.last, .slice none 0 0] ∧ Row wx gr 30 cr (u32s h.roots) ∧ X < gr ∧ Row wx gw 29 cw (u32s h.words) ∧ X < gw ∧ Below X w wx)
  case first =>
    go_region_law
      ((refine step_append_any _ (by rfl) _ _ _ (by rfl) (X + 1) 30 i0 _ 1 4 Tryz.underlying43 hi0 hz0 hz1 hz2 rfl (by omega) (.slice none 0 0) 0 [] (by rfl) HO.out.drew wc.heap.size (some ⟨p.gr, 0, none⟩) h.roots.length p.cr (u32s h.roots) (by rfl) HN.out.drew (one_u32s _) (by simp only [maxLen]; omega) (by omega) hgX ?_; intro v1 w6 hown5 hgrow hat5; obtain ⟨g5, c5, rfl, hrow5, hlen5, hge5⟩ := Row.of_any hown5 (by omega); have k5 := (hgrow.cell_far ⟨X, 2, none⟩ hgX (by simp [Value.ownBlock])).trans x1; have z5 := (hgrow.frozen_far ⟨X, 2, none⟩ hgX (by simp [Value.ownBlock])).trans z1; clear hown5))
    all_goals
      have hbel : Below X w w6 := below_grown (by omega) (below_drew hb) hgrow (by simp [Value.ownBlock])
      have BX5 : Blk w6 X 93 #[.int .i64 h.size, .slice (some ⟨gw, 0, none⟩) h.words.length cw, .slice none 0 0, .int .u32 h.last, .slice none 0 0] := BX.same (hgrow.block X hgX (by simp [Value.ownBlock]))
      rw [List.nil_append] at hrow5
      have R0' := (R0.same (hgrow.block gw R0.lt (by simp [Value.ownBlock]))).far (p := ⟨X, 2, none⟩) (by simp; omega) (.slice (some ⟨g5, 0, none⟩) h.roots.length c5)
      try simp only [Nat.zero_add]
      go_wp2_with fail
      go_meet
      exact ⟨g5, c5, BX5.set_ 2 _, hrow5.far (p := ⟨X, 2, none⟩) (by simp; omega) _, hge5, R0', hg0, hbel.setCell (p := ⟨X, 2, none⟩) (by simp) _⟩
  case rest =>
  obtain ⟨gr, cr, BXn, R1n, hg1n, R0n, hg0n, hbn⟩ := hcut
  clear x1 z1 hgX k1 HN HO hi0 hz0 hz1 hz2 hb BX R0 hg0
  have BX := BXn
  have hb := hbn
  have R0 := R0n
  have hg0 := hg0n
  have R1 := R1n
  have hg1 := hg1n
  clear BXn hbn R0n hg0n R1n hg1n
  have x1 := BX.cell 4
  have z1 := BX.frozen 4
  have hgX : X < wc.heap.size := BX.lt
  have HR1 := HR.out.below (show Below w.heap.size w wc by rw [hBx]; exact hb)
  have k1 := HR1.c4
  have HN := Lib.hid (HR1.2.2.1.reads HR1.2.2.1.lt)
  rw [begins_len] at HN
  obtain ⟨i0, hi0, hz0, hz1, hz2⟩ := info_parts info_u8
  have HO := Lib.hid (show wc.ownsRow (X + 1) 5 1 (.slice none 0 0) 0 [] from ⟨rfl, .inl ⟨rfl, rfl⟩⟩)
  clear HR1
  go_wp2_with fail
  go_cut [49] (fun v wx => ∃ gs cs, Blk wx X 93 #[.int .i64 h.size, .slice (some ⟨gw, 0, none⟩) h.words.length cw, .slice (some ⟨gr, 0, none⟩) h.roots.length cr, .int .u32 h.last, .slice (some ⟨gs, 0, none⟩) h.starts.length cs] ∧ Row wx gs 5 cs (begins h.starts) ∧ X < gs ∧ Row wx gw 29 cw (u32s h.words) ∧ X < gw ∧ Row wx gr 30 cr (u32s h.roots) ∧ X < gr ∧ Below X w wx)
  case first =>
    go_region_law
      ((refine step_append_any _ (by rfl) _ _ _ (by rfl) (X + 1) 5 i0 _ 1 1 Tryz.underlying31 hi0 hz0 hz1 hz2 rfl (by omega) (.slice none 0 0) 0 [] (by rfl) HO.out.drew wc.heap.size (some ⟨p.gs, 0, none⟩) h.starts.length p.cs (begins h.starts) (by rfl) HN.out.drew (one_begins _) (by simp only [maxLen]; omega) (by omega) hgX ?_; intro v1 w7 hown5 hgrow hat5; obtain ⟨g5, c5, rfl, hrow5, hlen5, hge5⟩ := Row.of_any hown5 (by omega); have k5 := (hgrow.cell_far ⟨X, 4, none⟩ hgX (by simp [Value.ownBlock])).trans x1; have z5 := (hgrow.frozen_far ⟨X, 4, none⟩ hgX (by simp [Value.ownBlock])).trans z1; clear hown5))
    all_goals
      have hbel : Below X w w7 := below_grown (by omega) (below_drew hb) hgrow (by simp [Value.ownBlock])
      have BX5 : Blk w7 X 93 #[.int .i64 h.size, .slice (some ⟨gw, 0, none⟩) h.words.length cw, .slice (some ⟨gr, 0, none⟩) h.roots.length cr, .int .u32 h.last, .slice none 0 0] := BX.same (hgrow.block X hgX (by simp [Value.ownBlock]))
      rw [List.nil_append] at hrow5
      have R0' := (R0.same (hgrow.block gw R0.lt (by simp [Value.ownBlock]))).far (p := ⟨X, 4, none⟩) (by simp; omega) (.slice (some ⟨g5, 0, none⟩) h.starts.length c5)
      have R1' := (R1.same (hgrow.block gr R1.lt (by simp [Value.ownBlock]))).far (p := ⟨X, 4, none⟩) (by simp; omega) (.slice (some ⟨g5, 0, none⟩) h.starts.length c5)
      try simp only [Nat.zero_add]
      go_wp2_with fail
      go_meet
      exact ⟨g5, c5, BX5.set_ 4 _, hrow5.far (p := ⟨X, 4, none⟩) (by simp; omega) _, hge5, R0', hg0, R1', hg1, hbel.setCell (p := ⟨X, 4, none⟩) (by simp) _⟩
  case rest =>
  obtain ⟨gs, cs, BXn, R2n, hg2n, R0n, hg0n, R1n, hg1n, hbn⟩ := hcut
  clear x1 z1 hgX k1 HN HO hi0 hz0 hz1 hz2 hb BX R0 hg0 R1 hg1
  have BX := BXn
  have hb := hbn
  have R0 := R0n
  have hg0 := hg0n
  have R1 := R1n
  have hg1 := hg1n
  have R2 := R2n
  have hg2 := hg2n
  clear BXn hbn R0n hg0n R1n hg1n R2n hg2n
  have HH := Lib.hid (show NewHeap RAt ptr h w (.returned (ptr X)) wc from ⟨{ g := X, gw := gw, cw := cw, gs := gs, cs := cs, gr := gr, cr := cr }, rfl, ⟨BX, R0, R2, R1⟩, fun k hk => by rw [hBx]; rcases hk with rfl | rfl | rfl | rfl <;> omega, by rw [hBx]; exact hb⟩)
  clear BX hb R0 R1 R2
  go_wp2_with fail
  go_ret
  exact HH.out
end Go.Proofs.YtkpjkbkglnabiaaGreatDoor

namespace Go.Proofs.YtkpjkbkglnabiaaGreatDoor
open Go.RowKit

structure Two (W w : World) (p : HP) (g : Nat) (q : HP) (k : Nat) (a b : HM) : Prop where
  live : Live W w p g a
  doc : RAt w q b
  hk : q.g = k
  qnew : ∀ j, q.has j → W.heap.size ≤ j
  apart : ∀ j, q.has j → ¬ p.has j
/-- What a deed with both does to memory. -/
structure Step2 (p q p' q' : HP) (w w' : World) : Prop where
  os : w'.os = w.os
  tape : w'.tape = w.tape
  output : w'.output = w.output
  size : w.heap.size ≤ w'.heap.size
  block : ∀ j, j < w.heap.size → ¬ p.has j → ¬ q.has j → w'.heap[j]? = w.heap[j]?
  prows : ∀ j, p'.has j → p.has j ∨ w.heap.size ≤ j
  qrows : ∀ j, q'.has j → q.has j ∨ w.heap.size ≤ j
section
variable {W w w' w'' : World} {p q p' q' p'' q'' : HP} {g k : Nat} {a b a' b' : HM}
theorem Step2.refl (p q : HP) (w : World) : Step2 p q p q w w := ⟨rfl, rfl, rfl, Nat.le_refl _, fun _ _ _ _ => rfl, fun _ h => .inl h, fun _ h => .inl h⟩
theorem Step2.of_left (s : Step p p' w w') : Step2 p q p' q w w' := ⟨s.os, s.tape, s.output, s.size, fun j hj hp _ => s.block j hj hp, s.rows, fun _ h => .inl h⟩
theorem Step2.of_right (s : Step q q' w w') : Step2 p q p q' w w' := ⟨s.os, s.tape, s.output, s.size, fun j hj _ hq => s.block j hj hq, fun _ h => .inl h, s.rows⟩
theorem Step2.of_below (hb : Below w.heap.size w w') : Step2 p q p q w w' := .of_left (.of_below hb)
theorem Step2.trans (s : Step2 p q p' q' w w') (t : Step2 p' q' p'' q'' w' w'') : Step2 p q p'' q'' w w'' :=
  ⟨t.os.trans s.os, t.tape.trans s.tape, t.output.trans s.output, Nat.le_trans s.size t.size, fun j hj hp hq =>
    (t.block j (Nat.lt_of_lt_of_le hj s.size) (fun h => (s.prows j h).elim hp (fun h => by omega)) (fun h => (s.qrows j h).elim hq (fun h => by omega))).trans (s.block j hj hp hq),
   fun j h => (t.prows j h).elim (s.prows j) (fun h => .inr (Nat.le_trans s.size h)), fun j h => (t.qrows j h).elim (s.qrows j) (fun h => .inr (Nat.le_trans s.size h))⟩
theorem Two.left (T : Two W w p g q k a b) (L : Live W w' p' g a') (s : Step p p' w w') : Two W w' p' g q k a' b :=
  ⟨L, T.doc.same fun j hj => s.block j (T.doc.lt hj) (T.apart j hj), T.hk, T.qnew, fun j hj hh => (s.rows j hh).elim (T.apart j hj) (fun h => by have := T.doc.lt hj; omega)⟩
theorem Two.right (T : Two W w p g q k a b) (R : RAt w' q' b') (s : Step q q' w w') : Two W w' p g q' k a b' :=
  ⟨⟨T.live.at_.same fun j hj => s.block j (T.live.at_.lt hj) (fun h => T.apart j h hj), T.live.hg, T.live.good, T.live.env, T.live.new, s.below T.live.below T.qnew⟩, R, s.g.trans T.hk,
    fun j hj => (s.rows j hj).elim (T.qnew j) (fun h => Nat.le_trans T.live.below.size h), fun j hj hp => (s.rows j hj).elim (fun h => T.apart j h hp) (fun h => by have := T.live.at_.lt hp; omega)⟩
theorem Two.after (T : Two W w p g q k a b) (hb : Below w.heap.size w w') : Two W w' p g q k a b :=
  ⟨T.live.after hb, T.doc.below hb, T.hk, T.qnew, T.apart⟩
/-- Another pair stays as it is. -/
theorem Two.beside {p2 q2 : HP} {g2 k2 : Nat} {a2 b2 : HM} (T : Two W w p2 g2 q2 k2 a2 b2) (s : Step2 p q p' q' w w') (hb : Below W.heap.size W w') (hn : ∀ j, p2.has j ∨ q2.has j → ¬ p.has j ∧ ¬ q.has j) :
    Two W w' p2 g2 q2 k2 a2 b2 ∧ ∀ j, p2.has j ∨ q2.has j → ¬ p'.has j ∧ ¬ q'.has j :=
  ⟨⟨⟨T.live.at_.same fun j hj => s.block j (T.live.at_.lt hj) (hn j (.inl hj)).1 (hn j (.inl hj)).2, T.live.hg, T.live.good, T.live.env, T.live.new, hb⟩,
     T.doc.same fun j hj => s.block j (T.doc.lt hj) (hn j (.inr hj)).1 (hn j (.inr hj)).2, T.hk, T.qnew, T.apart⟩,
   fun j hj => by
    have hlt : j < w.heap.size := hj.elim (fun h => T.live.at_.lt h) (fun h => T.doc.lt h)
    exact ⟨fun h => (s.prows j h).elim (hn j hj).1 (fun h => by omega), fun h => (s.qrows j h).elim (hn j hj).2 (fun h => by omega)⟩⟩
theorem Two.reads {B n size : Nat} {A : Option Addr} {xs : List Value} (T : Two W w p g q k a b) (s : Step2 p q p' q' w w') (hr : Reads w B size A n xs) (hB : B ≤ W.heap.size) : Reads w' B size A n xs :=
  hr.keep fun x hx => World.cell?_of_block (s.block x.block (by have := T.live.below.size; omega) (fun h => by have := T.live.new _ h; omega) (fun h => by have := T.qnew _ h; omega))

/-- A deed with one or both. -/
def Done2 (W : World) (p : HP) (g : Nat) (q : HP) (k : Nat) (a b : HM) (v : Value) (w : World) (e : Ending) (w' : World) : Prop :=
  ∃ p' q', e = .returned v ∧ Two W w' p' g q' k a b ∧ Step2 p q p' q' w w'
theorem Two.of_done {v : Value} {d : Ending} (T : Two W w p g q k a b) (H : Done W p g a' v w d w') : Done2 W p g q k a' b v w d w' := by
  obtain ⟨p', rfl, L, s⟩ := H
  exact ⟨p', q, rfl, T.left L s, .of_left s⟩
theorem Two.of_rmade {v : Value} {d : Ending} (T : Two W w p g q k a b) (H : RMade q b' v w d w') : Done2 W p g q k a b' v w d w' := by
  obtain ⟨q', rfl, R, s⟩ := H
  exact ⟨p, q', rfl, T.right R s, .of_right s⟩
theorem Two.of_rdeeds {E : Nat} {d : Ending} (T : Two W w p g q k a b) (H : RDeeds q b' E w d w') : Done2 W p g q k a b' (.int .i64 E) w d w' := by
  obtain ⟨rfl, R, s⟩ := H
  exact ⟨p, q, rfl, T.right R s, .of_right s⟩
/-- The document's deeds. -/
theorem Two.ralloc (T : Two W w p g q k a b) (f : b.Fit) (c : Nat) (hc : c < 4294967296) (t n : Int) :
    Calls Tryz.prog 29 #[.pointer (some ⟨k, 0, none⟩), .int .u32 c, .int .i64 t, .int .i64 n] w (Done2 W p g q k a (b.AllocH c t n) (.tuple #[.int .u32 (b.AllocO c t n : Nat), .int .i64 (b.AllocE c t n : Nat)]) w) := by
  have hh := rAlloc_any T.doc f c hc t n
  rw [T.hk, HM.AllocV_eq] at hh
  exact hh.mono fun _ _ H => T.of_rmade H
theorem Two.rmake (T : Two W w p g q k a b) (f : b.Fit) (c : Nat) (hc : c < 4294967296) (A : Option Addr) (n cap : Nat) (bs : List Nat) (hn : n ≤ 9223372036854775807) (hr : Reads w w.heap.size 1 A n (u8c bs)) (hb : ∀ x ∈ bs, x < 256) :
    Calls Tryz.prog 30 #[.pointer (some ⟨k, 0, none⟩), .int .u32 c, .slice A n cap] w (Done2 W p g q k a (b.makeH c bs) (.tuple #[.int .u32 (b.makeO c bs : Nat), .int .i64 (b.makeE c bs : Nat)]) w) := by
  have hh := rMake_any T.doc f c hc A n cap bs hn hr hb
  rw [T.hk, HM.makeV_eq] at hh
  exact hh.mono fun _ _ H => T.of_rmade H
theorem Two.rput (T : Two W w p g q k a b) (f : b.Fit) (hh : b.Heads) (o : Nat) (ho : o < 4294967296) (i : Int) (hi : i ≤ 9223372036854775807) (v : Nat) (hv : v < 4294967296) :
    Calls Tryz.prog 33 #[.pointer (some ⟨k, 0, none⟩), .int .u32 o, .int .i64 i, .int .u32 v] w (Done2 W p g q k a (b.putH o i v) (.int .i64 (b.putE o i v : Nat)) w) := by
  have hh := rput_any T.doc f hh o ho i hi v hv
  rw [T.hk] at hh
  exact hh.mono fun _ _ H => T.of_rdeeds H
theorem Two.rsetWord (T : Two W w p g q k a b) (f : b.Fit) (hh : b.Heads) (o : Nat) (ho : o < 4294967296) (i : Int) (hi : i ≤ 9223372036854775807) (v : Nat) (hv : v < 4294967296) :
    Calls Tryz.prog 37 #[.pointer (some ⟨k, 0, none⟩), .int .u32 o, .int .i64 i, .int .u32 v] w (Done2 W p g q k a (b.setWordH o i v) (.int .i64 (b.lookE o i [3] : Nat)) w) := by
  have hh := rsetWord_any T.doc f hh o ho i hi v hv
  rw [T.hk] at hh
  exact hh.mono fun _ _ H => T.of_rdeeds H
theorem Two.rsetByte (T : Two W w p g q k a b) (f : b.Fit) (hh : b.Heads) (o : Nat) (ho : o < 4294967296) (i : Int) (hi : i ≤ 9223372036854775807) (v : Nat) (hv : v < 256) :
    Calls Tryz.prog 41 #[.pointer (some ⟨k, 0, none⟩), .int .u32 o, .int .i64 i, .int .u8 v] w (Done2 W p g q k a (b.setByteH o i v) (.int .i64 (b.lookE o i [2] : Nat)) w) := by
  have hh := rsetByte_any T.doc f hh o ho i hi v hv
  rw [T.hk] at hh
  exact hh.mono fun _ _ H => T.of_rdeeds H
theorem Two.rsetClass (T : Two W w p g q k a b) (f : b.Fit) (hh : b.Heads) (o : Nat) (ho : o < 4294967296) (v : Nat) (hv : v < 4294967296) :
    Calls Tryz.prog 45 #[.pointer (some ⟨k, 0, none⟩), .int .u32 o, .int .u32 v] w (Done2 W p g q k a (b.setClassH o v) (.int .i64 (b.setClassE o v : Nat)) w) := by
  have hh := rsetClass_any T.doc f o v ho hv hh
  rw [T.hk] at hh
  exact hh.mono fun _ _ H => T.of_rdeeds H
theorem Two.rsetRoot (T : Two W w p g q k a b) (f : b.Fit) (i : Int) (v : Nat) (hv : v < 4294967296) :
    Calls Tryz.prog 46 #[.pointer (some ⟨k, 0, none⟩), .int .i64 i, .int .u32 v] w (Done2 W p g q k a (b.setRootH i v) (.int .i64 (b.setRootE i v : Nat)) w) := by
  have hh := rsetRoot_any T.doc f i v hv
  rw [T.hk] at hh
  exact hh.mono fun _ _ H => T.of_rdeeds H
end
/-- Errors are small numbers. -/
theorem HM.AllocE_lt (h : HM) (c : Nat) (t n : Int) : h.AllocE c t n < 1000 := by
  have := h.allocE_le (mkHd c t n)
  unfold HM.AllocE
  split <;> omega
theorem HM.makeE_lt' (h : HM) (c : Nat) (bs : List Nat) : h.makeE c bs < 1000 := by
  have := h.allocE_le (makeX c bs)
  unfold HM.makeE
  split <;> omega
theorem HM.lookE_lt' (h : HM) (o : Nat) (i : Int) (fs : List Nat) : h.lookE o i fs < 1000 := by have := h.lookE_lt o i fs; omega
theorem HM.putE_lt (h : HM) (o : Nat) (i : Int) (v : Nat) : h.putE o i v < 1000 := by
  have := h.lookE_lt o i [1, 4]
  unfold HM.putE
  split <;> (try split) <;> omega
theorem HM.setClassE_lt (h : HM) (o c : Nat) : h.setClassE o c < 1000 := by unfold HM.setClassE; split <;> omega
theorem HM.setRootE_lt (h : HM) (i : Int) (v : Nat) : h.setRootE i v < 1000 := by unfold HM.setRootE; split <;> (try split) <;> omega
end Go.Proofs.YtkpjkbkglnabiaaGreatDoor
