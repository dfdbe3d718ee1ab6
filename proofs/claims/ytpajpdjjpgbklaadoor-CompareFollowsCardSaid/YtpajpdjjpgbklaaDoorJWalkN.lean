/- The pair walks over heaps that are none. -/
/- Diff over heaps that are none. -/
/- seen, Canon, Same over a heap that is none. -/
import Derived.Test.YtpajpdjjpgbklaaDoorJWalkK
import Derived.Test.YtpajpdjjpgbklaaDoorJCanon
import Derived.Test.YtpajpdjjpgbklaaDoorJUntil
import Derived.Test.YtpajpdjjpgbklaaDoorJCanK
import Derived.Test.YtpajpdjjpgbklaaDoorJAlike
import Derived.Test.YtpajpdjjpgbklaaDoorJWalk
import Derived.Test.YtpajpdjjpgbklaaDoorJDiffW
import Derived.Deep.QuietTactic
import Derived.BigQuiet
import Derived.IntWalk
set_option linter.unusedVariables false
set_option linter.unusedSimpArgs false
set_option linter.unusedSectionVars false
namespace Go.Proofs.YtpajpdjjpgbklaaDoor
open Go.RowKit Go.Maps Go.Sort
attribute [local go_sem] Oper.semAt_some
theorem side0 : Side [] [] := beginD_side (a := []) (b := []) (k := 0) rfl
set_option maxRecDepth 100000 in
set_option maxHeartbeats 8000000 in
theorem walk_no {W0 w : World} {x : PA} {q1 q2 : Option Addr} {r : PRows} (base : Below W0.heap.size W0 w) (P : PAt w W0.heap.size x (.pointer q1) (.pointer q2) r (.int .i64 0) (.slice none 0 0) (.int .i64 0) [] [] [] [])
    (ser : Bool) (A1 A2 : Option Addr) (n c1 c2 : Nat) (a : List Nat) (hn : n ≤ 9223372036854775807) (hra : Reads W0 W0.heap.size 1 A1 n (u32s a)) (hrb : Reads W0 W0.heap.size 1 A2 n (u32s a)) (ha32 : ∀ y ∈ a, y < 4294967296) (hk2 : ∀ y ∈ a, kindM y ≠ 2) :
    Calls Tryd.prog 36 #[.pointer (some ⟨x.gP, 0, none⟩), .slice A1 n c1, .slice A2 n c2, .bool ser] w (WalkP W0 x ⟨0, [], 0⟩) := by
  have hla : a.length = n := by have := hra.1; rw [u32s_len] at this; omega
  have hlb := hla
  have HLA := Lib.hid hla; have HLB := Lib.hid hlb
  have HRA := Lib.hid hra; have HRB := Lib.hid hrb; have HXA := Lib.hid ha32; have HXB := Lib.hid ha32; have HK2 := Lib.hid hk2
  have hba : Below w.heap.size w (w.alloc (.cells #[.pointer (some ⟨x.gP, 0, none⟩)] 91)) := (Below.refl _ _).alloc (Nat.le_refl _) _
  have HS0 := Lib.hid (show WkSt W0 x w.heap.size (.pointer q1) (.pointer q2) r (.int .i64 0) (.slice none 0 0) (.int .i64 0) [] [] [] (w.alloc (.cells #[.pointer (some ⟨x.gP, 0, none⟩)] 91)) from
    ⟨base.alloc base.size _, P.below hba, Blk.new w _ _⟩)
  have hbP : W0.heap.size ≤ w.heap.size := base.size
  clear hla hlb hra hrb ha32 hk2 hba P base
  refine (callsIn_wide (n := 6)).1 ?_
  refine callsIn_of_wp_marks Tryd.func36 rfl trivial ?_ rfl
  simp only [Tryd.ntmps36, List.size_toArray, List.length_cons, List.length_nil, Nat.reduceAdd, Nat.reduceSub, Array.replicate_succ, Array.replicate_zero, List.push_toArray, List.append_toArray, List.nil_append, List.cons_append]
  gi_wp2_with fail
  generalize w.heap.size = bP at *
  generalize w.alloc (.cells #[.pointer (some ⟨x.gP, 0, none⟩)] 91) = w2 at *
  gi_loopw [17] (fun iv wr => ∃ k : Nat, k ≤ n ∧ iv = .int .i64 k ∧ ∃ r' ps, WkSt W0 x bP (.pointer q1) (.pointer q2) r' (.int .i64 0) (.slice none 0 0) (.int .i64 0) [] [] ps wr) (fun iv _ => n - (intOf iv).toNat)
  case atStart => exact ⟨0, by omega, rfl, r, [], HS0.out⟩
  case round =>
    clear HS0
    obtain ⟨k, hk, rfl, r', ps, S⟩ := hrel
    have HS := Lib.hid S
    clear S
    by_cases hlt : k < n
    · obtain ⟨ad1, u1, rfl, hbl1, hx1, kc1⟩ := (HRA.out.below HS.out.base).at_ hlt
      obtain ⟨ad2, u2, rfl, hbl2, hx2, kc2⟩ := (HRB.out.below HS.out.base).at_ hlt
      rw [u32s_get (by rw [HLA.out]; exact hlt)] at hx1
      rw [u32s_get (by rw [HLB.out]; exact hlt)] at hx2
      injection hx1 with hx1
      injection hx2 with hx2
      subst hx1
      subst hx2
      have hm1 : a.getD k 0 ∈ a := by
        rw [List.getD_eq_getElem?_getD, List.getElem?_eq_getElem (by rw [HLA.out]; exact hlt)]
        exact List.getElem_mem _
      have hv32 := HXA.out _ hm1
      have hu32 := HXB.out _ hm1
      have hkv := HK2.out _ hm1
      have HPK := Lib.hid (show pairK [] [] (a.getD k 0) (a.getD k 0) = 0 by unfold pairK; rcases kindM_cases (a.getD k 0) with e | e | e <;> simp [e] at hkv ⊢)
      have HMN := Lib.hid (fun par fld d => show meetN [] (a.getD k 0) par fld d = [] by unfold meetN; rw [if_neg (fun e => hkv e.1)])
      have hll : ([] : List Nd).length ≤ 2097152 := by simp
      clear hm1 hkv
      generalize a.getD k 0 = v at *
      have hkb : k < 9223372036854775807 := by omega
      gi_upto_region 4 with fail
      refine wpIn_wide.2 ?_
      refine wp_region_U 11 (fun w' => w'.cell? ⟨bP, 0, none⟩ = some (.pointer (some ⟨x.gP, 0, none⟩)) ∧ w'.cell? (ad1.add k) = some (.int .u32 (v : Int)) ∧ w'.cell? (ad2.add k) = some (.int .u32 (v : Int))) (by kernel_rfl) ?_
      have hbd : Below wr.heap.size wr wr.drew := below_drew (Below.refl _ _)
      have HS3 := Lib.hid (HS.out.below hbd)
      replace kc1 : wr.drew.cell? (ad1.add k) = some (.int .u32 (v : Int)) := kc1
      replace kc2 : wr.drew.cell? (ad2.add k) = some (.int .u32 (v : Int)) := kc2
      clear HS hbd
      generalize wr.drew = w3 at *
      have hS : w3.cell? ⟨bP, 0, none⟩ = some (.pointer (some ⟨x.gP, 0, none⟩)) ∧ w3.cell? (ad1.add k) = some (.int .u32 (v : Int)) ∧ w3.cell? (ad2.add k) = some (.int .u32 (v : Int)) := ⟨HS3.out.box.cell 0, kc1, kc2⟩
      refine U_readC 0 [11] (v := .pointer (some ⟨x.gP, 0, none⟩)) rfl (by kernel_rfl) (fun _ _ _ h => h) hS (by rfl) (fun w' hw' => by obtain ⟨h0, h1, h2⟩ := hw'; go_simp) ?_
      try simp only [Act.put, List.setIfInBounds_toArray, List.set_cons_zero, List.set_cons_succ]
      refine U_readC 1 [3, 4, 11] (v := .slice (some ad1) n c1) rfl (by kernel_rfl) (fun _ _ _ h => h) hS (by rfl) (fun w' hw' => by obtain ⟨h0, h1, h2⟩ := hw'; go_simp) ?_
      try simp only [Act.put, List.setIfInBounds_toArray, List.set_cons_zero, List.set_cons_succ]
      refine U_readC 2 [3, 4, 11] (v := .int .i64 (k : Int)) rfl (by kernel_rfl) (fun _ _ _ h => h) hS (by rfl) (fun w' hw' => by obtain ⟨h0, h1, h2⟩ := hw'; go_simp) ?_
      try simp only [Act.put, List.setIfInBounds_toArray, List.set_cons_zero, List.set_cons_succ]
      refine U_readC 3 [4, 11] (v := .pointer (some (ad1.add k))) rfl (by kernel_rfl) (fun _ _ _ h => h) hS (by rfl) (fun w' hw' => by obtain ⟨h0, h1, h2⟩ := hw'; go_simp) ?_
      try simp only [Act.put, List.setIfInBounds_toArray, List.set_cons_zero, List.set_cons_succ]
      refine U_readC 4 [11] (v := .int .u32 (v : Int)) rfl (by kernel_rfl) (fun _ _ _ h => h) hS (by rfl) (fun w' hw' => by obtain ⟨h0, h1, h2⟩ := hw'; go_simp) ?_
      try simp only [Act.put, List.setIfInBounds_toArray, List.set_cons_zero, List.set_cons_succ]
      refine U_readC 5 [7, 8, 11] (v := .slice (some ad2) n c2) rfl (by kernel_rfl) (fun _ _ _ h => h) hS (by rfl) (fun w' hw' => by obtain ⟨h0, h1, h2⟩ := hw'; go_simp) ?_
      try simp only [Act.put, List.setIfInBounds_toArray, List.set_cons_zero, List.set_cons_succ]
      refine U_readC 6 [7, 8, 11] (v := .int .i64 (k : Int)) rfl (by kernel_rfl) (fun _ _ _ h => h) hS (by rfl) (fun w' hw' => by obtain ⟨h0, h1, h2⟩ := hw'; go_simp) ?_
      try simp only [Act.put, List.setIfInBounds_toArray, List.set_cons_zero, List.set_cons_succ]
      refine U_readC 7 [8, 11] (v := .pointer (some (ad2.add k))) rfl (by kernel_rfl) (fun _ _ _ h => h) hS (by rfl) (fun w' hw' => by obtain ⟨h0, h1, h2⟩ := hw'; go_simp) ?_
      try simp only [Act.put, List.setIfInBounds_toArray, List.set_cons_zero, List.set_cons_succ]
      refine U_readC 8 [11] (v := .int .u32 (v : Int)) rfl (by kernel_rfl) (fun _ _ _ h => h) hS (by rfl) (fun w' hw' => by obtain ⟨h0, h1, h2⟩ := hw'; go_simp) ?_
      try simp only [Act.put, List.setIfInBounds_toArray, List.set_cons_zero, List.set_cons_succ]
      refine U_readC 9 [10, 11] (v := .int .i64 (k : Int)) rfl (by kernel_rfl) (fun _ _ _ h => h) hS (by rfl) (fun w' hw' => by obtain ⟨h0, h1, h2⟩ := hw'; go_simp) ?_
      try simp only [Act.put, List.setIfInBounds_toArray, List.set_cons_zero, List.set_cons_succ]
      refine U_one 10 (by kernel_rfl) rfl rfl (fun K hK => ?_)
      go_simp
      have hba := (Below.refl w3.heap.size w3).alloc (Nat.le_refl _) (.cells #[.int .i64 (k : Int)] 3)
      refine hK _ _ (fun _ => ⟨(HS3.out.below hba).box.cell 0, (hba.cell (World.block_lt_of_cell? _ _ hS.2.1)).trans hS.2.1, (hba.cell (World.block_lt_of_cell? _ _ hS.2.2)).trans hS.2.2⟩) ?_
      clear hK K
      try simp only [Act.put, List.setIfInBounds_toArray, List.set_cons_zero, List.set_cons_succ]
      have HS4 := Lib.hid (HS3.out.below hba)
      have HNH := Lib.hid (show ¬ x.has w3.heap.size ∧ ¬ r'.has w3.heap.size from ⟨fun e => by
        rcases e with e | e | e | e | e
        · have := HS3.out.pr.box.lt; omega
        · have := HS3.out.pr.ga.box.lt; omega
        · have := HS3.out.pr.ga.num.lt; omega
        · have := HS3.out.pr.gb.box.lt; omega
        · have := HS3.out.pr.gb.num.lt; omega, fun e => by have := (HS3.out.pr.rLow e).2; omega⟩)
      have HVL := Lib.hid (values_any (c := 1) HS4.out.pr (fun y hy => by simp [oopsOf] at hy) (fun y hy => by simp [oopsOf] at hy) v v hv32 hu32 (show Reads (w3.alloc (.cells #[.int .i64 (k : Int)] 3)) (w3.alloc (.cells #[.int .i64 (k : Int)] 3)).heap.size 1 (some ⟨w3.heap.size, 0, none⟩) 1 (intZ [(k : Int)]) from ⟨rfl, fun _ => ⟨_, rfl, by simp, cell_one_new _ _ _⟩⟩) (by omega) (by omega) HNH.out.1 HNH.out.2 side0 (-1) (k : Int) (by omega) rfl (by omega))
      refine U_one 11 (by kernel_rfl) rfl rfl (fun K hK => ?_)
      go_simp
      refine HVL.out.mono ?_
      rintro e w5 (⟨hp0, rfl, r5, ps5, P5, s5⟩ | ⟨hp0, hD⟩)
      · rw [HMN.out] at P5
        have HS5 := Lib.hid (HS4.out.step P5 s5)
        clear P5 s5 HVL
        try dsimp only
        refine hK _ _ (fun h => absurd h (by decide)) ?_
        clear hK K
        try simp only [Act.put, List.setIfInBounds_toArray, List.set_cons_zero, List.set_cons_succ]
        refine U_done (by kernel_rfl) ?_ _
        simp only [Calm, Exit.then]
        gi_wp2_with fail
        go_roundw
        case rel => exact ⟨k + 1, by omega, by go_num, r5, ps5, HS5.out⟩
        case measure => simp [intOf]; omega
      · exact absurd HPK.out hp0
    · obtain rfl : k = n := by omega
      have hbi := (Below.refl wr.heap.size wr).alloc (Nat.le_refl _) (.cells #[.int .i64 0] 3)
      have HS2 := Lib.hid (HS.out.below hbi)
      clear hbi
      gi_wp2_with fail
      refine wpIn_loop_n (fun _ a' W => ∃ (bI : Nat) (ds : List Deferred) (r : PRows) (ps : List Value), a' = { tmps := frameWk x.gP A1 k c1 A2 c2 ser bP bI (fun n => a'.tmps.toList.getD n undef), defers := ds } ∧
        WkSt W0 x bP (.pointer q1) (.pointer q2) r (.int .i64 0) (.slice none 0 0) (.int .i64 0) [] [] ps W ∧ Blk W bI 3 #[.int .i64 0] ∧ Marks W0.heap.size ds W) 5 ?start ?round
      case start => exact ⟨wr.heap.size, [], r', ps, rfl, HS2.out, Blk.new wr _ _, Marks.nil _ _⟩
      case round =>
        clear HS HS2
        clear r' ps wr
        rintro j a' W ⟨bI, ds, r', ps, ha, S, BI, MK⟩
        generalize (fun n => a'.tmps.toList.getD n undef) = gf at ha
        unfold frameWk at ha
        subst ha
        have HS := Lib.hid S
        have HBI := Lib.hid BI
        have HMK := Lib.hid MK
        clear S BI MK
        have k0 := HBI.out.cell 0
        have k1 := HS.out.box.cell 0
        have k2 := HS.out.pr.box.cell 0
        have k3 := HS.out.pr.ga.box.cell 1
        obtain ⟨AA, cA, eA, -⟩ := own_slice HS.out.pr.ga.met
        rw [eA] at k3
        clear eA
        have HFIN := Lib.hid (show ToldAt W x.gP ⟨0, [], 0⟩ from ⟨HS.out.pr.box.cell 3, ⟨none, 0, HS.out.pr.box.cell 4, Reads.none_, (fun ad e => by cases e), Nat.le_refl _⟩, HS.out.pr.box.cell 5⟩)
        gi_upto_region 7 with fail
        refine wpIn_wide.2 ?_
        go_quiet (fail)
        have hbq := below_drewN (Below.refl W.heap.size W) nq
        have HB3 := Lib.hid (below_top HS.out.base hbq)
        have HMK3 := Lib.hid (HMK.out.below hbq)
        have HF3 := Lib.hid (HFIN.out.keep hbq.size fun k cs t fr ho => (hbq.block k (lt_of_get ho)).trans ho)
        clear HS HBI HMK hbq k0 k1 k2 k3 HFIN
        generalize W.drewN nq = W1 at *
        gi_wp2_with fail
        refine leaves_marks (B := W0.heap.size) _ _ HMK3.out (fun w' e1 e2 e3 e4 e5 => ?_)
        refine ⟨.tuple #[], by simp [results, Tryd.results36, go_sem], ?_⟩
        exact walk_left HB3.out HF3.out HMK3.out e1 e2 e3 e4 e5
end Go.Proofs.YtpajpdjjpgbklaaDoor

namespace Go.Proofs.YtpajpdjjpgbklaaDoor
open Go.RowKit
attribute [local go_sem] Oper.semAt_some
theorem nfits_ok {fr : List Nat} (hk2 : ∀ y ∈ fr, kindM y ≠ 2) : nfitsB fr = true := by
  unfold nfitsB nvB
  simp only [Bool.not_eq_true', List.any_eq_false]
  intro x hx
  simpa using hk2 x hx
def pairWN (w : World) (q : Option Addr) : World :=
  (((((w.alloc (.map #[] 0)).alloc (.cells #[.pointer q, .slice none 0 0, .map (some w.heap.size), .slice none 0 0] 94)).alloc (.map #[] 0)).alloc (.cells #[.pointer q, .slice none 0 0, .map (some (w.heap.size + 1 + 1)), .slice none 0 0] 94)).alloc
    (.cells #[.pointer (some ⟨w.heap.size + 1, 0, none⟩), .pointer (some ⟨w.heap.size + 1 + 1 + 1, 0, none⟩), .slice none 0 0, .int .i64 0, .slice none 0 0, .int .i64 0] 97))
theorem pair_madeN {W0 w : World} (hb : Below W0.heap.size W0 w) (q : Option Addr) : Below W0.heap.size W0 (pairWN w q) ∧
    PAt (pairWN w q) W0.heap.size ⟨w.heap.size + 1 + 1 + 1 + 1, w.heap.size + 1, w.heap.size, w.heap.size + 1 + 1 + 1, w.heap.size + 1 + 1⟩ (.pointer q) (.pointer q) ⟨.slice none 0 0, .slice none 0 0, .slice none 0 0, .slice none 0 0, .slice none 0 0⟩ (.int .i64 0) (.slice none 0 0) (.int .i64 0) [] [] [] [] := by
  have h0 := hb.size
  have hn : ∀ (W : World) (e : TypeId) (B : Nat), W.ownsRow B e 1 (.slice none 0 0) 0 [] := fun W e B => ⟨rfl, .inl ⟨rfl, rfl⟩⟩
  unfold pairWN
  have s1 : (w.alloc (.map #[] 0)).heap.size = w.heap.size + 1 := World.size_alloc ..
  generalize hA : w.alloc (.map #[] 0) = W1 at *
  have m1 : MapOk 50 W1 w.heap.size 0 (numF []) (fun x => decide (x ∈ oopsOf [])) := by rw [← hA]; exact (MapOk.made w _).ext (fun _ => rfl) (fun x => by simp [oopsOf])
  have b1 : Below W0.heap.size W0 W1 := by rw [← hA]; exact hb.alloc h0 _
  clear hA
  have s2 := World.size_alloc W1 (.cells #[.pointer q, .slice none 0 0, .map (some w.heap.size), .slice none 0 0] 94)
  have g2 := Blk.new W1 94 #[.pointer q, .slice none 0 0, .map (some w.heap.size), .slice none 0 0]
  have a2 := (Below.refl W1.heap.size W1).alloc (Nat.le_refl _) (.cells #[.pointer q, .slice none 0 0, .map (some w.heap.size), .slice none 0 0] 94)
  generalize W1.alloc (.cells #[.pointer q, .slice none 0 0, .map (some w.heap.size), .slice none 0 0] 94) = W2 at *
  have s3 := World.size_alloc W2 (.map #[] 0)
  have m3 : MapOk 50 (W2.alloc (.map #[] 0)) W2.heap.size 0 (numF []) (fun x => decide (x ∈ oopsOf [])) := (MapOk.made W2 _).ext (fun _ => rfl) (fun x => by simp [oopsOf])
  have a3 := (Below.refl W2.heap.size W2).alloc (Nat.le_refl _) (.map #[] 0)
  generalize W2.alloc (.map #[] 0) = W3 at *
  have s4 := World.size_alloc W3 (.cells #[.pointer q, .slice none 0 0, .map (some (w.heap.size + 1 + 1)), .slice none 0 0] 94)
  have g4 := Blk.new W3 94 #[.pointer q, .slice none 0 0, .map (some (w.heap.size + 1 + 1)), .slice none 0 0]
  have a4 := (Below.refl W3.heap.size W3).alloc (Nat.le_refl _) (.cells #[.pointer q, .slice none 0 0, .map (some (w.heap.size + 1 + 1)), .slice none 0 0] 94)
  generalize W3.alloc (.cells #[.pointer q, .slice none 0 0, .map (some (w.heap.size + 1 + 1)), .slice none 0 0] 94) = W4 at *
  have s5 := World.size_alloc W4 (.cells #[.pointer (some ⟨w.heap.size + 1, 0, none⟩), .pointer (some ⟨w.heap.size + 1 + 1 + 1, 0, none⟩), .slice none 0 0, .int .i64 0, .slice none 0 0, .int .i64 0] 97)
  have g5 := Blk.new W4 97 #[.pointer (some ⟨w.heap.size + 1, 0, none⟩), .pointer (some ⟨w.heap.size + 1 + 1 + 1, 0, none⟩), .slice none 0 0, .int .i64 0, .slice none 0 0, .int .i64 0]
  have a5 := (Below.refl W4.heap.size W4).alloc (Nat.le_refl _) (.cells #[.pointer (some ⟨w.heap.size + 1, 0, none⟩), .pointer (some ⟨w.heap.size + 1 + 1 + 1, 0, none⟩), .slice none 0 0, .int .i64 0, .slice none 0 0, .int .i64 0] 97)
  generalize W4.alloc (.cells #[.pointer (some ⟨w.heap.size + 1, 0, none⟩), .pointer (some ⟨w.heap.size + 1 + 1 + 1, 0, none⟩), .slice none 0 0, .int .i64 0, .slice none 0 0, .int .i64 0] 97) = W5 at *
  have b35 := below_top a4 a5
  have b25 := below_top a3 b35
  have b15 := below_top a2 b25
  rw [s4, s3, s2, s1] at g5
  rw [s3, s2, s1] at g4
  rw [s1] at g2
  rw [s2, s1] at m3
  refine ⟨below_top b1 b15, ⟨g5, ⟨g2.below b25 (by omega), hn _ _ _, hn _ _ _, m1.below b15, by dsimp only; omega, by dsimp only; omega, by omega⟩, ⟨g4.below a5 (by omega), hn _ _ _, hn _ _ _, m3.below b35, by dsimp only; omega, by dsimp only; omega, by omega⟩, hn _ _ _, rfl, (fun i hi => by simp at hi), by dsimp only; omega, by dsimp only; omega, by dsimp only; omega, (fun k h => by cases h), (fun k h => by cases h)⟩⟩
set_option maxRecDepth 100000 in
set_option maxHeartbeats 4000000 in
theorem diff_no1 {w : World} {q : Option Addr} (N : NoHp w (.pointer q)) (ser : Bool) (A1 A2 : Option Addr) (n c1 c2 : Nat) (a : List Nat) (hn : n ≤ 9223372036854775807)
    (hra : Reads w w.heap.size 1 A1 n (u32s a)) (hrb : Reads w w.heap.size 1 A2 n (u32s a)) (ha32 : ∀ y ∈ a, y < 4294967296) (hf : nfitsB a = false) :
    Calls Tryd.prog 10 #[.pointer q, .pointer q, .bool ser, .slice A1 n c1, .slice A2 n c2] w fun e w' => (∃ A k c, e = .returned (.tuple #[.agg #[.int .i64 0, .slice A k c, .int .i64 0], .int .i64 3])) ∧ Below w.heap.size w w' := by
  have hla : a.length = n := by have := hra.1; rw [u32s_len] at this; omega
  have HFA := Lib.hid (fun (w' : World) (hb : Below w.heap.size w w') => cfits_no (N.below hb) A1 n c1 a hn ((hra.below hb).more hb.size) ha32)
  have HFB := Lib.hid (fun (w' : World) (hb : Below w.heap.size w w') => cfits_no (N.below hb) A2 n c2 a hn ((hrb.below hb).more hb.size) ha32)
  have HB0 := Lib.hid ((Below.refl w.heap.size w).alloc (Nat.le_refl _) (.cells #[.int .i64 0, .slice none 0 0, .int .i64 0] 35))
  have BD := Lib.hid (Blk.new w 35 #[.int .i64 0, .slice none 0 0, .int .i64 0])
  rw [hf] at HFA
  clear hf hla N hra hrb
  go_enter Tryd.func10, Tryd.ntmps10
  go_wp2_with fail
  refine (HFA.out _ HB0.out).mono ?_
  rintro e w1 ⟨rfl, hb1⟩
  have HB1 := Lib.hid (below_top HB0.out hb1)
  have BDn := BD.out.below hb1 BD.out.lt
  have d0 := BDn.cell 0
  have d1 := BDn.cell 1
  have d2 := BDn.cell 2
  have z0 := BDn.frozen 0
  have z1 := BDn.frozen 1
  have z2 := BDn.frozen 2
  have BS := BDn.setAll3 (.int .i64 0) (.slice none 0 0) (.int .i64 0)
  have HBS := Lib.hid BS
  have hlS : w.heap.size ≤ w.heap.size := Nat.le_refl _
  clear BS BDn
  go_wp2_with fail
  have f0 := HBS.out.cell 0
  have f1 := HBS.out.cell 1
  have f2 := HBS.out.cell 2
  refine bodyPost_ret (v := .tuple #[.agg #[.int .i64 0, .slice none 0 0, .int .i64 0], .int .i64 3]) (by simp [results, Tryd.results10, go_sem, f0, f1, f2]) rfl ?_
  exact ⟨⟨_, _, _, rfl⟩, (((HB1.out.setCell (p := ⟨w.heap.size, 0, none⟩) (Nat.le_refl _) (.int .i64 0)).setCell (p := ⟨w.heap.size, 1, none⟩) (Nat.le_refl _) (.slice none 0 0)).setCell (p := ⟨w.heap.size, 2, none⟩) (Nat.le_refl _) (.int .i64 0))⟩
set_option maxRecDepth 100000 in
set_option maxHeartbeats 4000000 in
theorem diff_no2 {w : World} {q : Option Addr} (N : NoHp w (.pointer q)) (ser : Bool) (A1 A2 : Option Addr) (n c1 c2 : Nat) (a : List Nat) (hn : n ≤ 9223372036854775807)
    (hra : Reads w w.heap.size 1 A1 n (u32s a)) (hrb : Reads w w.heap.size 1 A2 n (u32s a)) (ha32 : ∀ y ∈ a, y < 4294967296) (hk2 : ∀ y ∈ a, kindM y ≠ 2) :
    Calls Tryd.prog 10 #[.pointer q, .pointer q, .bool ser, .slice A1 n c1, .slice A2 n c2] w fun e w' => (∃ A k c, e = .returned (.tuple #[.agg #[.int .i64 0, .slice A k c, .int .i64 0], .int .i64 0])) ∧ Below w.heap.size w w' := by
  have hla : a.length = n := by have := hra.1; rw [u32s_len] at this; omega
  have HFA := Lib.hid (fun (w' : World) (hb : Below w.heap.size w w') => cfits_no (N.below hb) A1 n c1 a hn ((hra.below hb).more hb.size) ha32)
  have HFB := Lib.hid (fun (w' : World) (hb : Below w.heap.size w w') => cfits_no (N.below hb) A2 n c2 a hn ((hrb.below hb).more hb.size) ha32)
  have HB0 := Lib.hid ((Below.refl w.heap.size w).alloc (Nat.le_refl _) (.cells #[.int .i64 0, .slice none 0 0, .int .i64 0] 35))
  have BD := Lib.hid (Blk.new w 35 #[.int .i64 0, .slice none 0 0, .int .i64 0])
  have hf := nfits_ok hk2
  rw [hf] at HFA HFB
  have HSA := Lib.hid (fun (w' : World) (hb : Below w.heap.size w w') => seen_no (N.below hb) A1 n c1 a hn ((hra.below hb).more hb.size) ha32 hk2)
  have HSB := Lib.hid (fun (w' : World) (hb : Below w.heap.size w w') => seen_no (N.below hb) A2 n c2 a hn ((hrb.below hb).more hb.size) ha32 hk2)
  have HX := Lib.hid (And.intro hra (And.intro hrb (And.intro ha32 hk2)))
  clear hf hla N hra hrb ha32 hk2
  go_enter Tryd.func10, Tryd.ntmps10
  go_wp2_with fail
  refine (HFA.out _ HB0.out).mono ?_
  rintro e w1 ⟨rfl, hb1⟩
  have HB1 := Lib.hid (below_top HB0.out hb1)
  have HBD1 := Lib.hid hb1
  clear hb1
  go_wp2_with fail
  refine (HFB.out _ HB1.out).mono ?_
  rintro e w2 ⟨rfl, hb2⟩
  have HB2 := Lib.hid (below_top HB1.out hb2)
  have HBD2 := Lib.hid (below_top HBD1.out hb2)
  clear hb2
  go_wp2_with fail
  refine (HSA.out _ HB2.out).mono ?_
  rintro e w3 ⟨hb3, g3, m3, vm3, vd3, rfl, -⟩
  have HB3 := Lib.hid (below_top HB2.out hb3)
  have HBD3 := Lib.hid (below_top HBD2.out hb3)
  clear hb3
  go_wp2_with fail
  refine (HSB.out _ HB3.out).mono ?_
  rintro e w4 ⟨hb4, g4, m4, vm4, vd4, rfl, -⟩
  have HB4 := Lib.hid (below_top HB3.out hb4)
  have HBD4 := Lib.hid (below_top HBD3.out hb4)
  clear hb4
  have en : ((n : Int) != (n : Int)) = false := by simp
  have hmm := @run_makeMap Tryd.prog
  go_wp2_with fail
  obtain ⟨hbw, PW⟩ := pair_madeN HBD4.out q
  have hwk := walk_no hbw PW ser A1 A2 n c1 c2 a hn ((HX.out.1.below HB0.out).more HB0.out.size) ((HX.out.2.1.below HB0.out).more HB0.out.size) HX.out.2.2.1 HX.out.2.2.2
  dsimp only at hwk
  have HWK := Lib.hid hwk
  unfold pairWN at HWK
  clear hbw PW hmm hwk
  refine HWK.out.mono ?_
  rintro e w6 ⟨rfl, hb6, k3, ⟨A6, c6, k4, hrd6, hfr6, hcp6⟩, k5⟩
  dsimp only at k3 k4 k5 hfr6
  have HCP := Lib.hid hcp6
  clear hcp6
  have HFR := Lib.hid hfr6
  have HSZ4 := Lib.hid HB4.out.size
  clear hfr6
  have HB6 := Lib.hid (HB0.out.trans (hb6.mono HB0.out.size))
  have BD6 := BD.out.below hb6 BD.out.lt
  have d0 := BD6.cell 0
  have d1 := BD6.cell 1
  have d2 := BD6.cell 2
  have z0 := BD6.frozen 0
  have z1 := BD6.frozen 1
  have z2 := BD6.frozen 2
  have HBS := Lib.hid (BD6.setAll3 (.int .i64 0) (.slice A6 0 c6) (.int .i64 0))
  have HRD := Lib.hid hrd6
  clear hb6 BD6 hrd6 HWK
  go_wp2_with fail
  have f0 := HBS.out.cell 0
  have f1 := HBS.out.cell 1
  have f2 := HBS.out.cell 2
  refine bodyPost_ret (v := .tuple #[.agg #[.int .i64 0, .slice A6 0 c6, .int .i64 0], .int .i64 0]) (by simp [results, Tryd.results10, go_sem, f0, f1, f2]) rfl ?_
  exact ⟨⟨_, _, _, rfl⟩, (((HB6.out.setCell (p := ⟨w.heap.size, 0, none⟩) (Nat.le_refl _) (.int .i64 0)).setCell (p := ⟨w.heap.size, 1, none⟩) (Nat.le_refl _) (.slice A6 0 c6)).setCell (p := ⟨w.heap.size, 2, none⟩) (Nat.le_refl _) (.int .i64 0))⟩
end Go.Proofs.YtpajpdjjpgbklaaDoor

namespace Go.Proofs.YtpajpdjjpgbklaaDoor
open Go.RowKit Go.Maps Go.Sort
attribute [local go_sem] Oper.semAt_some
set_option maxRecDepth 100000 in
set_option maxHeartbeats 4000000 in
theorem seen_no1 {w : World} {q : Option Addr} (N : NoHp w (.pointer q)) (A : Option Addr) (n c : Nat) (fr : List Nat) (hn : n ≤ 9223372036854775807) (hr : Reads w w.heap.size 1 A n (u32s fr)) (h32 : ∀ x ∈ fr, x < 4294967296) (hf : nfitsB fr = false) :
    Calls Tryd.prog 35 #[.pointer q, .slice A n c] w (Told (.tuple #[.pointer none, .int .i64 3]) w) := by
  have HFT := Lib.hid (cfits_no N A n c fr hn hr h32)
  rw [hf] at HFT
  clear hr h32 N hf
  go_enter Tryd.func35, Tryd.ntmps35
  go_wp2_with fail
  refine HFT.out.mono ?_
  rintro e w1 ⟨rfl, hb1⟩
  have HB1 := Lib.hid hb1
  go_wp2_with fail
  go_ret2
  exact ⟨rfl, HB1.out⟩
set_option maxRecDepth 100000 in
set_option maxHeartbeats 4000000 in
theorem canon_no1 {w : World} {q : Option Addr} (N : NoHp w (.pointer q)) (ser : Bool) (A : Option Addr) (n c : Nat) (fr : List Nat) (hn : n ≤ 9223372036854775807) (hr : Reads w w.heap.size 1 A n (u32s fr)) (h32 : ∀ x ∈ fr, x < 4294967296) (hf : nfitsB fr = false) :
    Calls Tryd.prog 15 #[.pointer q, .bool ser, .slice A n c] w (Told (.tuple #[.slice none 0 0, .int .i64 3]) w) := by
  have HSN := Lib.hid (seen_no1 N A n c fr hn hr h32 hf)
  clear hr h32 N hf
  go_enter Tryd.func15, Tryd.ntmps15
  go_wp2_with fail
  refine HSN.out.mono ?_
  rintro e w1 ⟨rfl, hb1⟩
  have HB1 := Lib.hid (hb1.alloc hb1.size (.cells #[.pointer none] 88))
  go_wp2_with fail
  go_ret2
  exact ⟨rfl, HB1.out⟩
set_option maxRecDepth 100000 in
set_option maxHeartbeats 4000000 in
theorem csame_no1 {w : World} {q : Option Addr} (N : NoHp w (.pointer q)) (ser : Bool) (A1 A2 : Option Addr) (n c1 c2 : Nat) (a : List Nat) (hn : n ≤ 9223372036854775807)
    (hra : Reads w w.heap.size 1 A1 n (u32s a)) (hrb : Reads w w.heap.size 1 A2 n (u32s a)) (ha32 : ∀ y ∈ a, y < 4294967296) (hf : nfitsB a = false) :
    Calls Tryd.prog 13 #[.pointer q, .pointer q, .bool ser, .slice A1 n c1, .slice A2 n c2] w (Told (.bool false) w) := by
  have HD := Lib.hid (diff_no1 N ser A1 A2 n c1 c2 a hn hra hrb ha32 hf)
  clear N hra hrb ha32 hf
  go_enter Tryd.func13, Tryd.ntmps13
  go_wp2_with fail
  refine HD.out.mono ?_
  rintro e w1 ⟨⟨A, k, c, rfl⟩, hb1⟩
  have HB1 := Lib.hid (hb1.alloc hb1.size (.cells #[.int .i64 0, .slice A k c, .int .i64 0] 35))
  clear hb1
  go_wp2_with fail
  go_ret
  exact ⟨rfl, HB1.out⟩
set_option maxRecDepth 100000 in
set_option maxHeartbeats 4000000 in
theorem csame_no2 {w : World} {q : Option Addr} (N : NoHp w (.pointer q)) (ser : Bool) (A1 A2 : Option Addr) (n c1 c2 : Nat) (a : List Nat) (hn : n ≤ 9223372036854775807)
    (hra : Reads w w.heap.size 1 A1 n (u32s a)) (hrb : Reads w w.heap.size 1 A2 n (u32s a)) (ha32 : ∀ y ∈ a, y < 4294967296) (hk2 : ∀ y ∈ a, kindM y ≠ 2) :
    Calls Tryd.prog 13 #[.pointer q, .pointer q, .bool ser, .slice A1 n c1, .slice A2 n c2] w (Told (.bool true) w) := by
  have HD := Lib.hid (diff_no2 N ser A1 A2 n c1 c2 a hn hra hrb ha32 hk2)
  clear N hra hrb ha32 hk2
  go_enter Tryd.func13, Tryd.ntmps13
  go_wp2_with fail
  refine HD.out.mono ?_
  rintro e w1 ⟨⟨A, k, c, rfl⟩, hb1⟩
  have HB1 := Lib.hid (hb1.alloc hb1.size (.cells #[.int .i64 0, .slice A k c, .int .i64 0] 35))
  clear hb1
  go_wp2_with fail
  go_ret
  exact ⟨rfl, HB1.out⟩
end Go.Proofs.YtpajpdjjpgbklaaDoor
