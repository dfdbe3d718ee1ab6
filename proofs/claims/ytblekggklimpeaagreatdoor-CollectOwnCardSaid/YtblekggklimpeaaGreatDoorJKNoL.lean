/- The functions of collect over no heap. -/
/- Become and Forward over no heap. -/
/- rename, Become and Forward over no heap. -/
/- CollectOwn, walked: it answers true. -/
import Derived.Test.YtblekggklimpeaaGreatDoorJNo
import Derived.Test.YtblekggklimpeaaGreatDoorJSoAll
import Derived.Test.YtblekggklimpeaaGreatDoorJKBecome
import Derived.Test.YtblekggklimpeaaGreatDoorJKRefs
import Derived.Test.YtblekggklimpeaaGreatDoorJKRObjs
import Derived.Test.YtblekggklimpeaaGreatDoorJKLay
import Derived.Test.YtblekggklimpeaaGreatDoorJKPathP
import Derived.Test.YtblekggklimpeaaGreatDoorJKBuilt
import Derived.Deep.RegionHeld3
import Derived.BigQuiet
set_option linter.unusedVariables false
set_option linter.unusedSimpArgs false
set_option linter.unusedSectionVars false
namespace Go.Proofs.YtblekggklimpeaaGreatDoor
open Go.RowKit Go.Sort
attribute [local go_sem] Oper.semAt_some
section
variable {w : World} {v : Value}
set_option maxHeartbeats 1000000 in
theorem deleteO_no : Calls Tryz.prog 67 #[.slice none 0 0, onlyFn] w (Said (.slice none 0 0) w) := by
  have HI := Lib.hid (indexO_any (w := w) none 0 0 w.heap.size [] (by omega) ⟨rfl, fun h => absurd h (by omega)⟩ (by simp))
  unfold onlyFn at HI ⊢
  go_enter Tryz.func67, Tryz.ntmps67
  go_wp2_with fail
  refine HI.out.mono ?_
  rintro e w' ⟨rfl, (⟨rfl, _⟩ | ⟨j, _, hj, _⟩)⟩
  · go_wp2_with fail
    go_ret
    exact ⟨rfl, rfl⟩
  · cases hj
theorem only_no : Calls Tryz.prog 41 #[.slice none 0 0] w (Said (.slice none 0 0) w) := by
  have HD := Lib.hid (deleteO_no (w := w))
  unfold onlyFn at HD
  go_enter Tryz.func41, Tryz.ntmps41
  go_wp2_with fail
  refine HD.out.mono ?_
  rintro e w' ⟨rfl, rfl⟩
  go_wp2_with fail
  go_ret
  exact ⟨rfl, rfl⟩
theorem tput_no {gt bm : Nat} : Calls Tryz.prog 66 #[.pointer (some ⟨gt, 0, none⟩), .int .i64 (-1), .slice none 0 0] w (Said (.tuple #[]) w) := by
  go_enter Tryz.func66, Tryz.ntmps66
  go_wp2_with fail
  go_loopw [7, 8, 9, 12] (fun _ _ _ iv wr => iv = .int .i64 ((0 : Nat) : Int) ∧ w = wr) (fun _ _ _ iv _ => 0)
  case atStart => exact ⟨rfl, rfl⟩
  case round =>
    obtain ⟨rfl, rfl⟩ := hrel
    go_wp2_with fail
    refine bodyPost_end (v := .tuple #[]) (by simp [results, Tryz.results66, go_sem]) rfl ?_
    exact ⟨rfl, rfl⟩
set_option maxRecDepth 100000 in
set_option maxHeartbeats 4000000 in
theorem walk_no : Calls Tryz.prog 40 #[v, .slice none 0 0] w (fun e w' => ∃ gt bm, e = .returned (.pointer (some ⟨gt, 0, none⟩)) ∧ Blk w' gt 83 #[.slice none 0 0, .map (some bm)] ∧ Below w.heap.size w w') := by
  have hb1 : Below w.heap.size w ((w.alloc (.map #[] 0)).alloc (.cells #[.slice none 0 0, .map (some w.heap.size)] 83)) := ((Below.refl _ w).alloc (Nat.le_refl _) _).alloc (by simp) _
  have hbx := Blk.new (w.alloc (.map #[] 0)) 83 #[.slice none 0 0, .map (some w.heap.size)]
  rw [World.size_alloc] at hbx
  have HB := Lib.hid (And.intro hb1 hbx)
  have c0 := hbx.cell 0
  clear hb1 hbx
  have hmm := @run_makeMap Tryz.prog
  go_enter Tryz.func40, Tryz.ntmps40
  go_wp2_with fail
  go_step3
  go_wp2_with fail
  generalize (w.alloc (.map #[] 0)).alloc (.cells #[.slice none 0 0, .map (some w.heap.size)] 83) = w2 at *
  refine (tput_no (bm := 0)).mono ?_
  rintro e w3 ⟨rfl, rfl⟩
  go_wp2_with fail
  go_step3
  go_wp2_with fail
  rw [Exit.noGoto_ret]
  go_ret
  exact ⟨_, _, rfl, HB.out.2, HB.out.1⟩
/-- Nothing, and new memory at most. -/
def NoneP (v : Value) (w : World) (e : Ending) (w' : World) : Prop := e = .returned v ∧ Below w.heap.size w w'
set_option maxRecDepth 100000 in
set_option maxHeartbeats 4000000 in
theorem live_no (N : NoHp w v) : Calls Tryz.prog 17 #[v] w (NoneP (.slice none 0 0) w) := by
  have HR := Lib.hid (roots_no N)
  have HO := Lib.hid (only_no (w := w))
  have HW := Lib.hid (walk_no (w := w) (v := v))
  clear N
  go_enter Tryz.func17, Tryz.ntmps17
  go_wp2_with fail
  refine HR.out.mono ?_
  rintro e w1 ⟨rfl, rfl⟩
  go_wp2_with fail
  refine HO.out.mono ?_
  rintro e w2 ⟨rfl, rfl⟩
  go_wp2_with fail
  refine HW.out.mono ?_
  rintro e w3 ⟨gt, bm, rfl, hb, hb3⟩
  have c0 := hb.cell 0
  have HB3 := Lib.hid hb3
  have HS := Lib.hid (sortV_any (w := w3) (B := w.heap.size) (v := .slice none 0 0) (xs := []) ⟨rfl, .inl ⟨rfl, rfl⟩⟩ hb3.size (by simp))
  clear hb hb3
  go_wp2_with fail
  refine HS.out.mono ?_
  rintro e w4 ⟨rfl, ys, _, _, _, h4⟩
  have HB4 := Lib.hid (HB3.out.trans h4)
  clear h4
  go_wp2_with fail
  go_ret
  exact ⟨rfl, HB4.out⟩
theorem plan_no (N : NoHp w v) : Calls Tryz.prog 18 #[v] w (NoneP (.slice none 0 0) w) := by
  have HL := Lib.hid (live_no N)
  clear N
  go_enter Tryz.func18, Tryz.ntmps18
  go_wp2_with fail
  refine HL.out.mono ?_
  rintro e w1 ⟨rfl, hb⟩
  have HB := Lib.hid hb
  clear hb
  go_wp2_with fail
  go_loopw [3, 12] (fun lv iv wr => lv = .slice none 0 0 ∧ iv = .int .i64 ((0 : Nat) : Int) ∧ w1 = wr) (fun _ iv _ => 0)
  case atStart => exact ⟨rfl, rfl, rfl⟩
  case round =>
    obtain ⟨rfl, rfl, rfl⟩ := hrel
    go_wp2_with fail
    go_ret
    exact ⟨rfl, HB.out⟩
set_option maxRecDepth 100000 in
set_option maxHeartbeats 4000000 in
theorem collect_no (N : NoHp w v) : Calls Tryz.prog 19 #[v] w (NoneP (.agg #[.int .i64 0, .int .i64 0, .int .i64 0, .int .i64 0, .int .i64 0]) w) := by
  have HS := Lib.hid (fun x => size_no (N.alloc x))
  clear N
  refine (callsIn_wide (n := 6)).1 ?_
  refine callsIn_of_wp_marks Tryz.func19 rfl trivial ?_ rfl
  simp only [Tryz.ntmps19, List.size_toArray, List.length_cons, List.length_nil, Nat.reduceAdd, Nat.reduceSub, Array.replicate_succ, Array.replicate_zero, List.push_toArray, List.append_toArray, List.nil_append, List.cons_append]
  gi_wp2_with fail
  refine ⟨trivial, (callsIn_wide.2 (HS.out _)).mono ?_⟩
  rintro e w1 ⟨rfl, rfl⟩
  gi_wp2_with fail
  exact ⟨.agg #[.int .i64 0, .int .i64 0, .int .i64 0, .int .i64 0, .int .i64 0], by simp [results, Tryz.results19, go_sem], rfl, (Below.refl _ _).alloc (Nat.le_refl _) _⟩
theorem reach_no (N : NoHp w v) (o : Nat) (ho : o < 4294967296) : Calls Tryz.prog 14 #[v, .int .u32 o] w (NoneP (.tuple #[.slice none 0 0, .int .i64 3]) w) := by
  have HI := Lib.hid (is_no N o ho)
  clear N
  go_enter Tryz.func14, Tryz.ntmps14
  go_wp2_with fail
  refine HI.out.mono ?_
  rintro e w1 ⟨rfl, rfl⟩
  go_wp2_with fail
  go_ret2
  exact ⟨rfl, Below.refl _ _⟩
theorem path_no (N : NoHp w v) (o : Nat) (ho : o < 4294967296) : Calls Tryz.prog 15 #[v, .int .u32 o] w (NoneP (.tuple #[.slice none 0 0, .int .i64 3]) w) := by
  have HI := Lib.hid (is_no N o ho)
  clear N
  go_enter Tryz.func15, Tryz.ntmps15
  go_wp2_with fail
  refine HI.out.mono ?_
  rintro e w1 ⟨rfl, rfl⟩
  go_wp2_with fail
  go_ret2
  exact ⟨rfl, Below.refl _ _⟩
set_option maxRecDepth 100000 in
set_option maxHeartbeats 4000000 in
theorem refs_no {q : Option Addr} (N : NoHp w (.pointer q)) (o : Nat) (ho : o < 4294967296) : Calls Tryz.prog 16 #[.pointer q, .int .u32 o] w (NoneP (.tuple #[.slice none 0 0, .int .i64 3]) w) := by
  have hb1 : Below w.heap.size w ((w.alloc (.cells #[.pointer q] 27)).alloc (.cells #[.int .u32 (o : Int)] 43)) := ((Below.refl _ w).alloc (Nat.le_refl _) _).alloc (by simp) _
  have bh := (Blk.new w 27 #[.pointer q]).alloc (.cells #[.int .u32 (o : Int)] 43)
  have bo := Blk.new (w.alloc (.cells #[.pointer q] 27)) 43 #[.int .u32 (o : Int)]
  simp only [World.size_alloc] at bo
  have HI := Lib.hid (is_no (N.below hb1) o ho)
  have HB := Lib.hid hb1
  clear N hb1
  refine (callsIn_wide (n := 6)).1 ?_
  refine callsIn_of_wp_marks Tryz.func16 rfl trivial ?_ rfl
  simp only [Tryz.ntmps16, List.size_toArray, List.length_cons, List.length_nil, Nat.reduceAdd, Nat.reduceSub, Array.replicate_succ, Array.replicate_zero, List.push_toArray, List.append_toArray, List.nil_append, List.cons_append]
  gi_upto_region 1 with fail
  generalize (w.alloc (.cells #[.pointer q] 27)).alloc (.cells #[.int .u32 (o : Int)] 43) = W1 at *
  have c1 := bh.cell 0
  have c2 := bo.cell 0
  gi_wp2_with fail
  refine ⟨trivial, (callsIn_wide.2 HI.out).mono ?_⟩
  rintro e w1 ⟨rfl, rfl⟩
  gi_wp2_with fail
  exact ⟨.tuple #[.slice none 0 0, .int .i64 3], by simp [results, Tryz.results16, go_sem], rfl, HB.out⟩
set_option maxRecDepth 100000 in
set_option maxHeartbeats 4000000 in
theorem inst_no {q : Option Addr} (N : NoHp w (.pointer q)) (o : Nat) (ho : o < 4294967296) : Calls Tryz.prog 20 #[.pointer q, .int .u32 o] w (NoneP (.slice none 0 0) w) := by
  have HPA := Lib.hid (fun W => allv_any W q)
  refine (callsIn_wide (n := 6)).1 ?_
  refine callsIn_of_wp_marks Tryz.func20 rfl trivial ?_ rfl
  simp only [Tryz.ntmps20, List.size_toArray, List.length_cons, List.length_nil, Nat.reduceAdd, Nat.reduceSub, Array.replicate_succ, Array.replicate_zero, List.push_toArray, List.append_toArray, List.nil_append, List.cons_append]
  gi_wp2_with fail
  refine ⟨trivial, (callsIn_wide.2 (HPA.out _)).mono ?_⟩
  rintro e W2 ⟨rfl, rfl⟩
  have bl := (Blk.new (w.alloc (.cells #[.int .u32 (o : Int)] 43)) 23 #[.slice none 0 0]).alloc (.cells #[.pointer q] 27)
  have bh := Blk.new ((w.alloc (.cells #[.int .u32 (o : Int)] 43)).alloc (.cells #[.slice none 0 0] 23)) 27 #[.pointer q]
  have hB0 : Below w.heap.size w (((w.alloc (.cells #[.int .u32 (o : Int)] 43)).alloc (.cells #[.slice none 0 0] 23)).alloc (.cells #[.pointer q] 27)) := (((Below.refl _ w).alloc (Nat.le_refl _) _).alloc (by simp) _).alloc (by simp; omega) _
  simp only [World.size_alloc] at bl bh
  gi_wp2_with fail
  obtain ⟨W0, hW0⟩ : ∃ W0, ((w.alloc (.cells #[.int .u32 (o : Int)] 43)).alloc (.cells #[.slice none 0 0] 23)).alloc (.cells #[.pointer q] 27) = W0 := ⟨_, rfl⟩
  rw [hW0] at bl bh hB0
  rw [hW0]
  clear hW0
  have HN := Lib.hid (N.below hB0)
  have HB0 := Lib.hid hB0
  have HBL := Lib.hid bl
  have hbx := bh.cell 0
  clear N hB0 bh
  refine wpIn_rangeFunc_ownH (F := Fence.wide) rfl (by omega) (gf := 70) (lb := #[.pointer (some ⟨w.heap.size + 1 + 1, 0, none⟩)]) rfl trivial (enters_of Tryz.func70 (by kernel_rfl) rfl)
    (all1_no (α := Fin 0) (fun x => x.elim0) (fun _ _ => True) 5 (w.heap.size + 1 + 1) q HN.out hbx) (fun _ _ => trivial) (fun _ _ _ _ _ _ _ _ => trivial) (Below.refl _ _) (fun x => x.elim0)
    (fun _ W => Below W0.heap.size W0 W) (fun _ _ _ => False)
    (fun pre A B row hs hg hr => hs.grown hg hs.size (fun k hk => (hr k hk).1))
    (fun c s w w' row h _ _ => h.elim) (Below.refl _ _) (fun x => x.elim0) (fun x => x.elim0) (fun l pre x => x.elim0) (fun l pre x => x.elim0) ?done0 (fun D c pre W _ h => h.elim)
  case done0 =>
    rintro D xs W hD rfl C hK
    have cL : W.cell? ⟨w.heap.size + 1, 0, none⟩ = some (.slice none 0 0) := (HBL.out.below C HBL.out.lt).cell 0
    have HC := Lib.hid C
    clear C
    gi_wp2_with fail
    refine ⟨by simp, .inl ⟨_, _, rfl, run_takeDeferred hK, ?_⟩⟩
    have hc := HC.out.grown (grownBy_putObj' W D (.deferred none)) HC.out.size (fun r e => by cases e; exact hD)
    refine ⟨.slice none 0 0, by simp [results, Tryz.results20, go_sem], rfl, below_top HB0.out hc⟩
end
end Go.Proofs.YtblekggklimpeaaGreatDoor

namespace Go.Proofs.YtblekggklimpeaaGreatDoor
open Go.RowKit Go.Sort
attribute [local go_sem] Oper.semAt_some
section
variable {w : World} {v : Value}
set_option maxRecDepth 100000 in
set_option maxHeartbeats 4000000 in
theorem fits_no0 : Calls Tryz.prog 29 #[v, .slice none 0 0, .slice none 0 0] w (Said (.int .i64 0) w) := by
  have hi0 := fun w' => idx2_0 none none 0 0 0 0 w'
  have hi1 := fun w' => idx2_1 none none 0 0 0 0 w'
  go_enter Tryz.func29, Tryz.ntmps29
  go_upto_region 4 with fail
  go_loopw [19] (fun iv wr => wr = w ∧ ∃ z : Int, iv = .int .i64 z ∧ (z = 0 ∨ z = 1 ∨ z = 2)) (fun iv _ => (2 - intOf iv).toNat)
  case atStart => exact ⟨rfl, 0, rfl, .inl rfl⟩
  case round =>
    obtain ⟨hww, z, rfl, hz⟩ := hrel
    have hww' := hww.symm
    subst hww'
    rcases hz with rfl | rfl | rfl
    · go_upto_region 7 with fail
      go_loopw [24] (fun jv w5 => w5 = w ∧ jv = .int .i64 ((0 : Nat) : Int)) (fun jv _ => 0)
      case atStart => exact ⟨rfl, rfl⟩
      case round =>
        obtain ⟨hwv, rfl⟩ := hrel
        have hwv' := hwv.symm
        subst hwv'
        go_wp2_with fail
        go_roundw
        case rel => exact ⟨trivial, 1, by go_num, .inr (.inl rfl)⟩
        case measure => simp [intOf]
    · go_upto_region 7 with fail
      go_loopw [24] (fun jv w5 => w5 = w ∧ jv = .int .i64 ((0 : Nat) : Int)) (fun jv _ => 0)
      case atStart => exact ⟨rfl, rfl⟩
      case round =>
        obtain ⟨hwv, rfl⟩ := hrel
        have hwv' := hwv.symm
        subst hwv'
        go_wp2_with fail
        go_roundw
        case rel => exact ⟨trivial, 2, by go_num, .inr (.inr rfl)⟩
        case measure => simp [intOf]
    · go_wp2_with fail
      go_ret
      exact ⟨rfl, rfl⟩
set_option maxRecDepth 100000 in
set_option maxHeartbeats 4000000 in
theorem fits_no1 (N : NoHp w v) {o : Nat} (ho : o < 4294967296) {A A' : Addr} {c c' : Nat} (hA : w.cell? A = some (.int .u32 (o : Int))) : Calls Tryz.prog 29 #[v, .slice (some A) 1 c, .slice (some A') 1 c'] w (Said (.int .i64 3) w) := by
  have hi0 := fun w' => idx2_0 (some A) (some A') 1 c 1 c' w'
  have HI := Lib.hid (is_no N o ho)
  clear N
  go_enter Tryz.func29, Tryz.ntmps29
  go_upto_region 4 with fail
  go_loopw [19] (fun iv wr => wr = w ∧ iv = .int .i64 ((0 : Nat) : Int)) (fun iv _ => 0)
  case atStart => exact ⟨rfl, rfl⟩
  case round =>
    obtain ⟨hww, rfl⟩ := hrel
    have hww' := hww.symm
    subst hww'
    go_upto_region 7 with fail
    go_loopw [24] (fun jv w5 => w5 = w ∧ jv = .int .i64 ((0 : Nat) : Int)) (fun jv _ => 0)
    case atStart => exact ⟨rfl, rfl⟩
    case round =>
      obtain ⟨hwv, rfl⟩ := hrel
      have hwv' := hwv.symm
      subst hwv'
      have hA0 : w.cell? (A.add 0) = some (.int .u32 (o : Int)) := by rw [show A.add 0 = A from rfl]; exact hA
      go_wp2_with fail
      refine HI.out.mono ?_
      rintro e w6 ⟨rfl, rfl⟩
      go_wp2_with fail
      go_ret
      exact ⟨rfl, rfl⟩
end
end Go.Proofs.YtblekggklimpeaaGreatDoor

namespace Go.Proofs.YtblekggklimpeaaGreatDoor
open Go.RowKit Go.Sort
attribute [local go_sem] Oper.semAt_some
section
variable {w : World} {v : Value}
set_option maxRecDepth 100000 in
set_option maxHeartbeats 4000000 in
theorem rename_no {q : Option Addr} (N : NoHp w (.pointer q)) (mb : Nat) : Calls Tryz.prog 31 #[.pointer q, .map (some mb)] w (fun e w' => (∃ v, e = .returned v) ∧ Below w.heap.size w w') := by
  have HPA := Lib.hid (fun W => allv_any W q)
  refine (callsIn_wide (n := 6)).1 ?_
  refine callsIn_of_wp_marks Tryz.func31 rfl trivial ?_ rfl
  simp only [Tryz.ntmps31, List.size_toArray, List.length_cons, List.length_nil, Nat.reduceAdd, Nat.reduceSub, Array.replicate_succ, Array.replicate_zero, List.push_toArray, List.append_toArray, List.nil_append, List.cons_append]
  gi_wp2_with fail
  refine ⟨trivial, (callsIn_wide.2 (HPA.out _)).mono ?_⟩
  rintro e W2 ⟨rfl, rfl⟩
  have b1 := ((((Blk.new w 27 #[.pointer q]).alloc (.cells #[.map (some mb)] 71)).alloc (.cells #[.func (.func 60) #[] #[.pointer (some ⟨w.heap.size + 1, 0, none⟩)]] 110))).alloc (.cells #[.pointer q] 27)
  have b4 := Blk.new (((w.alloc (.cells #[.pointer q] 27)).alloc (.cells #[.map (some mb)] 71)).alloc (.cells #[.func (.func 60) #[] #[.pointer (some ⟨w.heap.size + 1, 0, none⟩)]] 110)) 27 #[.pointer q]
  have hB0 : Below w.heap.size w ((((w.alloc (.cells #[.pointer q] 27)).alloc (.cells #[.map (some mb)] 71)).alloc (.cells #[.func (.func 60) #[] #[.pointer (some ⟨w.heap.size + 1, 0, none⟩)]] 110)).alloc (.cells #[.pointer q] 27)) := ((((Below.refl _ w).alloc (Nat.le_refl _) _).alloc (by simp) _).alloc (by simp; omega) _).alloc (by simp; omega) _
  simp only [World.size_alloc] at b1 b4
  gi_wp2_with fail
  obtain ⟨W0, hW0⟩ : ∃ W0, (((w.alloc (.cells #[.pointer q] 27)).alloc (.cells #[.map (some mb)] 71)).alloc (.cells #[.func (.func 60) #[] #[.pointer (some ⟨w.heap.size + 1, 0, none⟩)]] 110)).alloc (.cells #[.pointer q] 27) = W0 := ⟨_, rfl⟩
  rw [hW0] at b1 b4 hB0
  rw [hW0]
  clear hW0
  have HN := Lib.hid (N.below hB0)
  have HB0 := Lib.hid hB0
  have HBL := Lib.hid b1
  have hbx := b4.cell 0
  clear N hB0 b4
  refine wpIn_rangeFunc_ownH (F := Fence.wide) rfl (by omega) (gf := 70) (lb := #[.pointer (some ⟨w.heap.size + 1 + 1 + 1, 0, none⟩)]) rfl trivial (enters_of Tryz.func70 (by kernel_rfl) rfl)
    (all1_no (α := Fin 0) (fun x => x.elim0) (fun _ _ => True) 5 (w.heap.size + 1 + 1 + 1) q HN.out hbx) (fun _ _ => trivial) (fun _ _ _ _ _ _ _ _ => trivial) (Below.refl _ _) (fun x => x.elim0)
    (fun _ W => Below W0.heap.size W0 W) (fun _ _ _ => False)
    (fun pre A B row hs hg hr => hs.grown hg hs.size (fun k hk => (hr k hk).1))
    (fun c s w w' row h _ _ => h.elim) (Below.refl _ _) (fun x => x.elim0) (fun x => x.elim0) (fun l pre x => x.elim0) (fun l pre x => x.elim0) ?done0 (fun D c pre W _ h => h.elim)
  case done0 =>
    rintro D xs W hD rfl C hK
    have d1 : W.cell? ⟨w.heap.size, 0, none⟩ = some (.pointer q) := (HBL.out.below C HBL.out.lt).cell 0
    have HC := Lib.hid C
    have HRT := Lib.hid (roots_no (HN.out.below C))
    clear C
    gi_wp2_with fail
    refine ⟨trivial, (callsIn_wide.2 HRT.out).mono ?_⟩
    rintro e w10 ⟨rfl, rfl⟩
    gi_wp2_with fail
    gi_loopw [55] (fun iv wr => iv = .int .i64 ((0 : Nat) : Int) ∧ wr = W) (fun iv _ => 0)
    case atStart => exact ⟨rfl, rfl⟩
    case round =>
      obtain ⟨rfl, hww⟩ := hrel
      have hww' := hww.symm
      subst hww'
      gi_wp2_with fail
      refine ⟨by simp, .inl ⟨_, _, rfl, run_takeDeferred hK, ?_⟩⟩
      refine ⟨_, results_none rfl _ _ _, ?_⟩
      have hc := HC.out.grown (grownBy_putObj' _ D (.deferred none)) HC.out.size (fun r e => by cases e; exact hD)
      exact ⟨⟨_, rfl⟩, below_top HB0.out hc⟩
set_option maxRecDepth 100000 in
set_option maxHeartbeats 4000000 in
theorem become_no {q : Option Addr} (N : NoHp w (.pointer q)) : Calls Tryz.prog 9 #[.pointer q, .slice none 0 0, .slice none 0 0] w (NoneP (.int .i64 0) w) := by
  have HFT := Lib.hid (fits_no0 (w := w) (v := .pointer q))
  have hsz := World.size_alloc w (.cells #[.slice none 0 0, .slice none 0 0] 23)
  have hB := (Below.refl w.heap.size w).alloc (Nat.le_refl _) (.cells #[.slice none 0 0, .slice none 0 0] 23)
  have HTW := Lib.hid (twice_any (w := w.alloc (.cells #[.slice none 0 0, .slice none 0 0] 23)) (A := some ⟨w.heap.size, 0, none⟩) (c := 2) (rs := [⟨none, 0, 0, []⟩, ⟨none, 0, 0, []⟩]) (readsB2 w _ (.slice none 0 0) (.slice none 0 0)) (by
      intro r hr
      simp only [List.mem_cons, List.not_mem_nil, or_false] at hr
      rcases hr with rfl | rfl <;> exact ⟨⟨rfl, fun h => absurd h (by simp)⟩, by simp, by simp⟩) (by simp) (by simp [allX]))
  rw [show allX [⟨none, 0, 0, []⟩, ⟨none, 0, 0, []⟩] = [] from by simp [allX], show decide (¬ ([] : List Nat).Nodup) = false from by simp] at HTW
  simp only [List.length_cons, List.length_nil] at HTW
  have HN := Lib.hid N
  have HB := Lib.hid hB
  have hmm := @run_makeMap Tryz.prog
  clear N hB
  go_enter Tryz.func9, Tryz.ntmps9
  go_wp2_with fail
  refine HFT.out.mono ?_
  rintro e w1 ⟨rfl, rfl⟩
  go_wp2_with fail
  refine HTW.out.mono ?_
  rintro e w2 ⟨rfl, hb2⟩
  have HB2 := Lib.hid (show Below w.heap.size w w2 from HB.out.trans (hb2.mono (by omega)))
  clear hb2
  have HM0 := Lib.hid (show Below w.heap.size w (w2.alloc (.map #[] 0)) from HB2.out.alloc HB2.out.size _)
  go_upto_region 8 with fail
  generalize w2.alloc (.map #[] 0) = w3 at *
  clear hmm
  go_loopw [24] (fun iv wr => iv = .int .i64 ((0 : Nat) : Int) ∧ wr = w3) (fun iv _ => 0)
  case atStart => exact ⟨rfl, rfl⟩
  case round =>
    obtain ⟨rfl, hww⟩ := hrel
    have hww' := hww.symm
    subst hww'
    have HRE := Lib.hid (rename_no (HN.out.below HM0.out) w2.heap.size)
    go_wp2_with fail
    refine HRE.out.mono ?_
    rintro e w5 ⟨⟨v, rfl⟩, hb5⟩
    have HF5 := Lib.hid (HM0.out.trans (hb5.mono HM0.out.size))
    clear hb5
    go_wp2_with fail
    go_ret
    exact ⟨rfl, HF5.out⟩
set_option maxRecDepth 100000 in
set_option maxHeartbeats 4000000 in
theorem forward_no (N : NoHp w v) {o : Nat} (ho : o < 4294967296) {A A' : Addr} {c c' : Nat} (hA : w.cell? A = some (.int .u32 (o : Int))) : Calls Tryz.prog 12 #[v, .slice (some A) 1 c, .slice (some A') 1 c'] w (Said (.int .i64 3) w) := by
  have HFT := Lib.hid (fits_no1 (A' := A') (c := c) (c' := c') N ho hA)
  clear N
  go_enter Tryz.func12, Tryz.ntmps12
  go_wp2_with fail
  refine HFT.out.mono ?_
  rintro e w1 ⟨rfl, rfl⟩
  go_wp2_with fail
  go_ret
  exact ⟨rfl, rfl⟩
end
end Go.Proofs.YtblekggklimpeaaGreatDoor

namespace Go.Proofs.YtblekggklimpeaaGreatDoor
open Go.RowKit Go.Sort
attribute [local go_sem] Oper.semAt_some
set_option maxRecDepth 100000 in
set_option maxHeartbeats 8000000 in
theorem ownL_any (W : World) (E : Env W) (k : Cs) (hk : k.At W W.heap.size) (o : Nat) (ho : o < 4294967296) : Calls Tryz.prog 4 #[k.agg, .int .u32 o] W (Told (.bool true) W) := by
  have hb1 := (Below.refl W.heap.size W).alloc (Nat.le_refl _) (.cells k.cells 26)
  have B1 := Blk.new W 26 k.cells
  have HB1 := Lib.hid hb1
  have HBX := Lib.hid B1
  have HE := Lib.hid (E.below hb1)
  have HK := Lib.hid (hk.below hb1)
  have hsz := World.size_alloc W (.cells k.cells 26)
  clear hb1 B1 E hk
  unfold Cs.cells at HB1 HBX HE HK hsz
  unfold Cs.agg
  go_enter Tryz.func4, Tryz.ntmps4
  go_upto_region 2 with fail
  generalize W.alloc (.cells #[.int .i64 k.size, .slice k.A k.n k.c, .slice k.A' k.n' k.c', .int .u32 (k.last : Nat)] 26) = W1 at *
  have HNO := Lib.hid (fun (w : World) (q : Option Addr) (N : NoHp w (.pointer q)) => And.intro (reach_no N o ho) (And.intro (path_no N o ho) (And.intro (refs_no N o ho) (And.intro (live_no N) (And.intro (plan_no N) (And.intro (collect_no N) (And.intro (inst_no N o ho) (become_no N))))))))
  have HN9 := Lib.hid (fun (w : World) (q : Option Addr) (N : NoHp w (.pointer q)) {A : Addr} (A' : Addr) (c c' : Nat) (hA : w.cell? A = some (.int .u32 (o : Int))) => forward_no (A' := A') (c := c) (c' := c') N ho hA)
  unfold NoneP at HNO
  go_loopw [5] (fun iv wr => Below W1.heap.size W1 wr ∧ ∃ z : Int, iv = .int .i64 z ∧ (z = 0 ∨ z = 1 ∨ z = 2)) (fun iv _ => (2 - intOf iv).toNat)
  case atStart => exact ⟨Below.refl _ _, 0, rfl, .inl rfl⟩
  case round =>
    obtain ⟨hbr, z, rfl, hz⟩ := hrel
    have HBR := Lib.hid hbr
    clear hbr
    rcases hz with rfl | rfl | rfl
    · have N0 : NoHp wr (.pointer none) := .inl rfl
      go_upto_region 7 with fail
      have HN0 := Lib.hid N0
      clear N0
      go_wp2_with fail
      refine (HNO.out _ _ HN0.out).1.mono ?_
      rintro e wa ⟨rfl, hba⟩
      have HNa := Lib.hid (HN0.out.below hba)
      have HBa := Lib.hid (below_top HBR.out hba)
      clear hba HN0
      go_wp2_with fail
      refine (HNO.out _ _ HNa.out).2.1.mono ?_
      rintro e wb ⟨rfl, hbb⟩
      have HNb := Lib.hid (HNa.out.below hbb)
      have HBb := Lib.hid (below_top HBa.out hbb)
      clear hbb HNa HBa
      go_wp2_with fail
      refine (HNO.out _ _ HNb.out).2.2.1.mono ?_
      rintro e wc ⟨rfl, hbc⟩
      have HNc := Lib.hid (HNb.out.below hbc)
      have HBc := Lib.hid (below_top HBb.out hbc)
      clear hbc HNb HBb
      go_wp2_with fail
      refine (HNO.out _ _ HNc.out).2.2.2.1.mono ?_
      rintro e wd ⟨rfl, hbd⟩
      have HNd := Lib.hid (HNc.out.below hbd)
      have HBd := Lib.hid (below_top HBc.out hbd)
      clear hbd HNc HBc
      go_wp2_with fail
      refine (HNO.out _ _ HNd.out).2.2.2.2.1.mono ?_
      rintro e we ⟨rfl, hbe⟩
      have HNe := Lib.hid (HNd.out.below hbe)
      have HBe := Lib.hid (below_top HBd.out hbe)
      clear hbe HNd HBd
      go_wp2_with fail
      refine (HNO.out _ _ HNe.out).2.2.2.2.2.1.mono ?_
      rintro e wf ⟨rfl, hbf⟩
      have HNf := Lib.hid (HNe.out.below hbf)
      have HBf := Lib.hid (below_top HBe.out hbf)
      clear hbf HNe HBe
      go_wp2_with fail
      refine (HNO.out _ _ HNf.out).2.2.2.2.2.2.1.mono ?_
      rintro e wg ⟨rfl, hbg⟩
      have HNg := Lib.hid (HNf.out.below hbg)
      have HBg := Lib.hid (below_top HBf.out hbg)
      clear hbg HNf HBf
      go_wp2_with fail
      refine (HNO.out _ _ HNg.out).2.2.2.2.2.2.2.mono ?_
      rintro e wh ⟨rfl, hbh⟩
      have HNh := Lib.hid (HNg.out.below hbh)
      have HBh := Lib.hid (below_top HBg.out hbh)
      clear hbh HNg HBg
      have hby : Below wh.heap.size wh ((wh.alloc (.cells #[.int .u32 (o : Int)] 43)).alloc (.cells #[.int .u32 (o : Int)] 43)) := ((Below.refl _ wh).alloc (Nat.le_refl _) _).alloc (by simp) _
      have hcy := (((Blk.new wh 43 #[.int .u32 (o : Int)]).alloc (.cells #[.int .u32 (o : Int)] 43))).cell 0
      have HNy := Lib.hid (fun (A' : Addr) (c c' : Nat) => HN9.out _ _ (HNh.out.below hby) A' c c' hcy)
      have HBy := Lib.hid (below_top HBh.out hby)
      clear hby hcy HNh HBh
      go_wp2_with fail
      refine (HNy.out _ _ _).mono ?_
      rintro e wi ⟨rfl, rfl⟩
      go_wp2_with fail
      go_roundw
      case rel => exact ⟨HBy.out, 1, by go_num, .inr (.inl rfl)⟩
      case measure => simp [intOf]
    · have hb0 := HBR.out.alloc HBR.out.size (.cells #[.slice none 0 0, .slice none 0 0, .slice none 0 0, .int .i64 0, .int .u32 0] 46)
      have N0 : NoHp (wr.alloc (.cells #[.slice none 0 0, .slice none 0 0, .slice none 0 0, .int .i64 0, .int .u32 0] 46)) (.pointer (some ⟨wr.heap.size, 0, none⟩)) := .inr ⟨wr.heap.size, rfl, (Blk.new wr 46 #[.slice none 0 0, .slice none 0 0, .slice none 0 0, .int .i64 0, .int .u32 0]).cell 3⟩
      have HBR0 := Lib.hid hb0
      clear hb0 HBR
      go_upto_region 7 with fail
      generalize wr.alloc (.cells #[.slice none 0 0, .slice none 0 0, .slice none 0 0, .int .i64 0, .int .u32 0] 46) = wr0 at *
      have HN0 := Lib.hid N0
      clear N0
      go_wp2_with fail
      refine (HNO.out _ _ HN0.out).1.mono ?_
      rintro e wa ⟨rfl, hba⟩
      have HNa := Lib.hid (HN0.out.below hba)
      have HBa := Lib.hid (below_top HBR0.out hba)
      clear hba HN0
      go_wp2_with fail
      refine (HNO.out _ _ HNa.out).2.1.mono ?_
      rintro e wb ⟨rfl, hbb⟩
      have HNb := Lib.hid (HNa.out.below hbb)
      have HBb := Lib.hid (below_top HBa.out hbb)
      clear hbb HNa HBa
      go_wp2_with fail
      refine (HNO.out _ _ HNb.out).2.2.1.mono ?_
      rintro e wc ⟨rfl, hbc⟩
      have HNc := Lib.hid (HNb.out.below hbc)
      have HBc := Lib.hid (below_top HBb.out hbc)
      clear hbc HNb HBb
      go_wp2_with fail
      refine (HNO.out _ _ HNc.out).2.2.2.1.mono ?_
      rintro e wd ⟨rfl, hbd⟩
      have HNd := Lib.hid (HNc.out.below hbd)
      have HBd := Lib.hid (below_top HBc.out hbd)
      clear hbd HNc HBc
      go_wp2_with fail
      refine (HNO.out _ _ HNd.out).2.2.2.2.1.mono ?_
      rintro e we ⟨rfl, hbe⟩
      have HNe := Lib.hid (HNd.out.below hbe)
      have HBe := Lib.hid (below_top HBd.out hbe)
      clear hbe HNd HBd
      go_wp2_with fail
      refine (HNO.out _ _ HNe.out).2.2.2.2.2.1.mono ?_
      rintro e wf ⟨rfl, hbf⟩
      have HNf := Lib.hid (HNe.out.below hbf)
      have HBf := Lib.hid (below_top HBe.out hbf)
      clear hbf HNe HBe
      go_wp2_with fail
      refine (HNO.out _ _ HNf.out).2.2.2.2.2.2.1.mono ?_
      rintro e wg ⟨rfl, hbg⟩
      have HNg := Lib.hid (HNf.out.below hbg)
      have HBg := Lib.hid (below_top HBf.out hbg)
      clear hbg HNf HBf
      go_wp2_with fail
      refine (HNO.out _ _ HNg.out).2.2.2.2.2.2.2.mono ?_
      rintro e wh ⟨rfl, hbh⟩
      have HNh := Lib.hid (HNg.out.below hbh)
      have HBh := Lib.hid (below_top HBg.out hbh)
      clear hbh HNg HBg
      have hby : Below wh.heap.size wh ((wh.alloc (.cells #[.int .u32 (o : Int)] 43)).alloc (.cells #[.int .u32 (o : Int)] 43)) := ((Below.refl _ wh).alloc (Nat.le_refl _) _).alloc (by simp) _
      have hcy := (((Blk.new wh 43 #[.int .u32 (o : Int)]).alloc (.cells #[.int .u32 (o : Int)] 43))).cell 0
      have HNy := Lib.hid (fun (A' : Addr) (c c' : Nat) => HN9.out _ _ (HNh.out.below hby) A' c c' hcy)
      have HBy := Lib.hid (below_top HBh.out hby)
      clear hby hcy HNh HBh
      go_wp2_with fail
      refine (HNy.out _ _ _).mono ?_
      rintro e wi ⟨rfl, rfl⟩
      go_wp2_with fail
      go_roundw
      case rel => exact ⟨HBy.out, 2, by go_num, .inr (.inr rfl)⟩
      case measure => simp [intOf]
    · have HER := Lib.hid (HE.out.below HBR.out)
      have HKR := Lib.hid (HK.out.below HBR.out)
      have HXR := Lib.hid (HBX.out.below HBR.out HBX.out.lt)
      have HWR := Lib.hid (below_top HB1.out HBR.out)
      have HBU := Lib.hid (built_any wr HER.out k HKR.out)
      have HAW := Lib.hid (fun (w : World) (E : Env w) => awake_any w E)
      unfold Cs.agg at HBU
      obtain ⟨x0, x1, x2, x3⟩ := cells4K HXR.out
      clear HNO HN9 HBX HE HK HB1
      go_wp2_with fail
      refine HBU.out.mono ?_
      rintro e w1 (⟨hno, ⟨v, rfl⟩, hb⟩ | ⟨hok, p, g, rfl, L, hws, hrs⟩)
      · have HB2 := Lib.hid (below_top HWR.out hb)
        have HE2 := Lib.hid (HER.out.below hb)
        clear hb hno x0 x1 x2 x3
        go_wp2_with fail
        refine (HAW.out _ HE2.out).mono ?_
        rintro e w3 ⟨rfl, hb3⟩
        have HB4 := Lib.hid (below_top HB2.out hb3)
        clear hb3
        go_wp2_with fail
        go_ret
        exact ⟨rfl, HB4.out⟩
      · have HB2 := Lib.hid (below_top HWR.out L.below)
        have HL2 := Lib.hid L
        have HEV := Lib.hid L.envw
        obtain ⟨l, G⟩ := L.good
        have HG := Lib.hid G
        clear G L hws hrs hok x0 x1 x2 x3
        go_wp2_with fail
        refine (HAW.out _ HEV.out).mono ?_
        rintro e w3 ⟨rfl, hb3⟩
        have HL3 := Lib.hid (HL2.out.after hb3)
        have HB4 := Lib.hid (below_top HB2.out hb3)
        clear hb3 HL2 HB2 HEV
        obtain ⟨Y, hY⟩ : ∃ Y, ownY k.h l o = Y := ⟨_, rfl⟩
        have HYL := Lib.hid (fun i => show (Y i).length ≤ 1048576 from by rw [← hY]; exact ownY_len HG.out o i)
        have HFV := Lib.hid (fun (w : World) (L : Live wr w p g k.h) => show Calls Tryz.prog 14 #[.pointer (some ⟨g, 0, none⟩), .int .u32 o] w (OopsE (Y 1) (if k.h.isB o = true then 0 else 3) w) ∧ Calls Tryz.prog 15 #[.pointer (some ⟨g, 0, none⟩), .int .u32 o] w (OopsE (Y 2) (pathE k.h o) w) ∧ Calls Tryz.prog 16 #[.pointer (some ⟨g, 0, none⟩), .int .u32 o] w (OopsE (Y 3) (if k.h.isB o = true then 0 else 3) w) ∧ Calls Tryz.prog 17 #[.pointer (some ⟨g, 0, none⟩)] w (OopsP (Y 0) w) ∧ Calls Tryz.prog 20 #[.pointer (some ⟨g, 0, none⟩), .int .u32 0] w (OopsP (Y 4) w) from by
          rw [← hY]
          have e1 := refs_any L.at_ HG.out L.envw.spares o ho
          have e2 := live_any L.at_ HG.out L.envw.spares
          have e3 := inst_any L.at_ HG.out L.envw.spares 0 (by omega)
          unfold ptr at e1 e2 e3
          rw [L.hg] at e1 e2 e3
          exact ⟨reach_any L HG.out ho, path_any L HG.out ho, e1, e2, e3⟩)
        unfold OopsE OopsP at HFV
        generalize (if k.h.isB o = true then 0 else 3) = er at HFV
        generalize pathE k.h o = ep at HFV
        clear hY HAW HBU HER HKR HXR HWR HG
        obtain ⟨k0, hk0, hy0, hy1, hy2⟩ := info_parts info_sl
        go_upto_region 17 with fail
        go_loopw [15, 16] (fun vl iv w => ∃ z : Nat, iv = .int .i64 (z : Nat) ∧ z ≤ 2 ∧ Below w3.heap.size w3 w ∧ Rd Y w3.heap.size z vl w) (fun _ iv _ => 2 - (intOf iv).toNat)
        case atStart => exact ⟨0, rfl, by omega, Below.refl _ _, .inl ⟨rfl, rfl⟩⟩
        case round =>
          obtain ⟨z, rfl, hz2, hbz, hrd⟩ := hrel
          have HBZ := Lib.hid hbz
          have HRD := Lib.hid hrd
          clear hbz hrd
          by_cases hlt : z < 2
          · have HLT := Lib.hid hlt
            have HL4 := Lib.hid (HL3.out.after HBZ.out)
            have HNX := Lib.hid (HRD.out.next HBZ.out.size hlt)
            clear hz2 HRD
            go_upto_region 19 with fail
            clear hlt
            go_wp2_with fail
            refine (HFV.out _ HL4.out).1.mono ?_
            rintro e wa ⟨va, rfl, hoa, hba⟩
            obtain ⟨Aa, ca, rfl⟩ := own_val hoa
            have HOA := Lib.hid (And.intro hoa hba)
            have HLa := Lib.hid (HL4.out.after hba)
            clear hoa hba HL4
            go_wp2_with fail
            refine (HFV.out _ HLa.out).2.1.mono ?_
            rintro e wb ⟨vb, rfl, hob, hbb⟩
            obtain ⟨Ab, cb, rfl⟩ := own_val hob
            have HOB := Lib.hid (And.intro hob hbb)
            have HLb := Lib.hid (HLa.out.after hbb)
            clear hob hbb HLa
            go_wp2_with fail
            refine (HFV.out _ HLb.out).2.2.1.mono ?_
            rintro e wc ⟨vc, rfl, hoc, hbc⟩
            obtain ⟨Ac, cc, rfl⟩ := own_val hoc
            have HOC := Lib.hid (And.intro hoc hbc)
            have HLc := Lib.hid (HLb.out.after hbc)
            clear hoc hbc HLb
            go_wp2_with fail
            refine (HFV.out _ HLc.out).2.2.2.1.mono ?_
            rintro e wd ⟨vd, rfl, hod, hbd⟩
            obtain ⟨Ad, cd, rfl⟩ := own_val hod
            have HOD := Lib.hid (And.intro hod hbd)
            have HLd := Lib.hid (HLc.out.after hbd)
            clear hod hbd HLc
            go_wp2_with fail
            refine (HFV.out _ HLd.out).2.2.2.2.mono ?_
            rintro e we ⟨ve, rfl, hoe, hbe⟩
            obtain ⟨Ae, ce, rfl⟩ := own_val hoe
            have HFI := Lib.hid (Five.of HOA.out.1 HOA.out.2 HOB.out.1 HOB.out.2 HOC.out.1 HOC.out.2 HOD.out.1 HOD.out.2 hoe hbe)
            have HBW := Lib.hid (below_top (below_top (below_top (below_top HOA.out.2 HOB.out.2) HOC.out.2) HOD.out.2) hbe)
            clear hoe hbe HLd HOA HOB HOC HOD
            have HWZ := Lib.hid (show (we.alloc (.cells #[.slice Ad (Y 0).length cd, .slice Aa (Y 1).length ca, .slice Ab (Y 2).length cb, .slice Ac (Y 3).length cc, .slice Ae (Y 4).length ce] 23)).heap.size = we.heap.size + 1 from World.size_alloc _ _)
            have HBA := Lib.hid ((below_top HBZ.out HBW.out).alloc (below_top HBZ.out HBW.out).size (.cells #[.slice Ad (Y 0).length cd, .slice Aa (Y 1).length ca, .slice Ab (Y 2).length cb, .slice Ac (Y 3).length cc, .slice Ae (Y 4).length ce] 23))
            have HBV := Lib.hid (HBW.out.alloc HBW.out.size (.cells #[.slice Ad (Y 0).length cd, .slice Aa (Y 1).length ca, .slice Ab (Y 2).length cb, .slice Ac (Y 3).length cc, .slice Ae (Y 4).length ce] 23))
            have HFJ := Lib.hid (HFI.out.below ((Below.refl we.heap.size we).alloc (Nat.le_refl _) (.cells #[.slice Ad (Y 0).length cd, .slice Aa (Y 1).length ca, .slice Ab (Y 2).length cb, .slice Ac (Y 3).length cc, .slice Ae (Y 4).length ce] 23)))
            have HRX := Lib.hid (readsB5 we 23 (fiveV (.slice Ad (Y 0).length cd) (.slice Aa (Y 1).length ca) (.slice Ab (Y 2).length cb) (.slice Ac (Y 3).length cc) (.slice Ae (Y 4).length ce)))
            obtain ⟨xs, hox, hnx⟩ := HNX.out
            have HOX := Lib.hid hox
            have HNX := Lib.hid hnx
            clear hox hnx
            have hox5 := own_below HOX.out HBV.out
            have hone := HFI.out.one
            have hrx := HRX.out
            have hwz : w3.heap.size ≤ (we.alloc (.cells #[.slice Ad (Y 0).length cd, .slice Aa (Y 1).length ca, .slice Ab (Y 2).length cb, .slice Ac (Y 3).length cc, .slice Ae (Y 4).length ce] 23)).heap.size := HBA.out.size
            have hz2 := HLT.out
            go_wp2_with (at_builtin; refine wpList_append_any _ rfl (.tmp 140) (.tmp 148) _ rfl w3.heap.size 23 k0 _ 1 24 Tryz.underlying55 hk0 hy0 hy1 hy2 rfl (by omega) _ (5 * z) xs rfl hox5 _ (some ⟨we.heap.size, 0, none⟩) 5 5 (v5 (fiveV (.slice Ad (Y 0).length cd) (.slice Aa (Y 1).length ca) (.slice Ab (Y 2).length cb) (.slice Ac (Y 3).length cc) (.slice Ae (Y 4).length ce))) rfl hrx hone (by simp only [maxLen]; omega) (by omega) hwz ?_; intro v9 w9 hown9 hgrow9 hat9; have HW9 := Lib.hid (HNX.out _ w9 _ v9 HBV.out (HFJ.out.widen ⟨by rw [World.size_alloc]; omega, Nat.le_refl _⟩) hgrow9 hown9); have HB9 := Lib.hid (HBA.out.grown hgrow9 HBA.out.size (fun q e => by first | exact (hox5.lt q e.symm).1 | exact (hox5.lt q e).1)); clear hown9 hgrow9 hat9 hox5 hone hrx hwz HNX HFI HFJ HRX HBA HBV HOX HBW HWZ HBZ)
            go_roundw
            case rel => exact ⟨z + 1, by go_num, HLT.out, HB9.out, HW9.out⟩
            case measure => have := HLT.out; simp [intOf]; omega
          · obtain rfl : z = 2 := by omega
            obtain ⟨_, V, U, S, hov, hFV, hFU⟩ : 2 = 2 ∧ ∃ V U S, wr.ownsRow w3.heap.size 23 1 u15 10 (v5 V ++ v5 U) ∧ Five Y w3.heap.size S wr V ∧ Five Y S wr.heap.size wr U := by
              rcases HRD.out with h | h | h
              · exact absurd h.1 (by omega)
              · exact absurd h.1 (by omega)
              · exact h
            obtain ⟨gl, cl, hgl⟩ := ownsRow_succ hov
            have hgl : u15 = .slice (some ⟨gl, 0, none⟩) 10 cl := hgl
            subst hgl
            have HOV := Lib.hid hov
            have HFV5 := Lib.hid hFV
            have HFU5 := Lib.hid hFU
            have HBT := Lib.hid (below_top HB4.out HBZ.out)
            have HBT0 := Lib.hid HB4.out.size
            obtain ⟨j0, hj0, jy0, jy1, jy2⟩ := info_parts info_oop
            clear HRD hov hFV hFU HFV HL3 HB4 hz2
            go_upto_region 25 with fail
            clear hlt
            rename World => wl
            go_loopw [23, 152] (fun vk iv w => ∃ n : Nat, iv = .int .i64 (n : Nat) ∧ n ≤ 10 ∧ Below wl.heap.size wl w ∧ ∃ K, Kept (ownZ Y) wl.heap.size n vk w K) (fun _ iv _ => 10 - (intOf iv).toNat)
            case atStart => exact ⟨0, rfl, by omega, Below.refl _ _, _, Kept.nil _ _ _⟩
            case round =>
              obtain ⟨n, rfl, hn10, hbn, K, hkp⟩ := hrel
              have HBN := Lib.hid hbn
              have HKP := Lib.hid hkp
              clear hbn hkp
              by_cases hlt : n < 10
              · have HLT := Lib.hid hlt
                obtain ⟨Ai, ci, hge, hrdi⟩ := two_at (HFV5.out.below HBN.out) (HFU5.out.below HBN.out) hlt
                have hcl : wr.cell? ⟨gl, n, none⟩ = some (.slice Ai (ownZ Y n).length ci) := ((own_below HOV.out HBN.out).cellAt n (by omega)).trans hge
                have hcl2 : wr.cell? ((⟨gl, 0, none⟩ : Addr).add n) = some (.slice Ai (ownZ Y n).length ci) := (own_below HOV.out HBN.out).cells rfl n _ hge
                have hl7 : (ownZ Y n).length ≤ 1048576 := by unfold ownZ; split <;> exact HYL.out _
                have hzz := HBN.out.size
                clear hge hn10
                go_upto_region 27 with fail
                clear hlt hcl hcl2
                have hn10 := HLT.out
                go_wp2_with (first | (at_builtin; refine wpList_append_any _ rfl (.const (.slice none 0 0)) (.tmp 157) _ rfl wl.heap.size 43 j0 _ 1 4 Tryz.underlying23 hj0 jy0 jy1 jy2 rfl (by omega) (.slice none 0 0) 0 [] rfl ⟨rfl, .inl ⟨rfl, rfl⟩⟩ wr.heap.size Ai (ownZ Y n).length ci (u32s (ownZ Y n)) rfl hrdi (one_u32s _) (by simp only [maxLen]; omega) (by omega) hzz ?_; intro v6 w6 hown6 hgrow6 hat6; rw [Nat.zero_add, List.nil_append] at hown6; obtain ⟨A6, c6, rfl⟩ := own_val hown6; have HB6 := Lib.hid ((Below.refl wr.heap.size wr).grown hgrow6 (Nat.le_refl _) (fun q e => by cases e)); have HO6 := Lib.hid hown6; clear hown6 hgrow6 hat6 hrdi) | (at_builtin; go_loud (refine wpList_append_any _ rfl (.tmp 156) (.tmp 159) _ rfl wl.heap.size 23 k0 _ 1 24 Tryz.underlying55 hk0 hy0 hy1 hy2 rfl (by omega) _ n ((List.range n).map K) rfl (own_below HKP.out.row (HB6.out.alloc HB6.out.size _)) _ (some ⟨w6.heap.size, 0, none⟩) 1 1 [.slice A6 (ownZ Y n).length c6] rfl (readsB1 w6 _ _) (by intro u hu; simp only [List.mem_singleton] at hu; subst hu; rfl) (by simp only [maxLen]; omega) (by omega) (by rw [World.size_alloc]; have h1 := HBN.out.size; have h2 := HB6.out.size; omega) ?_); go_loud (intro v9 w9 hown9 hgrow9 hat9; have HK9 := Lib.hid (HKP.out.next (HB6.out.alloc HB6.out.size _) (own_below HO6.out ((Below.refl w6.heap.size w6).alloc (Nat.le_refl _) _)) hgrow9 hown9); have HB9 := Lib.hid (((below_top HBN.out HB6.out).alloc (below_top HBN.out HB6.out).size _).grown hgrow9 ((below_top HBN.out HB6.out).alloc (below_top HBN.out HB6.out).size _).size (fun q e => (HKP.out.row.lt q e).1)); clear hown9 hgrow9 hat9 HKP HBN HB6 HO6)))
                go_roundw
                case rel => exact ⟨n + 1, by go_num, HLT.out, HB9.out, HK9.out⟩
                case measure => have := HLT.out; simp [intOf]; omega
              · obtain rfl : n = 10 := by omega
                obtain ⟨gk, ck, hgk⟩ := ownsRow_succ HKP.out.row
                have hgk : u23 = .slice (some ⟨gk, 0, none⟩) 10 ck := hgk
                subst hgk
                rename World => wk
                have HFVk := Lib.hid (HFV5.out.below HBN.out)
                have HFUk := Lib.hid (HFU5.out.below HBN.out)
                have HOVk := Lib.hid (own_below HOV.out HBN.out)
                have HNL := Lib.hid (show W.heap.size ≤ w3.heap.size ∧ S ≤ wl.heap.size from ⟨HBT0.out, HFV5.out.s⟩)
                have HBK := Lib.hid (below_top HBT.out HBN.out)
                have HBK0 := Lib.hid (show w3.heap.size ≤ wk.heap.size from Nat.le_trans HBZ.out.size HBN.out.size)
                have HOWN := Lib.hid (fun (w : World) (m : Nat) (M : Mid Y w3.heap.size V wk w m) => show w.ownsRow w3.heap.size 23 1 (.slice (some ⟨gl, 0, none⟩) 10 cl) 10 (v5 V ++ v5 U) from M.keep HOVk.out (fun q hq i hi e => own_ne_own (HFVk.out.own i hi) HOVk.out (by decide) q e hq))
                clear HBN HFV5 HFU5 HOV hn10 HBT HBZ HBT0
                try rw [show ((10 : Nat) : Int) = 10 from rfl]
                go_upto_region 30 with fail
                clear hlt
                go_loopw [26] (fun iv w => ∃ n : Nat, iv = .int .i64 (n : Nat) ∧ n ≤ 5 ∧ Mid Y w3.heap.size V wk w n) (fun iv _ => 5 - (intOf iv).toNat)
                case atStart => exact ⟨0, rfl, by omega, Mid.start HFVk.out⟩
                case round =>
                  obtain ⟨n, rfl, hn5, hmd⟩ := hrel
                  have HMD := Lib.hid hmd
                  clear hmd
                  by_cases hlt : n < 5
                  · have HLT := Lib.hid hlt
                    have hge : (v5 V ++ v5 U)[n]? = some (V n) := by rw [List.getElem?_append_left (by simp [v5]; omega), v5_get hlt]
                    obtain ⟨ys, hly, hoy⟩ := HMD.out.own n (Nat.le_refl _) hlt
                    obtain ⟨An, cn, hVn⟩ := own_val hoy
                    rw [hVn] at hge hoy
                    have HVN := Lib.hid hVn
                    have HOY := Lib.hid (show ∃ ys : List Nat, ys.length = (Y n).length ∧ wr.ownsRow w3.heap.size 43 1 (.slice An (Y n).length cn) (Y n).length (u32s ys) from ⟨ys, hly, hoy⟩)
                    have hcl : wr.cell? ⟨gl, n, none⟩ = some (.slice An (Y n).length cn) := ((HOWN.out wr n HMD.out).cellAt n (by omega)).trans hge
                    have hcl2 : wr.cell? ((⟨gl, 0, none⟩ : Addr).add n) = some (.slice An (Y n).length cn) := (HOWN.out wr n HMD.out).cells rfl n _ hge
                    have HM1 := Lib.hid HMD.out.more
                    clear hly hoy hVn hge HMD hn5
                    go_upto_region 34 with fail
                    clear hlt hcl hcl2
                    go_loopw [28] (fun jv w => ∃ j : Nat, jv = .int .i64 (j : Nat) ∧ j ≤ (Y n).length ∧ Mid Y w3.heap.size V wk w (n + 1) ∧ ∃ ys : List Nat, ys.length = (Y n).length ∧ w.ownsRow w3.heap.size 43 1 (.slice An (Y n).length cn) (Y n).length (u32s ys)) (fun jv _ => (Y n).length - (intOf jv).toNat)
                    case atStart => exact ⟨0, rfl, by omega, HM1.out, HOY.out⟩
                    case round =>
                      obtain ⟨j, rfl, hj, hmd, hoy⟩ := hrel
                      have HMD := Lib.hid hmd
                      have HOY := Lib.hid hoy
                      clear hmd hoy
                      by_cases hlt : j < (Y n).length
                      · have HLJ := Lib.hid hlt
                        obtain ⟨ys, hly, hoy⟩ := HOY.out
                        obtain ⟨gn, rfl⟩ : ∃ gn, An = some ⟨gn, 0, none⟩ := by
                          rcases hoy.2 with ⟨_, h0⟩ | ⟨g, cap, cur, he, _⟩
                          · omega
                          · injection he with h1 _ _
                            exact ⟨g, h1⟩
                        have hjy : j < ys.length := by omega
                        have hce : wr.cell? ⟨gn, j, none⟩ = some (.int .u32 (ys[j] : Int)) := (hoy.cellAt j (by omega)).trans (by simp [u32s, List.getElem?_eq_getElem hjy])
                        have hfz : wr.frozen? ⟨gn, j, none⟩ = false := hoy.frozenAt j
                        have hst := hoy.stored j (.int .u32 (77 : Int))
                        rw [show (u32s ys).set j (.int .u32 (77 : Int)) = u32s (ys.set j 77) by simp [u32s, List.map_set]] at hst
                        have HMN := Lib.hid (Mid.grown HFVk.out HMD.out HLT.out hst.2 (fun q e => .inl (by rw [HVN.out]; exact e)))
                        have HON := Lib.hid (show ∃ zs : List Nat, zs.length = (Y n).length ∧ (wr.setCell ⟨gn, j, none⟩ (.int .u32 (77 : Int))).ownsRow w3.heap.size 43 1 (.slice (some ⟨gn, 0, none⟩) (Y n).length cn) (Y n).length (u32s zs) from ⟨ys.set j 77, by simpa using hly, hst.1⟩)
                        have HNB := Lib.hid (Nat.le_trans (HYL.out n) (by omega : (1048576 : Nat) ≤ 9223372036854775807))
                        generalize ys[j] = y at *
                        have hnb := HNB.out
                        clear hst hly hoy hjy HOY HMD HM1 hj
                        go_wp2_with fail
                        go_roundw
                        case rel => exact ⟨j + 1, by go_num, HLJ.out, HMN.out, HON.out⟩
                        case measure => have := HLJ.out; simp [intOf]; omega
                      · obtain rfl : j = (Y n).length := by omega
                        clear HM1
                        go_upto_region 38 with fail
                        clear hlt hj
                        rename World => wj
                        try rw [show decide ((n : Int) < 5) = true from decide_eq_true (by have := HLT.out; omega)]
                        go_loopw [27, 29] (fun vj jv w => ∃ m : Nat, jv = .int .i64 (m : Nat) ∧ m ≤ 70 ∧ Mid Y w3.heap.size V wk w (n + 1) ∧ ∃ zs : List Nat, zs.length = (Y n).length + m ∧ w.ownsRow w3.heap.size 43 1 vj ((Y n).length + m) (u32s zs) ∧ ∀ q, vj.ownBlock = some q → (V n).ownBlock = some q ∨ wk.heap.size ≤ q) (fun _ jv _ => 70 - (intOf jv).toNat)
                        case atStart =>
                          obtain ⟨ys, hly, hoy⟩ := HOY.out
                          exact ⟨0, rfl, by omega, HMD.out, ys, hly, hoy, fun q hq => .inl (by rw [HVN.out]; exact hq)⟩
                        case round =>
                          obtain ⟨m, rfl, hm, hmd, zs, hlz, hoz, hqz⟩ := hrel
                          have HME := Lib.hid hmd
                          have HOZ := Lib.hid (And.intro hlz (And.intro hoz hqz))
                          clear hmd hlz hoz hqz
                          by_cases hlt : m < 70
                          · have HLM := Lib.hid hlt
                            have hln := HYL.out n
                            have HBW := Lib.hid ((Below.refl wr.heap.size wr).alloc (Nat.le_refl _) (.cells #[.int .u32 (78 : Int)] 43))
                            have hsz6 : w3.heap.size ≤ (wr.alloc (.cells #[.int .u32 (78 : Int)] 43)).heap.size := by
                              have h1 := HBW.out.size
                              have h2 := HME.out.size
                              have h3 := HBK0.out
                              omega
                            clear hm
                            go_wp2_with (at_builtin; refine wpList_append_any _ rfl (.tmp 183) (.tmp 184) _ rfl w3.heap.size 43 j0 _ 1 4 Tryz.underlying23 hj0 jy0 jy1 jy2 rfl (by omega) _ ((Y n).length + m) (u32s zs) rfl (own_below HOZ.out.2.1 HBW.out) _ (some ⟨wr.heap.size, 0, none⟩) 1 1 [.int .u32 (78 : Int)] rfl (readsB1 wr _ _) (by intro u hu; simp only [List.mem_singleton] at hu; subst hu; rfl) (by simp only [maxLen]; omega) (by omega) hsz6 ?_; intro v9 w9 hown9 hgrow9 hat9; have HM9 := Lib.hid (Mid.grown HFVk.out (HME.out.on HBW.out) HLT.out hgrow9 (fun q e => HOZ.out.2.2 q e)); have HO9 := Lib.hid (show ∃ zs' : List Nat, zs'.length = (Y n).length + (m + 1) ∧ w9.ownsRow w3.heap.size 43 1 v9 ((Y n).length + (m + 1)) (u32s zs') ∧ ∀ q, v9.ownBlock = some q → (V n).ownBlock = some q ∨ wk.heap.size ≤ q from ⟨zs ++ [78], by have := HOZ.out.1; simp; omega, by rw [show u32s (zs ++ [78]) = u32s zs ++ [.int .u32 (78 : Int)] by simp [u32s]]; exact hown9, fun q hq => by rcases hat9 with h | h; exact HOZ.out.2.2 q (h.symm.trans hq); exact .inr (by rw [h] at hq; injection hq with hq; have h1 := HBW.out.size; have h2 := HME.out.size; omega)⟩); clear hown9 hgrow9 hat9 HOZ HBW HME)
                            go_roundw
                            case rel => exact ⟨m + 1, by go_num, HLM.out, HM9.out, HO9.out⟩
                            case measure => have := HLM.out; simp [intOf]; omega
                          · obtain rfl : m = 70 := by omega
                            go_wp2_with fail
                            go_roundw
                            case rel => exact ⟨n + 1, by go_num, HLT.out, HME.out⟩
                            case measure => have := HLT.out; simp [intOf]; omega
                  · obtain rfl : n = 5 := by omega
                    have HRL := Lib.hid (HOWN.out wr 5 HMD.out)
                    have HRK := Lib.hid (HMD.out.keep HKP.out.row (fun q hq i hi e => own_ne_own (HFVk.out.own i hi) HKP.out.row (by decide) q e hq))
                    have HU5 := Lib.hid (fun i (hi : i < 5) => HMD.out.keep (HFUk.out.own i hi) (fun q hq i' hi' e => by have h1 := (HFUk.out.own i hi).lt q hq; have h2 := HFVk.out.top i' q hi' e; omega))
                    have HK5 := Lib.hid (fun i (hi : i < 10) => HMD.out.keep (HKP.out.own i hi) (fun q hq i' hi' e => by have h1 := (HKP.out.own i hi).lt q hq; have h2 := HFVk.out.top i' q hi' e; have h3 := HNL.out.2; omega))
                    have HBF := Lib.hid (HMD.out.below HBK.out HNL.out.1 HFVk.out)
                    clear HOWN HKP HFVk HFUk HMD HBK HNL HOVk HBK0 hn5
                    try rw [show ((5 : Nat) : Int) = 5 from rfl]
                    go_upto_region 42 with fail
                    clear hlt
                    rename World => wv
                    try rw [show decide ((5 : Int) < 5) = false from rfl]
                    go_loopw [30] (fun iv w => ∃ n : Nat, iv = .int .i64 (n : Nat) ∧ n ≤ 5 ∧ Below wv.heap.size wv w) (fun iv _ => 5 - (intOf iv).toNat)
                    case atStart => exact ⟨0, rfl, by omega, Below.refl _ _⟩
                    case round =>
                      obtain ⟨n, rfl, hn5, hbv⟩ := hrel
                      have HBV := Lib.hid hbv
                      clear hbv
                      by_cases hlt : n < 5
                      · have HLT := Lib.hid hlt
                        have o1 := HU5.out n hlt
                        have o2 := HK5.out n (by omega)
                        have o3 := HK5.out (n + 5) (by omega)
                        rw [show ownZ Y n = Y n by unfold ownZ; rw [if_pos hlt]] at o2
                        rw [show ownZ Y (n + 5) = Y n by unfold ownZ; rw [if_neg (by omega)]; rfl] at o3
                        obtain ⟨A1, c1, h1⟩ := own_val o1
                        obtain ⟨A2, c2, h2⟩ := own_val o2
                        obtain ⟨A3, c3, h3⟩ := own_val o3
                        rw [h1] at o1
                        rw [h2] at o2
                        rw [h3] at o3
                        have HC := Lib.hid (fun (w : World) (hb : Below wv.heap.size wv w) => show w.cell? ⟨gl, n + 5, none⟩ = some (.slice A1 (Y n).length c1) ∧ w.cell? ⟨gk, n, none⟩ = some (.slice A2 (Y n).length c2) ∧ w.cell? ⟨gk, n + 5, none⟩ = some (.slice A3 (Y n).length c3) from
                          ⟨((own_below HRL.out hb).cellAt (n + 5) (by omega)).trans (by rw [List.getElem?_append_right (by simp [v5])]; show (v5 U)[n + 5 - 5]? = _; rw [Nat.add_sub_cancel, v5_get hlt, h1]),
                            ((own_below HRK.out hb).cellAt n (by omega)).trans (by rw [List.getElem?_map, List.getElem?_range (by omega)]; show some (K n) = _; rw [h2]),
                            ((own_below HRK.out hb).cellAt (n + 5) (by omega)).trans (by rw [List.getElem?_map, List.getElem?_range (by omega)]; show some (K (n + 5)) = _; rw [h3])⟩)
                        have HO1 := Lib.hid (fun (w : World) (hb : Below wv.heap.size wv w) => show Calls Tryz.prog 13 #[.slice A1 (Y n).length c1, .slice A3 (Y n).length c3] w (fun e w'' => e = .returned (.bool true) ∧ Below w.heap.size w w'') from by
                          have r1 := own_readsV (own_below o1 hb)
                          have r3 := own_readsV (own_below o3 hb)
                          have hh := oops_any A1 A3 (Y n).length (Y n).length c1 c3 (Y n) (Y n) w r1.2 r3.2 r1.1 r3.1
                          rw [sameL_self] at hh
                          exact hh)
                        have HO2 := Lib.hid (fun (w : World) (hb : Below wv.heap.size wv w) => show Calls Tryz.prog 13 #[.slice A2 (Y n).length c2, .slice A3 (Y n).length c3] w (fun e w'' => e = .returned (.bool true) ∧ Below w.heap.size w w'') from by
                          have r1 := own_readsV (own_below o2 hb)
                          have r3 := own_readsV (own_below o3 hb)
                          have hh := oops_any A2 A3 (Y n).length (Y n).length c2 c3 (Y n) (Y n) w r1.2 r3.2 r1.1 r3.1
                          rw [sameL_self] at hh
                          exact hh)
                        generalize (Y n).length = N at *
                        clear o1 o2 o3 h1 h2 h3
                        have hww : IntKind.i64.wrap ((n : Int) + 5) = (n : Int) + 5 := by first | (simp [IntKind.wrap, IntKind.bits]; omega) | go_num
                        have hto : ((n : Int) + 5).toNat = n + 5 := by omega
                        have hi0 : (0 : Int) ≤ (n : Int) + 5 := by omega
                        have hi1 : (n : Int) + 5 < 10 := by omega
                        have hi2 : (n : Int) < 10 := by omega
                        have hi3 : (0 : Int) ≤ (n : Int) := by omega
                        go_upto_region 44 with fail
                        obtain ⟨s0, s1, s2⟩ := HC.out wr HBV.out
                        have hb0 := below_drew HBV.out
                        go_region_held3 (fun w' => w'.cell? ⟨gl, n + 5, none⟩ = some (.slice A1 N c1) ∧ w'.cell? ⟨gk, n, none⟩ = some (.slice A2 N c2) ∧ w'.cell? ⟨gk, n + 5, none⟩ = some (.slice A3 N c3))
                          (first | exact ⟨s0, s1, s2⟩ | exact HC.out _ (by assumption) | go_keep)
                          (first
                            | (go_at_call 13; first
                              | (with_reducible refine (HO1.out _ hb0).mono ?_; rintro e wd ⟨rfl, hbd1⟩; have hb1 := below_top hb0 hbd1)
                              | (with_reducible refine (HO2.out _ hb1).mono ?_; rintro e we ⟨rfl, hbd2⟩; have hb2 := below_top hb1 hbd2)))
                        have HB9 := Lib.hid hb2
                        clear s0 s1 s2 hb0 hb1 hb2 hbd1 hbd2 hww hto hi0 hi1 hi2 hi3 HC HO1 HO2 HBV
                        go_wp2_with fail
                        go_roundw
                        case rel => exact ⟨n + 1, by go_num, HLT.out, HB9.out⟩
                        case measure => have := HLT.out; simp [intOf]; omega
                      · go_wp2_with fail
                        go_ret
                        exact ⟨rfl, below_top HBF.out HBV.out⟩
end Go.Proofs.YtblekggklimpeaaGreatDoor
