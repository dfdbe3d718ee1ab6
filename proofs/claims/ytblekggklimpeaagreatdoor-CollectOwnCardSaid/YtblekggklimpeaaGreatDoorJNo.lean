/- What a nil heap, and one that New did not make, answer: every method. -/
import Derived.Test.YtblekggklimpeaaGreatDoorJKNamed
import Derived.Test.YtblekggklimpeaaGreatDoorJLive
import Derived.Test.YtblekggklimpeaaGreatDoorJAwake
import Derived.Test.YtblekggklimpeaaGreatDoorJAlloc
set_option linter.unusedVariables false
namespace Go.Proofs.YtblekggklimpeaaGreatDoor
open Go.RowKit
attribute [local go_sem] Oper.semAt_some

/-- No heap: nil, or one of size 0. -/
def NoHp (w : World) (v : Value) : Prop := v = .pointer none ∨ ∃ g, v = ptr g ∧ w.cell? ⟨g, 3, none⟩ = some (.int .i64 0)
theorem NoHp.below {w w' : World} {v : Value} (h : NoHp w v) (hb : Below w.heap.size w w') : NoHp w' v := by
  rcases h with h | ⟨g, h1, h2⟩
  · exact .inl h
  · exact .inr ⟨g, h1, (hb.cell (p := ⟨g, 3, none⟩) (World.block_lt_of_cell? _ _ h2)).trans h2⟩
theorem NoHp.alloc {w : World} {v : Value} (h : NoHp w v) (o : Obj) : NoHp (w.alloc o) v := h.below ((Below.refl _ _).alloc (Nat.le_refl _) _)
section
variable {w : World} {v : Value}
theorem made_no (N : NoHp w v) : Calls Tryz.prog 51 #[v] w (Said (.bool false) w) := by
  rcases N with rfl | ⟨g, rfl, c3⟩
  · go_enter Tryz.func51, Tryz.ntmps51
    go_wp2_with fail
    go_ret
    exact ⟨rfl, rfl⟩
  · unfold ptr
    go_enter Tryz.func51, Tryz.ntmps51
    go_wp2_with fail
    go_ret
    exact ⟨rfl, rfl⟩
theorem size_no (N : NoHp w v) : Calls Tryz.prog 33 #[v] w (Said (.int .i64 0) w) := by
  have HM := Lib.hid (made_no N); clear N
  go_enter Tryz.func33, Tryz.ntmps33
  go_wp2_with fail
  refine HM.out.mono ?_
  rintro e w' ⟨rfl, rfl⟩
  go_wp2_with fail
  go_ret
  exact ⟨rfl, rfl⟩
theorem top_no (N : NoHp w v) : Calls Tryz.prog 27 #[v] w (Said (.int .i64 0) w) := by
  have HM := Lib.hid (made_no N); clear N
  go_enter Tryz.func27, Tryz.ntmps27
  go_wp2_with fail
  refine HM.out.mono ?_
  rintro e w' ⟨rfl, rfl⟩
  go_wp2_with fail
  go_ret
  exact ⟨rfl, rfl⟩
theorem last_no (N : NoHp w v) : Calls Tryz.prog 34 #[v] w (Said (.int .u32 0) w) := by
  have HM := Lib.hid (made_no N); clear N
  go_enter Tryz.func34, Tryz.ntmps34
  go_wp2_with fail
  refine HM.out.mono ?_
  rintro e w' ⟨rfl, rfl⟩
  go_wp2_with fail
  go_ret
  exact ⟨rfl, rfl⟩
theorem first_no (N : NoHp w v) : Calls Tryz.prog 72 #[v] w (Said (.int .u32 0) w) := by
  have HM := Lib.hid (made_no N); clear N
  go_enter Tryz.func72, Tryz.ntmps72
  go_wp2_with fail
  refine HM.out.mono ?_
  rintro e w' ⟨rfl, rfl⟩
  go_wp2_with fail
  go_ret
  exact ⟨rfl, rfl⟩
theorem words_no (N : NoHp w v) : Calls Tryz.prog 32 #[v] w (Said (.slice none 0 0) w) := by
  have HM := Lib.hid (made_no N); clear N
  go_enter Tryz.func32, Tryz.ntmps32
  go_wp2_with fail
  refine HM.out.mono ?_
  rintro e w' ⟨rfl, rfl⟩
  go_wp2_with fail
  go_ret
  exact ⟨rfl, rfl⟩
theorem roots_no (N : NoHp w v) : Calls Tryz.prog 35 #[v] w (Said (.slice none 0 0) w) := by
  have HM := Lib.hid (made_no N); clear N
  go_enter Tryz.func35, Tryz.ntmps35
  go_wp2_with fail
  refine HM.out.mono ?_
  rintro e w' ⟨rfl, rfl⟩
  go_wp2_with fail
  go_ret
  exact ⟨rfl, rfl⟩
theorem clone_no (N : NoHp w v) : Calls Tryz.prog 71 #[v] w (Said (.pointer none) w) := by
  have HM := Lib.hid (made_no N); clear N
  go_enter Tryz.func71, Tryz.ntmps71
  go_wp2_with fail
  refine HM.out.mono ?_
  rintro e w' ⟨rfl, rfl⟩
  go_wp2_with fail
  go_ret
  exact ⟨rfl, rfl⟩
theorem root_no (N : NoHp w v) (i : Int) : Calls Tryz.prog 26 #[v, .int .i64 i] w (Said (.tuple #[.int .u32 0, .int .i64 1]) w) := by
  have HM := Lib.hid (made_no N); clear N
  go_enter Tryz.func26, Tryz.ntmps26
  go_wp2_with fail
  refine HM.out.mono ?_
  rintro e w' ⟨rfl, rfl⟩
  go_wp2_with fail
  go_ret2
  exact ⟨rfl, rfl⟩
theorem setRoot_no (N : NoHp w v) (i : Int) (o : Nat) : Calls Tryz.prog 25 #[v, .int .i64 i, .int .u32 o] w (Said (.int .i64 1) w) := by
  have HM := Lib.hid (made_no N); clear N
  go_enter Tryz.func25, Tryz.ntmps25
  go_wp2_with fail
  refine HM.out.mono ?_
  rintro e w' ⟨rfl, rfl⟩
  go_wp2_with fail
  go_ret
  exact ⟨rfl, rfl⟩
theorem is_no (N : NoHp w v) (o : Nat) (ho : o < 4294967296) : Calls Tryz.prog 39 #[v, .int .u32 o] w (Said (.bool false) w) := by
  have HM := Lib.hid (made_no N); clear N
  by_cases hk : objB o = true
  · have HI := Lib.hid (show indexV o = .tuple #[.int .i64 (o / 2 : Nat), .int .i64 0] by simp [indexV, hk])
    clear hk
    generalize o / 2 = q at HI
    go_enter Tryz.func39, Tryz.ntmps39
    go_wp2_with fail
    refine (index_any o ho _).mono ?_
    rintro e w' ⟨rfl, rfl⟩
    rw [HI.out]
    go_wp2_with fail
    refine HM.out.mono ?_
    rintro e w' ⟨rfl, rfl⟩
    go_wp2_with fail
    go_ret
    exact ⟨rfl, rfl⟩
  · have HI := Lib.hid (show indexV o = .tuple #[.int .i64 0, .int .i64 3] by simp [indexV, hk])
    clear hk
    go_enter Tryz.func39, Tryz.ntmps39
    go_wp2_with fail
    refine (index_any o ho _).mono ?_
    rintro e w' ⟨rfl, rfl⟩
    rw [HI.out]
    go_wp2_with fail
    go_ret
    exact ⟨rfl, rfl⟩
theorem next_no (N : NoHp w v) (o : Nat) (ho : o < 4294967296) : Calls Tryz.prog 73 #[v, .int .u32 o] w (Said (.tuple #[.int .u32 0, .int .i64 3]) w) := by
  have HI := Lib.hid (is_no N o ho); clear N
  go_enter Tryz.func73, Tryz.ntmps73
  go_wp2_with fail
  refine HI.out.mono ?_
  rintro e w' ⟨rfl, rfl⟩
  go_wp2_with fail
  go_ret2
  exact ⟨rfl, rfl⟩
theorem header_no (N : NoHp w v) (o : Nat) (ho : o < 4294967296) : Calls Tryz.prog 77 #[v, .int .u32 o] w (Told (.tuple #[.agg #[.int .i64 0, .int .i64 0, .int .i64 0, .int .u32 0, .int .u32 0], .int .i64 3]) w) := by
  have HI := Lib.hid (fun x => is_no (N.alloc x) o ho); clear N
  go_enter Tryz.func77, Tryz.ntmps77
  go_wp2_with fail
  refine (HI.out _).mono ?_
  rintro e w1 ⟨rfl, rfl⟩
  go_wp2_with fail
  exact bodyPost_ret (v := .tuple #[.agg #[.int .i64 0, .int .i64 0, .int .i64 0, .int .u32 0, .int .u32 0], .int .i64 3]) (by simp [results, Tryz.results77, go_sem]) rfl ⟨rfl, (Below.refl _ _).alloc (Nat.le_refl _) _⟩
theorem look_no (N : NoHp w v) (o : Nat) (ho : o < 4294967296) (i : Int) (A : Option Addr) (n c : Nat) : Calls Tryz.prog 57 #[v, .int .u32 o, .int .i64 i, .slice A n c] w (Told (.tuple #[.int .i64 0, .int .i64 3]) w) := by
  have HC := Lib.hid (header_no N o ho); clear N
  go_enter Tryz.func57, Tryz.ntmps57
  go_wp2_with fail
  refine HC.out.mono ?_
  rintro e w1 ⟨rfl, hb1⟩
  go_wp2_with fail
  go_ret2
  exact ⟨rfl, hb1.alloc hb1.size _⟩
theorem get_no (N : NoHp w v) (o : Nat) (ho : o < 4294967296) (i : Int) : Calls Tryz.prog 62 #[v, .int .u32 o, .int .i64 i] w (Told (.tuple #[.int .u32 0, .int .i64 3]) w) := by
  have HC := Lib.hid (fun x A n c => look_no (N.alloc x) o ho i A n c); clear N
  go_enter Tryz.func62, Tryz.ntmps62
  go_wp2_with fail
  refine (HC.out _ _ _ _).mono ?_
  rintro e w1 ⟨rfl, hb1⟩
  have hb := below_top ((Below.refl _ w).alloc (Nat.le_refl _) _) hb1
  clear hb1
  go_wp2_with fail
  go_ret2
  exact ⟨rfl, hb⟩
theorem put_no (N : NoHp w v) (o : Nat) (ho : o < 4294967296) (i : Int) (u : Nat) : Calls Tryz.prog 24 #[v, .int .u32 o, .int .i64 i, .int .u32 u] w (Told (.int .i64 3) w) := by
  have HC := Lib.hid (fun x A n c => look_no (N.alloc x) o ho i A n c); clear N
  go_enter Tryz.func24, Tryz.ntmps24
  go_wp2_with fail
  refine (HC.out _ _ _ _).mono ?_
  rintro e w1 ⟨rfl, hb1⟩
  have hb := below_top ((Below.refl _ w).alloc (Nat.le_refl _) _) hb1
  clear hb1
  go_wp2_with fail
  go_ret
  exact ⟨rfl, hb⟩
theorem setClass_no (N : NoHp w v) (o : Nat) (ho : o < 4294967296) (c : Nat) : Calls Tryz.prog 61 #[v, .int .u32 o, .int .u32 c] w (Said (.int .i64 3) w) := by
  have HI := Lib.hid (is_no N o ho); clear N
  go_enter Tryz.func61, Tryz.ntmps61
  go_wp2_with fail
  refine HI.out.mono ?_
  rintro e w' ⟨rfl, rfl⟩
  go_wp2_with fail
  go_ret
  exact ⟨rfl, rfl⟩
theorem load_no (N : NoHp w v) (A A' : Option Addr) (n c n' c' r : Nat) : Calls Tryz.prog 22 #[v, .slice A n c, .slice A' n' c', .int .u32 r] w (Said (.int .i64 1) w) := by
  have HM := Lib.hid (made_no N); clear N
  go_enter Tryz.func22, Tryz.ntmps22
  go_wp2_with fail
  refine HM.out.mono ?_
  rintro e w' ⟨rfl, rfl⟩
  go_wp2_with fail
  go_ret
  exact ⟨rfl, rfl⟩
theorem class0_no : Calls Tryz.prog 81 #[v, .int .u32 0] w (Said (.bool true) w) := by
  go_enter Tryz.func81, Tryz.ntmps81
  go_wp2_with fail
  go_ret
  exact ⟨rfl, rfl⟩
theorem alloc_no (N : NoHp w v) (n t s r : Nat) : Calls Tryz.prog 56 #[v, .agg #[.int .i64 n, .int .i64 t, .int .i64 s, .int .u32 0, .int .u32 r]] w (Told (.tuple #[.int .u32 0, .int .i64 4]) w) := by
  have HM := Lib.hid (fun x k => made_no (show NoHp ((w.alloc x).drewN k) v from N.alloc x)); clear N
  have HC := Lib.hid (fun w => class0_no (w := w) (v := v))
  generalize hW : w.alloc (.cells #[.int .i64 n, .int .i64 t, .int .i64 s, .int .u32 0, .int .u32 r] 102) = W
  have BW : Blk W w.heap.size 102 #[.int .i64 n, .int .i64 t, .int .i64 s, .int .u32 0, .int .u32 r] := hW ▸ Blk.new w _ _
  obtain ⟨d0, d1, d2, d3, d4⟩ := BW.cells5
  have HMD := Lib.hid (fun k => HM.out (.cells #[.int .i64 n, .int .i64 t, .int .i64 s, .int .u32 0, .int .u32 r] 102) k)
  rw [hW] at HMD
  have HW' := Lib.hid hW
  clear HM hW
  go_enter Tryz.func56, Tryz.ntmps56
  go_wp2_with fail
  refine (HC.out _).mono ?_
  rintro e w1 ⟨rfl, rfl⟩
  rw [HW'.out]
  go_wp2_with fail
  go_quiet ((go_at_call 51; exact (HMD.out _).mono fun _ _ ⟨he, hm⟩ => ⟨he, _, hm.symm⟩))
  go_wp2_with fail
  go_ret2
  refine ⟨rfl, ?_⟩
  have hb : Below w.heap.size w W := HW'.out ▸ (Below.refl _ _).alloc (Nat.le_refl _) _
  first | exact hb | exact ⟨hb.os, hb.tape, hb.output, hb.size, hb.block⟩
theorem Alloc_no (N : NoHp w v) : Calls Tryz.prog 23 #[v, .int .u32 0, .int .i64 1, .int .i64 0] w (Told (.tuple #[.int .u32 0, .int .i64 4]) w) := by
  have HA := Lib.hid (alloc_no N 0 1 0 0); clear N
  go_enter Tryz.func23, Tryz.ntmps23
  go_wp2_with fail
  refine HA.out.mono ?_
  rintro e w1 ⟨rfl, hb1⟩
  go_wp2_with fail
  go_ret2
  exact ⟨rfl, hb1⟩
theorem allv_any (w : World) (q : Option Addr) : Calls Tryz.prog 43 #[.pointer q] w fun e w' => e = .returned (.func (.func 70) #[] #[.pointer (some ⟨w.heap.size, 0, none⟩)]) ∧ w' = w.alloc (.cells #[.pointer q] 27) := by
  go_enter Tryz.func43, Tryz.ntmps43
  go_wp2_with fail
  go_ret
  exact ⟨rfl, rfl⟩
set_option maxRecDepth 100000 in
theorem all1_no {α : Type} (encs : α → Array Value) (Kp : World → World → Prop) (n Bh : Nat) (q : Option Addr) (N : NoHp w (.pointer q)) (hbox : w.cell? ⟨Bh, 0, none⟩ = some (.pointer q)) :
    SeqStopsK Fence.wide n Tryz.prog 70 #[.pointer (some ⟨Bh, 0, none⟩)] encs Kp (fun xs : List α => xs = []) (fun _ => False) 0 w :=
  fun lp J Jx W hW hJ hJx hY h0 => by
  have hBh := World.block_lt_of_cell? _ _ hbox
  have hbW : W.cell? ⟨Bh, 0, none⟩ = some (.pointer q) := (hW.cell (p := ⟨Bh, 0, none⟩) hBh).trans hbox
  have HC := Lib.hid (clone_no (N.below hW))
  have H0 := Lib.hid h0
  refine callsIn_of_wp Tryz.func70 rfl trivial ?_ rfl
  simp only [Tryz.ntmps70, List.size_toArray, List.length_cons, List.length_nil, Nat.reduceAdd, Nat.reduceSub, Array.replicate_succ, Array.replicate_zero, List.push_toArray, List.append_toArray, List.nil_append, List.cons_append]
  clear hY hJ hJx h0 N hW hbox
  gi_wp2_with fail
  refine ⟨trivial, fun hh => (by cases hh), (callsIn_wide.2 HC.out).mono ?_⟩
  rintro e w1 ⟨rfl, rfl⟩
  gi_wp2_with fail
  refine bodyPost_ret (results_none rfl _ _ _) rfl ?_
  exact ⟨⟨_, rfl⟩, .inl ⟨[], rfl, H0.out⟩⟩
end
end Go.Proofs.YtblekggklimpeaaGreatDoor
