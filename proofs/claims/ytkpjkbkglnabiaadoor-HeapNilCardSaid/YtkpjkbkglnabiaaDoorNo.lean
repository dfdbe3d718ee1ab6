/- What a nil heap, and one that New did not make, answer: every method. -/
import Derived.Test.YtkpjkbkglnabiaaDoorFind
import Derived.Test.YtkpjkbkglnabiaaDoorDeeds
import Derived.Test.YtkpjkbkglnabiaaDoorAwake
import Derived.Test.YtkpjkbkglnabiaaDoorPackB
set_option linter.unusedVariables false
namespace Go.Proofs.YtkpjkbkglnabiaaDoor
open Go.RowKit
attribute [local go_sem] Oper.semAt_some

/-- No heap: nil, or one of size 0. -/
def NoHp (w : World) (v : Value) : Prop := v = .pointer none ∨ ∃ g, v = ptr g ∧ w.cell? ⟨g, 3, none⟩ = some (.int .i64 0)
theorem NoHp.below {w w' : World} {v : Value} (h : NoHp w v) (hb : Below w.heap.size w w') : NoHp w' v := by
  rcases h with h | ⟨g, h1, h2⟩
  · exact .inl h
  · exact .inr ⟨g, h1, (hb.cell (p := ⟨g, 3, none⟩) (World.block_lt_of_cell? _ _ h2)).trans h2⟩
theorem NoHp.alloc {w : World} {v : Value} (h : NoHp w v) (o : Obj) : NoHp (w.alloc o) v := h.below ((Below.refl _ _).alloc (Nat.le_refl _) _)
section
variable {w : World} {v : Value}
theorem made_no (N : NoHp w v) : Calls Tryd.prog 46 #[v] w (Said (.bool false) w) := by
  rcases N with rfl | ⟨g, rfl, c3⟩
  · go_enter Tryd.func46, Tryd.ntmps46
    go_wp2_with fail
    go_ret
    exact ⟨rfl, rfl⟩
  · unfold ptr
    go_enter Tryd.func46, Tryd.ntmps46
    go_wp2_with fail
    go_ret
    exact ⟨rfl, rfl⟩
theorem size_no (N : NoHp w v) : Calls Tryd.prog 13 #[v] w (Said (.int .i64 0) w) := by
  have HM := Lib.hid (made_no N); clear N
  go_enter Tryd.func13, Tryd.ntmps13
  go_wp2_with fail
  refine HM.out.mono ?_
  rintro e w' ⟨rfl, rfl⟩
  go_wp2_with fail
  go_ret
  exact ⟨rfl, rfl⟩
theorem top_no (N : NoHp w v) : Calls Tryd.prog 14 #[v] w (Said (.int .i64 0) w) := by
  have HM := Lib.hid (made_no N); clear N
  go_enter Tryd.func14, Tryd.ntmps14
  go_wp2_with fail
  refine HM.out.mono ?_
  rintro e w' ⟨rfl, rfl⟩
  go_wp2_with fail
  go_ret
  exact ⟨rfl, rfl⟩
theorem last_no (N : NoHp w v) : Calls Tryd.prog 22 #[v] w (Said (.int .u32 0) w) := by
  have HM := Lib.hid (made_no N); clear N
  go_enter Tryd.func22, Tryd.ntmps22
  go_wp2_with fail
  refine HM.out.mono ?_
  rintro e w' ⟨rfl, rfl⟩
  go_wp2_with fail
  go_ret
  exact ⟨rfl, rfl⟩
theorem first_no (N : NoHp w v) : Calls Tryd.prog 30 #[v] w (Said (.int .u32 0) w) := by
  have HM := Lib.hid (made_no N); clear N
  go_enter Tryd.func30, Tryd.ntmps30
  go_wp2_with fail
  refine HM.out.mono ?_
  rintro e w' ⟨rfl, rfl⟩
  go_wp2_with fail
  go_ret
  exact ⟨rfl, rfl⟩
theorem words_no (N : NoHp w v) : Calls Tryd.prog 20 #[v] w (Said (.slice none 0 0) w) := by
  have HM := Lib.hid (made_no N); clear N
  go_enter Tryd.func20, Tryd.ntmps20
  go_wp2_with fail
  refine HM.out.mono ?_
  rintro e w' ⟨rfl, rfl⟩
  go_wp2_with fail
  go_ret
  exact ⟨rfl, rfl⟩
theorem roots_no (N : NoHp w v) : Calls Tryd.prog 21 #[v] w (Said (.slice none 0 0) w) := by
  have HM := Lib.hid (made_no N); clear N
  go_enter Tryd.func21, Tryd.ntmps21
  go_wp2_with fail
  refine HM.out.mono ?_
  rintro e w' ⟨rfl, rfl⟩
  go_wp2_with fail
  go_ret
  exact ⟨rfl, rfl⟩
theorem clone_no (N : NoHp w v) : Calls Tryd.prog 37 #[v] w (Said (.pointer none) w) := by
  have HM := Lib.hid (made_no N); clear N
  go_enter Tryd.func37, Tryd.ntmps37
  go_wp2_with fail
  refine HM.out.mono ?_
  rintro e w' ⟨rfl, rfl⟩
  go_wp2_with fail
  go_ret
  exact ⟨rfl, rfl⟩
theorem root_no (N : NoHp w v) (i : Int) : Calls Tryd.prog 43 #[v, .int .i64 i] w (Said (.tuple #[.int .u32 0, .int .i64 1]) w) := by
  have HM := Lib.hid (made_no N); clear N
  go_enter Tryd.func43, Tryd.ntmps43
  go_wp2_with fail
  refine HM.out.mono ?_
  rintro e w' ⟨rfl, rfl⟩
  go_wp2_with fail
  go_ret2
  exact ⟨rfl, rfl⟩
theorem setRoot_no (N : NoHp w v) (i : Int) (o : Nat) : Calls Tryd.prog 44 #[v, .int .i64 i, .int .u32 o] w (Said (.int .i64 1) w) := by
  have HM := Lib.hid (made_no N); clear N
  go_enter Tryd.func44, Tryd.ntmps44
  go_wp2_with fail
  refine HM.out.mono ?_
  rintro e w' ⟨rfl, rfl⟩
  go_wp2_with fail
  go_ret
  exact ⟨rfl, rfl⟩
theorem is_no (N : NoHp w v) (o : Nat) (ho : o < 4294967296) : Calls Tryd.prog 33 #[v, .int .u32 o] w (Said (.bool false) w) := by
  have HM := Lib.hid (made_no N); clear N
  by_cases hk : objB o = true
  · have HI := Lib.hid (show indexV o = .tuple #[.int .i64 (o / 2 : Nat), .int .i64 0] by simp [indexV, hk])
    clear hk
    generalize o / 2 = q at HI
    go_enter Tryd.func33, Tryd.ntmps33
    go_wp2_with fail
    refine (index_any o ho _).mono ?_
    rintro e w' ⟨rfl, rfl⟩
    rw [HI.out]
    go_wp2_with fail
    refine HM.out.mono ?_
    rintro e w' ⟨rfl, rfl⟩
    go_wp2_with fail
    go_ret
    exact ⟨rfl, rfl⟩
  · have HI := Lib.hid (show indexV o = .tuple #[.int .i64 0, .int .i64 3] by simp [indexV, hk])
    clear hk
    go_enter Tryd.func33, Tryd.ntmps33
    go_wp2_with fail
    refine (index_any o ho _).mono ?_
    rintro e w' ⟨rfl, rfl⟩
    rw [HI.out]
    go_wp2_with fail
    go_ret
    exact ⟨rfl, rfl⟩
theorem next_no (N : NoHp w v) (o : Nat) (ho : o < 4294967296) : Calls Tryd.prog 34 #[v, .int .u32 o] w (Said (.tuple #[.int .u32 0, .int .i64 3]) w) := by
  have HI := Lib.hid (is_no N o ho); clear N
  go_enter Tryd.func34, Tryd.ntmps34
  go_wp2_with fail
  refine HI.out.mono ?_
  rintro e w' ⟨rfl, rfl⟩
  go_wp2_with fail
  go_ret2
  exact ⟨rfl, rfl⟩
theorem header_no (N : NoHp w v) (o : Nat) (ho : o < 4294967296) : Calls Tryd.prog 24 #[v, .int .u32 o] w (Told (.tuple #[.agg #[.int .i64 0, .int .i64 0, .int .i64 0, .int .u32 0, .int .u32 0], .int .i64 3]) w) := by
  have HI := Lib.hid (fun x => is_no (N.alloc x) o ho); clear N
  go_enter Tryd.func24, Tryd.ntmps24
  go_wp2_with fail
  refine (HI.out _).mono ?_
  rintro e w1 ⟨rfl, rfl⟩
  go_wp2_with fail
  exact bodyPost_ret (v := .tuple #[.agg #[.int .i64 0, .int .i64 0, .int .i64 0, .int .u32 0, .int .u32 0], .int .i64 3]) (by simp [results, Tryd.results24, go_sem]) rfl ⟨rfl, (Below.refl _ _).alloc (Nat.le_refl _) _⟩
theorem length_no (N : NoHp w v) (o : Nat) (ho : o < 4294967296) : Calls Tryd.prog 38 #[v, .int .u32 o] w (Told (.tuple #[.int .i64 0, .int .i64 3]) w) := by
  have HC := Lib.hid (header_no N o ho)
  have HL := Lib.hid (fun w => length_any ⟨0, 0, 0, 0, 0⟩ ⟨by decide, by decide, by decide, by decide, by decide⟩ (fun _ => by decide) w)
  unfold Hd.val at HL
  clear N
  go_enter Tryd.func38, Tryd.ntmps38
  go_wp2_with fail
  refine HC.out.mono ?_
  rintro e w1 ⟨rfl, hb1⟩
  go_wp2_with fail
  refine (HL.out _).mono ?_
  rintro e w2 ⟨rfl, hb2⟩
  have hb := below_top (w := w) (hb1.alloc hb1.size _) hb2
  clear hb2
  go_wp2_with fail
  go_ret2
  exact ⟨rfl, hb⟩
theorem look_no (N : NoHp w v) (o : Nat) (ho : o < 4294967296) (i : Int) (A : Option Addr) (n c : Nat) : Calls Tryd.prog 66 #[v, .int .u32 o, .int .i64 i, .slice A n c] w (Told (.tuple #[.int .i64 0, .int .i64 3]) w) := by
  have HC := Lib.hid (header_no N o ho); clear N
  go_enter Tryd.func66, Tryd.ntmps66
  go_wp2_with fail
  refine HC.out.mono ?_
  rintro e w1 ⟨rfl, hb1⟩
  go_wp2_with fail
  go_ret2
  exact ⟨rfl, hb1.alloc hb1.size _⟩
theorem get_no (N : NoHp w v) (o : Nat) (ho : o < 4294967296) (i : Int) : Calls Tryd.prog 39 #[v, .int .u32 o, .int .i64 i] w (Told (.tuple #[.int .u32 0, .int .i64 3]) w) := by
  have HC := Lib.hid (fun x A n c => look_no (N.alloc x) o ho i A n c); clear N
  go_enter Tryd.func39, Tryd.ntmps39
  go_wp2_with fail
  refine (HC.out _ _ _ _).mono ?_
  rintro e w1 ⟨rfl, hb1⟩
  have hb := below_top ((Below.refl _ w).alloc (Nat.le_refl _) _) hb1
  clear hb1
  go_wp2_with fail
  go_ret2
  exact ⟨rfl, hb⟩
theorem put_no (N : NoHp w v) (o : Nat) (ho : o < 4294967296) (i : Int) (u : Nat) : Calls Tryd.prog 41 #[v, .int .u32 o, .int .i64 i, .int .u32 u] w (Told (.int .i64 3) w) := by
  have HC := Lib.hid (fun x A n c => look_no (N.alloc x) o ho i A n c); clear N
  go_enter Tryd.func41, Tryd.ntmps41
  go_wp2_with fail
  refine (HC.out _ _ _ _).mono ?_
  rintro e w1 ⟨rfl, hb1⟩
  have hb := below_top ((Below.refl _ w).alloc (Nat.le_refl _) _) hb1
  clear hb1
  go_wp2_with fail
  go_ret
  exact ⟨rfl, hb⟩
theorem setClass_no (N : NoHp w v) (o : Nat) (ho : o < 4294967296) (c : Nat) : Calls Tryd.prog 42 #[v, .int .u32 o, .int .u32 c] w (Said (.int .i64 3) w) := by
  have HI := Lib.hid (is_no N o ho); clear N
  go_enter Tryd.func42, Tryd.ntmps42
  go_wp2_with fail
  refine HI.out.mono ?_
  rintro e w' ⟨rfl, rfl⟩
  go_wp2_with fail
  go_ret
  exact ⟨rfl, rfl⟩
theorem bytes_no (N : NoHp w v) (o : Nat) (ho : o < 4294967296) : Calls Tryd.prog 28 #[v, .int .u32 o] w (Told (.tuple #[.slice none 0 0, .int .i64 3]) w) := by
  have HC := Lib.hid (header_no N o ho); clear N
  go_enter Tryd.func28, Tryd.ntmps28
  go_wp2_with fail
  refine HC.out.mono ?_
  rintro e w1 ⟨rfl, hb1⟩
  go_wp2_with fail
  go_ret2
  exact ⟨rfl, hb1.alloc hb1.size _⟩
theorem show_no (N : NoHp w v) (o : Nat) (ho : o < 4294967296) : Calls Tryd.prog 40 #[v, .int .u32 o] w (Told (.tuple #[str [], .int .i64 3]) w) := by
  have HC := Lib.hid (header_no N o ho); clear N
  go_enter Tryd.func40, Tryd.ntmps40
  go_wp2_with fail
  refine HC.out.mono ?_
  rintro e w1 ⟨rfl, hb1⟩
  go_wp2_with fail
  go_ret2
  exact ⟨rfl, hb1.alloc hb1.size _⟩
theorem load_no (N : NoHp w v) (A A' : Option Addr) (n c n' c' r : Nat) : Calls Tryd.prog 35 #[v, .slice A n c, .slice A' n' c', .int .u32 r] w (Said (.int .i64 1) w) := by
  have HM := Lib.hid (made_no N); clear N
  go_enter Tryd.func35, Tryd.ntmps35
  go_wp2_with fail
  refine HM.out.mono ?_
  rintro e w' ⟨rfl, rfl⟩
  go_wp2_with fail
  go_ret
  exact ⟨rfl, rfl⟩
theorem class0_no : Calls Tryd.prog 72 #[v, .int .u32 0] w (Said (.bool true) w) := by
  go_enter Tryd.func72, Tryd.ntmps72
  go_wp2_with fail
  go_ret
  exact ⟨rfl, rfl⟩
theorem alloc_no (N : NoHp w v) (n t s r : Nat) : Calls Tryd.prog 47 #[v, .agg #[.int .i64 n, .int .i64 t, .int .i64 s, .int .u32 0, .int .u32 r]] w (Told (.tuple #[.int .u32 0, .int .i64 4]) w) := by
  have HM := Lib.hid (fun x k => made_no (show NoHp ((w.alloc x).drewN k) v from N.alloc x)); clear N
  have HC := Lib.hid (fun w => class0_no (w := w) (v := v))
  generalize hW : w.alloc (.cells #[.int .i64 n, .int .i64 t, .int .i64 s, .int .u32 0, .int .u32 r] 52) = W
  have BW : Blk W w.heap.size 52 #[.int .i64 n, .int .i64 t, .int .i64 s, .int .u32 0, .int .u32 r] := hW ▸ Blk.new w _ _
  obtain ⟨d0, d1, d2, d3, d4⟩ := BW.cells5
  have HMD := Lib.hid (fun k => HM.out (.cells #[.int .i64 n, .int .i64 t, .int .i64 s, .int .u32 0, .int .u32 r] 52) k)
  rw [hW] at HMD
  have HW' := Lib.hid hW
  clear HM hW
  go_enter Tryd.func47, Tryd.ntmps47
  go_wp2_with fail
  refine (HC.out _).mono ?_
  rintro e w1 ⟨rfl, rfl⟩
  rw [HW'.out]
  go_wp2_with fail
  go_quiet ((go_at_call 46; exact (HMD.out _).mono fun _ _ ⟨he, hm⟩ => ⟨he, _, hm.symm⟩))
  go_wp2_with fail
  go_ret2
  refine ⟨rfl, ?_⟩
  have hb : Below w.heap.size w W := HW'.out ▸ (Below.refl _ _).alloc (Nat.le_refl _) _
  first | exact hb | exact ⟨hb.os, hb.tape, hb.output, hb.size, hb.block⟩
theorem Alloc_no (N : NoHp w v) : Calls Tryd.prog 15 #[v, .int .u32 0, .int .i64 1, .int .i64 0] w (Told (.tuple #[.int .u32 0, .int .i64 4]) w) := by
  have HA := Lib.hid (alloc_no N 0 1 0 0); clear N
  go_enter Tryd.func15, Tryd.ntmps15
  go_wp2_with fail
  refine HA.out.mono ?_
  rintro e w1 ⟨rfl, hb1⟩
  go_wp2_with fail
  go_ret2
  exact ⟨rfl, hb1⟩
theorem allv_any (w : World) (q : Option Addr) : Calls Tryd.prog 31 #[.pointer q] w fun e w' => e = .returned (.func (.func 58) #[] #[.pointer (some ⟨w.heap.size, 0, none⟩)]) ∧ w' = w.alloc (.cells #[.pointer q] 25) := by
  go_enter Tryd.func31, Tryd.ntmps31
  go_wp2_with fail
  go_ret
  exact ⟨rfl, rfl⟩
theorem find_no (N : NoHp w v) (s : Nat) : Calls Tryd.prog 32 #[v, .int .u32 s] w (Told (.int .u32 0) w) := by
  have HM := Lib.hid (fun x y => made_no ((N.alloc x).alloc y)); clear N
  refine (callsIn_wide (n := 6)).1 ?_
  refine callsIn_of_wp_marks Tryd.func32 rfl trivial ?_ rfl
  simp only [Tryd.ntmps32, List.size_toArray, List.length_cons, List.length_nil, Nat.reduceAdd, Nat.reduceSub, Array.replicate_succ, Array.replicate_zero, List.push_toArray, List.append_toArray, List.nil_append, List.cons_append]
  gi_wp2_with fail
  refine ⟨trivial, (callsIn_wide.2 (HM.out _ _)).mono ?_⟩
  rintro e w' ⟨rfl, rfl⟩
  have bR := Boxed.new (w.alloc (.cells #[.int .u32 (s : Int)] 30)) 31 (.int .u32 0)
  simp only [World.size_alloc] at bR
  have cR := bR.cell
  have fR := bR.frozen
  gi_wp2_with fail
  exact ⟨.int .u32 0, by simp [results, Tryd.results32, go_sem, cR], rfl, ((Below.refl _ w).alloc (Nat.le_refl _) _).alloc (by simp) _⟩
theorem make_no (N : NoHp w v) : Calls Tryd.prog 25 #[v, .int .u32 0, .slice none 0 0] w (Told (.tuple #[.int .u32 0, .int .i64 4]) w) := by
  have HPK := Lib.hid (packBytes_any (w := w) none 0 0 w.heap.size [] (by omega) ⟨rfl, fun h => absurd h (by omega)⟩ (Nat.le_refl _) (by simp))
  have HA := Lib.hid (fun w' (hb : Below w.heap.size w w') => alloc_no (N.below hb) 0 2 0 0)
  unfold PackedB at HPK
  rw [show (packM []).length = 0 from rfl] at HPK
  clear N
  go_enter Tryd.func25, Tryd.ntmps25
  go_wp2_with fail
  refine HPK.out.mono ?_
  rintro e w1 ⟨g, rfl, -, -, hb1⟩
  have HA1 := Lib.hid (HA.out w1 hb1)
  have HB1 := Lib.hid hb1
  clear hb1 HA HPK
  go_wp2_with fail
  refine HA1.out.mono ?_
  rintro e w2 ⟨rfl, hb2⟩
  have HB2 := Lib.hid (below_top HB1.out hb2)
  clear hb2
  go_wp2_with fail
  go_ret2
  exact ⟨rfl, HB2.out⟩
theorem same_no {u : Value} (N : NoHp w v) (M : NoHp w u) : Calls Tryd.prog 36 #[v, u] w (Said (.bool true) w) := by
  have HM := Lib.hid (made_no N)
  have HM' := Lib.hid (made_no M)
  clear N M
  go_enter Tryd.func36, Tryd.ntmps36
  go_wp2_with fail
  refine HM.out.mono ?_
  rintro e w1 ⟨rfl, rfl⟩
  go_wp2_with fail
  refine HM.out.mono ?_
  rintro e w1 ⟨rfl, rfl⟩
  go_wp2_with fail
  refine HM'.out.mono ?_
  rintro e w1 ⟨rfl, rfl⟩
  go_wp2_with fail
  go_ret
  exact ⟨rfl, rfl⟩
theorem same_half1 {u : Value} (N : NoHp w v) (M : Calls Tryd.prog 46 #[u] w (Said (.bool true) w)) : Calls Tryd.prog 36 #[v, u] w (Said (.bool false) w) := by
  have HM := Lib.hid (made_no N)
  have HM' := Lib.hid M
  clear N M
  go_enter Tryd.func36, Tryd.ntmps36
  go_wp2_with fail
  refine HM.out.mono ?_
  rintro e w1 ⟨rfl, rfl⟩
  go_wp2_with fail
  refine HM.out.mono ?_
  rintro e w1 ⟨rfl, rfl⟩
  go_wp2_with fail
  refine HM'.out.mono ?_
  rintro e w1 ⟨rfl, rfl⟩
  go_wp2_with fail
  go_ret
  exact ⟨rfl, rfl⟩
theorem same_half2 {u : Value} (N : NoHp w v) (M : Calls Tryd.prog 46 #[u] w (Said (.bool true) w)) : Calls Tryd.prog 36 #[u, v] w (Said (.bool false) w) := by
  have HM := Lib.hid (made_no N)
  have HM' := Lib.hid M
  clear N M
  go_enter Tryd.func36, Tryd.ntmps36
  go_wp2_with fail
  refine HM'.out.mono ?_
  rintro e w1 ⟨rfl, rfl⟩
  go_wp2_with fail
  refine HM.out.mono ?_
  rintro e w1 ⟨rfl, rfl⟩
  go_wp2_with fail
  refine HM'.out.mono ?_
  rintro e w1 ⟨rfl, rfl⟩
  go_wp2_with fail
  refine HM.out.mono ?_
  rintro e w1 ⟨rfl, rfl⟩
  go_wp2_with fail
  go_ret
  exact ⟨rfl, rfl⟩
set_option maxRecDepth 100000 in
theorem all1_no {α : Type} (encs : α → Array Value) (Kp : World → World → Prop) (n Bh : Nat) (q : Option Addr) (N : NoHp w (.pointer q)) (hbox : w.cell? ⟨Bh, 0, none⟩ = some (.pointer q)) :
    SeqStopsK Fence.wide n Tryd.prog 58 #[.pointer (some ⟨Bh, 0, none⟩)] encs Kp (fun xs : List α => xs = []) (fun _ => False) 0 w :=
  fun lp J Jx W hW hJ hJx hY h0 => by
  have hBh := World.block_lt_of_cell? _ _ hbox
  have hbW : W.cell? ⟨Bh, 0, none⟩ = some (.pointer q) := (hW.cell (p := ⟨Bh, 0, none⟩) hBh).trans hbox
  have HC := Lib.hid (clone_no (N.below hW))
  have H0 := Lib.hid h0
  refine callsIn_of_wp Tryd.func58 rfl trivial ?_ rfl
  simp only [Tryd.ntmps58, List.size_toArray, List.length_cons, List.length_nil, Nat.reduceAdd, Nat.reduceSub, Array.replicate_succ, Array.replicate_zero, List.push_toArray, List.append_toArray, List.nil_append, List.cons_append]
  clear hY hJ hJx h0 N hW hbox
  gi_wp2_with fail
  refine ⟨trivial, fun hh => (by cases hh), (callsIn_wide.2 HC.out).mono ?_⟩
  rintro e w1 ⟨rfl, rfl⟩
  gi_wp2_with fail
  refine bodyPost_ret (results_none rfl _ _ _) rfl ?_
  exact ⟨⟨_, rfl⟩, .inl ⟨[], rfl, H0.out⟩⟩
end
end Go.Proofs.YtkpjkbkglnabiaaDoor
