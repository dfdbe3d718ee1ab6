/- awake: chapter 2's first two examples hold. -/
import Derived.Test.YtkpjkbkglnabiaaDoorLive
import Derived.Lib.SlBytesConst
set_option linter.unusedVariables false
namespace Go.Proofs.YtkpjkbkglnabiaaDoor
open Go.RowKit

theorem num_any (n : Nat) (hn : n < 1000) (w : World) : Calls Tryd.prog 16 #[.int .i64 (n : Int)] w (Said (.int .i64 (n : Int)) w) := by
  go_enter Tryd.func16, Tryd.ntmps16
  go_wp2_with fail
  go_ret
  exact ⟨rfl, rfl⟩

def hello : List Nat := [104, 101, 108, 108, 111]
def aw0 : HM := HM.new 64
def aw1 : HM := aw0.AllocH 0 1 2
def aw2 : HM := aw1.makeH 2 hello
def aw3 : HM := aw2.setRootH 0 12
def aw4 : HM := aw3.AllocH 2 4 1
theorem aw_f1 : aw0.AllocO 0 1 2 = 2 ∧ aw0.AllocE 0 1 2 = 0 := by decide +kernel
theorem aw_f2 : aw1.makeO 2 hello = 12 ∧ aw1.makeE 2 hello = 0 := by decide +kernel
theorem aw_f3 : aw2.setRootE 0 12 = 0 := by decide +kernel
theorem aw_f4 : aw3.AllocO 2 4 1 = 22 ∧ aw3.AllocE 2 4 1 = 0 := by decide +kernel
theorem aw_f5 : aw4.readN 22 0 [1, 4] = 12 ∧ aw4.lookE 22 0 [1, 4] = 0 := by decide +kernel
def awT : List UInt8 := [64, 54, 32, 35, 50, 32, 98, 121, 116, 101, 115, 32, 53, 32, 99, 108, 97, 115, 115, 32, 64, 49, 58, 32, 49, 48, 52, 32, 49, 48, 49, 32, 49, 48, 56, 32, 49, 48, 56, 32, 49, 49, 49]
theorem aw_f6 : aw4.showS 12 = awT ∧ aw4.isE 12 = 0 := by decide +kernel
theorem aw_f7 : aw4.putE 2 0 14 = 3 := by decide +kernel
theorem hello_lt : ∀ x ∈ hello, x < 256 := by decide

theorem hello_reads (w : World) (t : TypeId) (r : Nat × Nat) : Reads (w.alloc (.cells #[.int .u8 104, .int .u8 101, .int .u8 108, .int .u8 108, .int .u8 111] t r)) (w.alloc (.cells #[.int .u8 104, .int .u8 101, .int .u8 108, .int .u8 108, .int .u8 111] t r)).heap.size 1 (some ⟨w.heap.size, 0, none⟩) 5 (u8c hello) :=
  ⟨rfl, fun _ => ⟨_, rfl, by simp, fun j u hj => by
    rw [WideShapes.add_plain, Nat.zero_add, World.cell?_alloc_mark]
    simpa [u8c, hello] using hj⟩⟩

set_option maxRecDepth 100000 in
set_option maxHeartbeats 2000000 in
theorem awake_any (W : World) (E : Env W) : Calls Tryd.prog 11 #[] W (Told (.bool true) W) := by
  have HE := Lib.hid E; clear E
  have kc := fun (w : World) (C : Array Value) (n c : Nat) => Lib.run_convert_bytes_const (P := Tryd.prog) w 43 5 C n c Tryd.underlying43 Tryd.underlying5
  go_enter Tryd.func11, Tryd.ntmps11
  go_wp2_with fail
  refine (new_any 64 (by decide) (by decide) _).mono ?_
  rintro e w1 hN
  obtain ⟨p, g, rfl, L0⟩ := Live.of_new (v := fun g => .tuple #[ptr g, .int .i64 0]) HE.out (by decide) (by decide) hN
  replace L0 : Live W w1 p g aw0 := L0
  clear hN
  unfold ptr
  go_wp2_with fail
  refine (num_any 0 (by decide) _).mono ?_
  rintro e w' ⟨rfl, rfl⟩
  go_wp2_with fail
  refine (L0.alloc 0 (by decide) 1 2).mono ?_
  rintro e w2 ⟨p1, rfl, L1, -⟩
  rw [aw_f1.1, aw_f1.2]
  replace L1 : Live W w2 p1 g aw1 := L1
  go_wp2_with fail
  refine ((L1.after ((Below.refl _ _).alloc (Nat.le_refl _) _)).make 2 (by decide) _ 5 5 hello (by decide) (hello_reads w2 _ _) hello_lt).mono ?_
  rintro e w3 ⟨p2, rfl, L2, -⟩
  rw [aw_f2.1, aw_f2.2]
  replace L2 : Live W w3 p2 g aw2 := L2
  go_wp2_with fail
  refine (num_any 0 (by decide) _).mono ?_
  rintro e w' ⟨rfl, rfl⟩
  go_wp2_with fail
  refine (num_any 0 (by decide) _).mono ?_
  rintro e w' ⟨rfl, rfl⟩
  go_wp2_with fail
  refine (L2.setRoot 0 12 (by decide)).mono ?_
  rintro e w4 ⟨p3, rfl, L3, -⟩
  rw [aw_f3]
  replace L3 : Live W w4 p3 g aw3 := L3
  go_wp2_with fail
  refine (num_any 0 (by decide) _).mono ?_
  rintro e w' ⟨rfl, rfl⟩
  go_wp2_with fail
  refine (L3.alloc 2 (by decide) 4 1).mono ?_
  rintro e w5 ⟨p4, rfl, L4, -⟩
  rw [aw_f4.1, aw_f4.2]
  replace L4 : Live W w5 p4 g aw4 := L4
  go_wp2_with fail
  refine (L4.get 22 (by decide) 0).mono ?_
  rintro e w6 ⟨rfl, hb6⟩
  rw [aw_f5.1, aw_f5.2]
  replace L4 := L4.after hb6
  clear hb6
  go_wp2_with fail
  refine (L4.show 12 (by decide)).mono ?_
  rintro e w7 ⟨rfl, hb7⟩
  rw [aw_f6.1, aw_f6.2]
  replace L4 := L4.after hb7
  clear hb7
  unfold awT
  go_wp2_with fail
  refine (num_any 0 (by decide) _).mono ?_
  rintro e w' ⟨rfl, rfl⟩
  go_wp2_with fail
  refine (num_any 0 (by decide) _).mono ?_
  rintro e w' ⟨rfl, rfl⟩
  go_wp2_with fail
  refine (num_any 0 (by decide) _).mono ?_
  rintro e w' ⟨rfl, rfl⟩
  go_wp2_with fail
  refine (L4.put 2 (by decide) 0 14 (by decide)).mono ?_
  rintro e w8 ⟨p5, rfl, L5, -⟩
  rw [aw_f7]
  go_wp2_with fail
  refine (num_any 3 (by decide) _).mono ?_
  rintro e w' ⟨rfl, rfl⟩
  go_wp2_with fail
  go_ret
  exact ⟨rfl, L5.below⟩
end Go.Proofs.YtkpjkbkglnabiaaDoor
