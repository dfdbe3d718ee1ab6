/- '!=' of two arrays of three words. -/
import Derived.Test.YtkpjkbkglnabiaaGreatDoorMem
import Derived.Laws.StructEq
set_option linter.unusedVariables false
namespace Go.Proofs.YtkpjkbkglnabiaaGreatDoor
open Go.RowKit

theorem run_part_one {P : Program} (w : World) (e : TypeId) (he : ∀ w, (isAgg e).run P w = .ok false w) (xs : Array Value) (i : Nat) (v : Value) (hv : xs[i]? = some v) :
    (part e xs i).run P w = .ok v w := by
  simp [part, he, hv, Sem.run_bind]

theorem run_equalIn_arr3 (w : World) (d : Nat) (a b c a' b' c' : Int) :
    (Op.equalIn (d + 1 + 1) 104 (.agg #[.int .u32 a, .int .u32 b, .int .u32 c]) (.agg #[.int .u32 a', .int .u32 b', .int .u32 c'])).run Tryz.prog w = .ok (a == a' && (b == b' && c == c')) w := by
  have ht : Tryz.prog.underlying 104 = some (.array 3 29) := Tryz.underlying104
  have he : Tryz.prog.underlying 29 = some (.int .u32) := Tryz.underlying29
  have hag : ∀ w, (isAgg 29).run Tryz.prog w = .ok false w := fun w => by kernel_rfl
  have hsz : ∀ w, (sizeOf 29).run Tryz.prog w = .ok 1 w := fun w => by kernel_rfl
  have hi : ∀ (w : World) (x y : Int), (Op.equalIn (d + 1) 29 (.int .u32 x) (.int .u32 y)).run Tryz.prog w = .ok (x == y) w := fun w x y => run_equalIn_int w d _ _ _ x y he
  rw [Op.equalIn.eq_def]
  dsimp only
  have p0 : ∀ (w : World) (x y z : Value), (part 29 #[x, y, z] 0).run Tryz.prog w = .ok x w := fun w x y z => run_part_one w _ hag _ 0 x rfl
  have p1 : ∀ (w : World) (x y z : Value), (part 29 #[x, y, z] 1).run Tryz.prog w = .ok y w := fun w x y z => run_part_one w _ hag _ 1 y rfl
  have p2 : ∀ (w : World) (x y z : Value), (part 29 #[x, y, z] 2).run Tryz.prog w = .ok z w := fun w x y z => run_part_one w _ hag _ 2 z rfl
  simp only [Sem.run_bind, run_underlying ht, Result.andThen_ok, hsz]
  simp only [Std.Legacy.Range.forIn_eq_forIn_range', Std.Legacy.Range.size, List.range', Nat.sub_zero, Nat.reduceAdd, Nat.reduceDiv, Nat.reduceSub, List.forIn_cons, List.forIn_nil, Nat.mul_one]
  cases h1 : a == a' <;> cases h2 : b == b' <;> cases h3 : c == c' <;> simp [Sem.run_bind, p0, p1, p2, hi, h1, h2, h3]

theorem run_neq_arr3 (w : World) (a b c a' b' c' : Int) :
    (binOp .neq 104 (.agg #[.int .u32 a, .int .u32 b, .int .u32 c]) (.agg #[.int .u32 a', .int .u32 b', .int .u32 c'])).run Tryz.prog w = .ok (.bool (!(a == a' && (b == b' && c == c')))) w := by
  rw [run_neq_struct, show (10000 : Nat) = 9998 + 1 + 1 from rfl, run_equalIn_arr3]
  rfl
end Go.Proofs.YtkpjkbkglnabiaaGreatDoor
