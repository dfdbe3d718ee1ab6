import Derived.Test.YthadjmhipckelaaGreatDoorJAlloc
set_option linter.unusedVariables false
set_option linter.unusedSimpArgs false
namespace Go.Proofs.YthadjmhipckelaaGreatDoor
section
open Go.RowKit
attribute [local go_sem] Oper.semAt_some
theorem RB.new {w2 w w' : World} {v : Value} {bs : List Nat} (ho : w'.ownsRow w.heap.size 5 1 v bs.length (u8c bs)) (hb : Below w.heap.size w w') (h0 : Below w2.heap.size w2 w) : RB w2 w' w.heap.size v bs :=
 ⟨ho, below_top h0 hb, h0.size, hb.size⟩
theorem RB.reads {w2 w : World} {B : Nat} {v : Value} {bs : List Nat} (C : RB w2 w B v bs) : ∃ A c, v = .slice A bs.length c ∧ Reads w w.heap.size 1 A bs.length (u8c bs) := own_sliceI C.own
theorem RB.alloc {w2 w : World} {B : Nat} {v : Value} {bs : List Nat} (C : RB w2 w B v bs) (o : Obj) : RB w2 (w.alloc o) B v bs := C.below ((Below.refl _ _).alloc (Nat.le_refl _) o)
theorem RB.nil {w2 w : World} {B : Nat} (hb : Below w2.heap.size w2 w) (hB : w2.heap.size ≤ B) (ht : B ≤ w.heap.size) : RB w2 w B (.slice none 0 0) [] :=
 ⟨⟨rfl, .inl ⟨rfl, rfl⟩⟩, hb, hB, ht⟩
theorem u8c_len (bs : List Nat) : (u8c bs).length = bs.length := by simp [u8c]
theorem reads_new (w : World) (bs : List Nat) (n : Nat) (hn : bs.length = n) : Reads (w.alloc (.cells (u8c bs).toArray 5)) (w.heap.size + 1) 1 (some ⟨w.heap.size, 0, none⟩) n (u8c bs) := by
 subst hn
 refine ⟨by rw [u8c_len, Nat.mul_one], fun _ => ⟨_, rfl, by simp, fun j u hu => ?_⟩⟩
 rw [WideShapes.add_plain, Nat.zero_add]
 refine ((Blk.new w _ _).cell j).trans ?_
 rw [← hu]
 simp
theorem own_new8 (w : World) (bs : List Nat) (n : Nat) (hn : bs.length = n) (hm : n ≤ maxLen) : (w.alloc (.cells (u8c bs).toArray 5)).ownsRow w.heap.size 5 1 (.slice (some ⟨w.heap.size, 0, none⟩) n n) n (u8c bs) := by
 subst hn
 exact ⟨by simp [u8c], .inr ⟨w.heap.size, bs.length, _, rfl, Nat.le_refl _, heap_alloc_new w _, Nat.le_refl _, hm, by simp [u8c], by rw [List.take_of_length_le (by simp [u8c])]⟩⟩
theorem wpList_app_RB {ops : Array Oper} {rest : List Oper} {o : Oper} {a : Act} {Q : Exit → Act → World → Prop} {w w2 : World} {B m c : Nat} {v : Value} {bs cs : List Nat} {A : Option Addr} (s x : Operand)
 (C : RB w2 w B v bs) (hr : Reads w w.heap.size 1 A m (u8c cs)) (hs : a.eval s = v) (hx : a.eval x = .slice A m c) (hn : bs.length + m ≤ 100000000000000)
 (ho : o.op = .call { callee := .builtin .append, args := #[s, x], argTypes := #[22, 22] }) (hgd : o.guard = none)
 (h : ∀ v' w', RB w2 w' B v' (bs ++ cs) → w.grownBy w' v.ownBlock → wpList Tryz.prog ops Q rest (a.put o.dst v') w') : wpList Tryz.prog ops Q (o :: rest) a w := by
 obtain ⟨i0, hi0, hz0, hz1, hz2⟩ := info_parts info_u8
 refine wpList_append_any _ hgd s x _ ho B 5 i0 _ 1 1 Tryz.underlying22 hi0 hz0 hz1 hz2 rfl (by omega) v bs.length (u8c bs) hs C.own w.heap.size A m c (u8c cs) hx hr (one_u8c _) (by simp only [maxLen]; omega) (by omega) C.top ?_
 intro v4 w4 hown4 hgrow4 hat4
 exact h _ _ (C.app (by have := hr.1; rw [u8c_len, Nat.mul_one] at this; exact this) hown4 hgrow4) hgrow4
theorem wpList_app_full {ops : Array Oper} {rest : List Oper} {o : Oper} {a : Act} {Q : Exit → Act → World → Prop} {w w2 : World} {n m c : Nat} {b : Addr} {bs cs : List Nat} {A : Option Addr} (s x : Operand)
 (hb : Below w2.heap.size w2 w) (hr0 : Reads w w.heap.size 1 (some b) n (u8c bs)) (hr : Reads w w.heap.size 1 A m (u8c cs)) (hs : a.eval s = .slice (some b) n n) (hx : a.eval x = .slice A m c) (hm : 0 < m) (hn : n + m ≤ 100000000000000)
 (ho : o.op = .call { callee := .builtin .append, args := #[s, x], argTypes := #[22, 22] }) (hgd : o.guard = none)
 (h : ∀ v' w', RB w2 w' w.heap.size v' (bs ++ cs) → wpList Tryz.prog ops Q rest (a.put o.dst v') w') : wpList Tryz.prog ops Q (o :: rest) a w := by
 obtain ⟨i0, hi0, hz0, hz1, hz2⟩ := info_parts info_u8
 obtain ⟨ad, rfl, hlt, hcells⟩ := hr.2 hm
 have hbs : bs.length = n := by have := hr0.1; rw [u8c_len, Nat.mul_one] at this; exact this
 have hcs : cs.length = m := by have := hr.1; rw [u8c_len, Nat.mul_one] at this; exact this
 have h0 : ∀ j u, (u8c bs)[j]? = some u → w.cell? (b.add j) = some u := by
  intro j u hu
  rcases Nat.eq_zero_or_pos n with hz | hp
  ·have : bs = [] := List.eq_nil_of_length_eq_zero (by omega)
   rw [this] at hu; simp [u8c] at hu
  ·obtain ⟨ad', hh, _, hc⟩ := hr0.2 hp
   have e1 := Option.some.inj hh
   subst e1
   exact hc j u hu
 have hrun := run_append_grow (P := Tryz.prog) w 22 o.type 5 i0 (.int .u8 0) Tryz.underlying22 hi0 hz0 b n n (u8c bs) (by rw [u8c_len, hbs, hz1, Nat.mul_one]) h0 ad m c (u8c cs) (by rw [u8c_len, hcs, hz1, Nat.mul_one]) hcells (by omega) (by omega) (growslice_fits (by omega) (by rw [hz2]; omega))
 refine wpList_plain hgd fun _ hK => ?_
 unfold Oper.wp execOp
 simp only [ho, resolve, invoke, builtin, Sem.run_bind, Sem.run_pure, Result.andThen_ok, List.map_toArray, List.map_cons, List.map_nil, hs, hx, hrun]
 refine hK _ _ (h _ _ ?_)
 have hge := grownCap_ge w (n + m) n 5
 have hcm : grownCap w (n + m) n 5 ≤ maxLen := grownCap_le_maxLen w (n + m) n 5 (by simp only [maxLen]; omega)
 refine ⟨⟨by simp [u8c], .inr ⟨w.heap.size, _, _, by rw [List.length_append, hbs, hcs], Nat.le_refl _, heap_alloc_new w.drew _, by rw [List.length_append, hbs, hcs]; exact hge, hcm, ?_, ?_⟩⟩, ?_, hb.size, by simp⟩
 ·simp only [Array.size_append, List.size_toArray, size_zeroCells, u8c_len, hbs, hcs, show (Value.int .u8 0).cells.size = 1 from rfl]
  omega
 ·simp only [Array.toList_append, List.append_assoc]
  rw [← List.append_assoc, Nat.mul_one, ← u8c_appI, ← u8c_len (bs ++ cs)]
  exact List.take_left
 ·exact (show Below w2.heap.size w2 w.drew from ⟨hb.os, hb.tape, hb.output, hb.size, hb.block⟩).alloc hb.size _
theorem reads_new1 (w : World) (X : Obj) (bs : List Nat) (n : Nat) (hn : bs.length = n) : Reads ((w.alloc X).alloc (.cells (u8c bs).toArray 5)) ((w.alloc X).alloc (.cells (u8c bs).toArray 5)).heap.size 1 (some ⟨w.heap.size + 1, 0, none⟩) n (u8c bs) := by
 have h := (reads_new (w.alloc X) bs n hn).more (B' := ((w.alloc X).alloc (.cells (u8c bs).toArray 5)).heap.size) (by simp)
 simpa using h
theorem reads_marked (w : World) (Y : Obj) (m : Nat × Nat) (bs : List Nat) (n : Nat) (hn : bs.length = n) : Reads ((w.alloc (.cells (u8c bs).toArray 5 m)).alloc Y) ((w.alloc (.cells (u8c bs).toArray 5 m)).alloc Y).heap.size 1 (some ⟨w.heap.size, 0, none⟩) n (u8c bs) := by
 subst hn
 refine ⟨by rw [u8c_len, Nat.mul_one], fun _ => ⟨_, rfl, by simp; omega, fun j u hu => ?_⟩⟩
 rw [WideShapes.add_plain, Nat.zero_add]
 rw [World.cell?_alloc_lt _ _ _ (by simp)]
 refine (cell_of_row _ w.heap.size j (u8c bs).toArray 5 m (heap_alloc_new w _)).trans ?_
 rw [← hu]
 simp
end
end Go.Proofs.YthadjmhipckelaaGreatDoor
