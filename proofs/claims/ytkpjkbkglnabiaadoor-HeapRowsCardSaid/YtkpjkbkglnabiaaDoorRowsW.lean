/- HeapRows, walked: First, Next and All go through the same objects; Find finds each; what was made is there. -/
import Derived.Test.YtkpjkbkglnabiaaDoorFind
import Derived.Test.YtkpjkbkglnabiaaDoorFull
import Derived.Test.YtkpjkbkglnabiaaDoorRound
import Derived.Test.YtkpjkbkglnabiaaDoorFrame
set_option linter.unusedVariables false
namespace Go.Proofs.YtkpjkbkglnabiaaDoor
open Go.RowKit Go.Sort
attribute [local go_sem] Oper.semAt_some

theorem DeedsAt.more {w : World} {B B' : Nat} {A : Option Addr} {ds : List Dd} (h : DeedsAt w B A ds) (hB : B ≤ B') : DeedsAt w B' A ds := fun i d hd => by
  obtain ⟨f, ad, Ab, nb, cb, h1, h2, h3, h4, h5⟩ := h i d hd
  exact ⟨f, ad, Ab, nb, cb, h1, by omega, h3, h4.more hB, h5⟩
theorem Live.own {β : Type} {W : World} {p : HP} {g : Nat} {h : HM} {B : Nat} (hB : W.heap.size ≤ B) : OwnFrom B (fun (_ : β) w => Live W w p g h) := fun s w w' row L hg hr =>
  L.grown hg fun k hk => by
    obtain ⟨h1, o, ho, hc⟩ := hr k hk
    refine ⟨fun hh => ?_, Nat.le_trans hB h1⟩
    have hcells : ∃ cs t fr, w.heap[k]? = some (.cells cs t fr) := by
      obtain ⟨a, ⟨_, b, _⟩, ⟨_, c, _⟩, ⟨_, d, _⟩⟩ := L.at_
      rcases hh with rfl | rfl | rfl | rfl
      · exact ⟨_, _, _, a⟩
      · exact ⟨_, _, _, b⟩
      · exact ⟨_, _, _, c⟩
      · exact ⟨_, _, _, d⟩
    obtain ⟨cs, t, fr, hcs⟩ := hcells
    rw [hcs] at ho
    injection ho with ho
    subst ho
    simp [Obj.isCells] at hc
theorem ownsRow_own {β : Type} (B base : Nat) (e : TypeId) (v : Value) (n : Nat) (xs : List Value) : OwnFrom B (fun (_ : β) w => w.ownsRow base e 1 v n xs) := fun s w w' row ho hg hr => by
  refine ⟨ho.1, ?_⟩
  rcases ho.2 with h1 | ⟨g, cap, cur, h1, h2, h3, h4⟩
  · exact .inl h1
  · refine .inr ⟨g, cap, cur, h1, h2, (hg.block g (lt_of_get h3) (fun e => ?_)).trans h3, h4⟩
    obtain ⟨_, o, ho, hc⟩ := hr g e.symm
    rw [h3] at ho
    injection ho with ho
    subst ho
    simp [Obj.isCells] at hc

theorem run_eql_fn (g : Nat) (w : World) : (binOp .eql 65 (.func (.func 58) #[] #[.pointer (some ⟨g, 0, none⟩)]) .nilFunc).run Tryd.prog w = .ok (.bool false) w := by kernel_rfl
/-- The variables of HeapRows: the result, the heap, where it stands, the object, how many. -/
structure RowsSt (V : World) (Rb Bh Ba : Nat) (p : HP) (g : Nat) (h : HM) (v : Value) (ms : List Nat) (at' o n : Nat) (w : World) : Prop where
  live : Live V w p g h
  res : Boxed w Rb 4 (.bool false)
  hp : Boxed w Bh 25 (ptr g)
  at_ : Boxed w Ba 3 (.int .i64 (at' : Int))
  o : Boxed w (Ba + 1) 31 (.int .u32 (o : Int))
  n : Boxed w (Ba + 1 + 1) 3 (.int .i64 (n : Int))
  made : w.ownsRow V.heap.size 31 1 v ms.length (u32s ms)
theorem RowsSt.own {β : Type} {V : World} {Rb Bh Ba : Nat} {p : HP} {g : Nat} {h : HM} {v : Value} {ms : List Nat} {C : Nat} (hC : V.heap.size ≤ C) (f1 f2 f3 : β → Nat) : OwnFrom C (fun (s : β) w => RowsSt V Rb Bh Ba p g h v ms (f1 s) (f2 s) (f3 s) w) := fun s w w' row S hg hr =>
  ⟨Live.own hC () _ _ row S.live hg hr, boxed_own _ _ (fun (_ : Unit) => Value.bool false) () _ _ row S.res hg (fun r e => (hr r e).2), boxed_own _ _ (fun (_ : Unit) => ptr g) () _ _ row S.hp hg (fun r e => (hr r e).2),
    boxed_own _ _ (fun (_ : Unit) => Value.int .i64 (f1 s : Int)) () _ _ row S.at_ hg (fun r e => (hr r e).2), boxed_own _ _ (fun (_ : Unit) => Value.int .u32 (f2 s : Int)) () _ _ row S.o hg (fun r e => (hr r e).2),
    boxed_own _ _ (fun (_ : Unit) => Value.int .i64 (f3 s : Int)) () _ _ row S.n hg (fun r e => (hr r e).2), ownsRow_own C _ _ _ _ _ () _ _ row S.made hg hr⟩
theorem grown_of_below {w w' : World} (hb : Below w.heap.size w w') : w.grownBy w' none := ⟨hb.os, hb.tape, hb.output, hb.size, fun k hk _ => hb.block k hk⟩
theorem Boxed.below {w w' : World} {B : Nat} {t : TypeId} {v : Value} (h : Boxed w B t v) (hb : Below w.heap.size w w') : Boxed w' B t v := h.kept (grown_of_below hb) (by simp)
theorem RowsSt.below {V : World} {Rb Bh Ba : Nat} {p : HP} {g : Nat} {h : HM} {v : Value} {ms : List Nat} {at' o n : Nat} {w w' : World} (S : RowsSt V Rb Bh Ba p g h v ms at' o n w) (hb : Below w.heap.size w w') : RowsSt V Rb Bh Ba p g h v ms at' o n w' :=
  RowsSt.own (C := V.heap.size) (Nat.le_refl _) (fun (_ : Unit) => at') (fun _ => o) (fun _ => n) () w w' none S (grown_of_below hb) (fun r e => by cases e)

theorem keeps_below {w w' : World} (hb : Below w.heap.size w w') : KeepsOthers w w' := ⟨hb.size, fun k o h _ => (hb.block k (lt_of_get h)).trans h⟩
theorem ownsRow_far {w w' : World} {base k : Nat} {e : TypeId} {v : Value} {n : Nat} {xs : List Value} (h : w.ownsRow base e 1 v n xs) (hg : w.grownBy w' (some k)) (hk : ∀ j, v.ownBlock = some j → j ≠ k) : w'.ownsRow base e 1 v n xs := by
  refine ⟨h.1, ?_⟩
  rcases h.2 with h1 | ⟨g, cap, cur, h1, h2, h3, h4⟩
  · exact .inl h1
  · exact .inr ⟨g, cap, cur, h1, h2, (hg.block g (lt_of_get h3) (fun e => hk g (by rw [h1]; rfl) (by injection e))).trans h3, h4⟩
section
variable {V : World} {Rb Bh Ba : Nat} {p : HP} {g : Nat} {h : HM} {v : Value} {ms : List Nat} {at' o n : Nat} {w : World}
theorem RowsSt.setAt (S : RowsSt V Rb Bh Ba p g h v ms at' o n w) (hp : ∀ k, p.has k → k < Bh) (hv : ∀ k, v.ownBlock = some k → k < Bh) (hb : Bh < Ba) (hV : V.heap.size ≤ Bh) (hR : Rb < V.heap.size) (a2 : Nat) :
    RowsSt V Rb Bh Ba p g h v ms a2 o n (w.setCell ⟨Ba, 0, none⟩ (.int .i64 (a2 : Int))) :=
  ⟨S.live.grown (grownBy_set w Ba 0 _) (fun k e => by cases e; exact ⟨fun hh => by have := hp _ hh; omega, by omega⟩), S.res.other (by omega) _, S.hp.other (by omega) _, S.at_.set _, S.o.other (by omega) _, S.n.other (by omega) _,
    ownsRow_far S.made (grownBy_set w Ba 0 _) (fun j hj => by have := hv j hj; omega)⟩
theorem RowsSt.setO (S : RowsSt V Rb Bh Ba p g h v ms at' o n w) (hp : ∀ k, p.has k → k < Bh) (hv : ∀ k, v.ownBlock = some k → k < Bh) (hb : Bh < Ba) (hV : V.heap.size ≤ Bh) (hR : Rb < V.heap.size) (o2 : Nat) :
    RowsSt V Rb Bh Ba p g h v ms at' o2 n (w.setCell ⟨Ba + 1, 0, none⟩ (.int .u32 (o2 : Int))) :=
  ⟨S.live.grown (grownBy_set w (Ba + 1) 0 _) (fun k e => by cases e; exact ⟨fun hh => by have := hp _ hh; omega, by omega⟩), S.res.other (by omega) _, S.hp.other (by omega) _, S.at_.other (by omega) _, S.o.set _, S.n.other (by omega) _,
    ownsRow_far S.made (grownBy_set w (Ba + 1) 0 _) (fun j hj => by have := hv j hj; omega)⟩
theorem RowsSt.setN (S : RowsSt V Rb Bh Ba p g h v ms at' o n w) (hp : ∀ k, p.has k → k < Bh) (hv : ∀ k, v.ownBlock = some k → k < Bh) (hb : Bh < Ba) (hV : V.heap.size ≤ Bh) (hR : Rb < V.heap.size) (n2 : Nat) :
    RowsSt V Rb Bh Ba p g h v ms at' o n2 (w.setCell ⟨Ba + 1 + 1, 0, none⟩ (.int .i64 (n2 : Int))) :=
  ⟨S.live.grown (grownBy_set w (Ba + 1 + 1) 0 _) (fun k e => by cases e; exact ⟨fun hh => by have := hp _ hh; omega, by omega⟩), S.res.other (by omega) _, S.hp.other (by omega) _, S.at_.other (by omega) _, S.o.other (by omega) _, S.n.set _,
    ownsRow_far S.made (grownBy_set w (Ba + 1 + 1) 0 _) (fun j hj => by have := hv j hj; omega)⟩
end
theorem findN_at {h : HM} {l : List Ob} (S : h.Scr l) (k : Nat) (hk : k < l.length) : findN l (l[k]'hk).x.ser = 2 * posOf (l.take k) := by
  have hser : ∀ j (hj : j < l.length), (l[j]'hj).x.ser = j + 1 := by
    intro j hj
    have h1 : (l.map (·.x.ser))[j]? = some (l[j]'hj).x.ser := by simp [hj]
    rw [S.sers, List.getElem?_range' (by rw [← S.len]; exact hj)] at h1
    injection h1 with h1
    omega
  unfold findN oopI
  have : l.findIdx (fun b => b.x.ser == (l[k]'hk).x.ser) = k := by
    rw [List.findIdx_eq hk]
    refine ⟨by simp, fun j hj => ?_⟩
    have h1 := hser j (by omega)
    have h2 := hser k hk
    simp; omega
  rw [this, if_pos hk]
theorem heap_own {β : Type} {D B : Nat} {o : Obj} (hD : D < B) : OwnFrom B (fun (_ : β) w => w.heap[D]? = some o) := fun s w w' row h hg hr =>
  (hg.block D (lt_of_get h) (fun e => by have := (hr D e.symm).1; omega)).trans h
/-- The frame at the first loop, and in its rounds. -/
def rowsA0 (k nd c g Rb Bh Ba Bl : Nat) (A : Option Addr) (v : Value) (o0 : Nat) : Array Value := #[Value.int IntKind.i64 (k : Int), Value.slice A nd c, undef, undef, Value.pointer (some { block := Rb, off := 0 }), Value.pointer (some { block := Bh, off := 0 }), v, Value.pointer (some { block := Ba, off := 0 }), Value.pointer (some { block := (Ba + 1), off := 0 }), Value.pointer (some { block := (Ba + 1 + 1), off := 0 }), Value.func (Fn.func 58) #[] #[Value.pointer (some { block := Bl, off := 0 })], undef, undef, undef, undef, undef, undef, undef, undef, Value.int IntKind.i64 (k : Int), Value.bool true, Value.bool false, undef, Value.tuple #[Value.pointer (some { block := g, off := 0 }), v], Value.int IntKind.i64 (k : Int), Value.slice A nd c, Value.tuple #[Value.pointer (some { block := g, off := 0 }), v], Value.pointer (some { block := g, off := 0 }), v, Value.pointer (some { block := g, off := 0 }), Value.bool false, Value.bool false, Value.bool true, Value.bool false, Value.bool false, Value.pointer (some { block := g, off := 0 }), Value.int IntKind.u32 (o0 : Int), Value.pointer (some { block := g, off := 0 }), Value.func (Fn.func 58) #[] #[Value.pointer (some { block := Bl, off := 0 })], Value.func (Fn.func 58) #[] #[Value.pointer (some { block := Bl, off := 0 })], Value.bool false, Value.func (Fn.func 58) #[] #[Value.pointer (some { block := Bl, off := 0 })], undef, undef, undef, undef, undef, undef, undef, undef, undef, undef, undef, undef, undef, undef, undef, undef, undef, undef, undef, undef, undef, undef, undef, undef, undef, undef, undef, undef, undef, undef, undef, undef, undef, undef, undef, undef, undef, undef, undef, undef, undef, undef, undef, undef, undef, undef, undef, undef, undef, undef, undef, undef, undef, undef, undef, undef, undef, undef, undef, undef, undef, undef, undef, undef, undef, undef, undef, undef, undef, undef, undef, undef, undef, undef, undef, undef, undef, undef, undef, undef, undef, undef, undef, undef, undef, undef, undef, undef, undef, undef, undef, undef, undef, undef, undef, undef, undef]
def rowsA1 (k nd c g Rb Bh Ba Bl : Nat) (A : Option Addr) (v : Value) (o0 o Bx : Nat) (X : Value) : Array Value := #[Value.int IntKind.i64 (k : Int), Value.slice A nd c, undef, undef, Value.pointer (some { block := Rb, off := 0 }), Value.pointer (some { block := Bh, off := 0 }), v, Value.pointer (some { block := Ba, off := 0 }), Value.pointer (some { block := (Ba + 1), off := 0 }), Value.pointer (some { block := (Ba + 1 + 1), off := 0 }), Value.func (Fn.func 58) #[] #[Value.pointer (some { block := Bl, off := 0 })], Value.int IntKind.u32 ((o : Nat) : Int), Value.pointer (some { block := Bx, off := 0 }), undef, undef, undef, undef, undef, undef, Value.int IntKind.i64 (k : Int), Value.bool true, Value.bool false, undef, Value.tuple #[Value.pointer (some { block := g, off := 0 }), v], Value.int IntKind.i64 (k : Int), Value.slice A nd c, Value.tuple #[Value.pointer (some { block := g, off := 0 }), v], Value.pointer (some { block := g, off := 0 }), v, Value.pointer (some { block := g, off := 0 }), Value.bool false, Value.bool false, Value.bool true, Value.bool false, Value.bool false, Value.pointer (some { block := g, off := 0 }), Value.int IntKind.u32 (o0 : Int), Value.pointer (some { block := g, off := 0 }), Value.func (Fn.func 58) #[] #[Value.pointer (some { block := Bl, off := 0 })], Value.func (Fn.func 58) #[] #[Value.pointer (some { block := Bl, off := 0 })], Value.bool false, Value.func (Fn.func 58) #[] #[Value.pointer (some { block := Bl, off := 0 })], Value.int IntKind.u32 ((o : Nat) : Int), X, undef, undef, undef, undef, undef, undef, undef, undef, undef, undef, undef, undef, undef, undef, undef, undef, undef, undef, undef, undef, undef, undef, undef, undef, undef, undef, undef, undef, undef, undef, undef, undef, undef, undef, undef, undef, undef, undef, undef, undef, undef, undef, undef, undef, undef, undef, undef, undef, undef, undef, undef, undef, undef, undef, undef, undef, undef, undef, undef, undef, undef, undef, undef, undef, undef, undef, undef, undef, undef, undef, undef, undef, undef, undef, undef, undef, undef, undef, undef, undef, undef, undef, undef, undef, undef, undef, undef, undef, undef, undef, undef, undef, undef, undef, undef]
/-- The frame in the last two loops. -/
def rowsB (k nd c g Rb Bh Ba j c2 o0 N Bw : Nat) (A A2 : Option Addr) (u119 u120 u121 u122 u123 u124 u125 u126 u127 s17 s18 s130 s131 s132 s133 s134 s135 s136 s137 s138 : Value) : Array Value := #[Value.int IntKind.i64 (k : Int), Value.slice A nd c, undef, undef, Value.pointer (some { block := Rb, off := 0 }), Value.pointer (some { block := Bh, off := 0 }), Value.slice A2 j c2, Value.pointer (some { block := Ba, off := 0 }), Value.pointer (some { block := Ba + 1, off := 0 }), Value.pointer (some { block := Ba + 1 + 1, off := 0 }), Value.func (Fn.func 58) #[] #[Value.pointer (some { block := Ba + 1 + 1 + 1, off := 0 })], undef, undef, undef, undef, undef, Value.int IntKind.i64 (j : Int), s17, s18, Value.int IntKind.i64 (k : Int), Value.bool true, Value.bool false, undef, Value.tuple #[Value.pointer (some { block := g, off := 0 }), Value.slice A2 j c2], Value.int IntKind.i64 (k : Int), Value.slice A nd c, Value.tuple #[Value.pointer (some { block := g, off := 0 }), Value.slice A2 j c2], Value.pointer (some { block := g, off := 0 }), Value.slice A2 j c2, Value.pointer (some { block := g, off := 0 }), Value.bool false, Value.bool false, Value.bool true, Value.bool false, Value.bool false, Value.pointer (some { block := g, off := 0 }), Value.int IntKind.u32 (o0 : Int), Value.pointer (some { block := g, off := 0 }), Value.func (Fn.func 58) #[] #[Value.pointer (some { block := Ba + 1 + 1 + 1, off := 0 })], Value.func (Fn.func 58) #[] #[Value.pointer (some { block := Ba + 1 + 1 + 1, off := 0 })], Value.bool false, Value.func (Fn.func 58) #[] #[Value.pointer (some { block := Ba + 1 + 1 + 1, off := 0 })], undef, undef, undef, undef, undef, undef, undef, undef, undef, undef, undef, undef, undef, undef, undef, undef, undef, undef, undef, undef, undef, undef, undef, undef, undef, undef, undef, undef, undef, undef, undef, undef, undef, undef, undef, undef, undef, undef, undef, undef, undef, undef, undef, undef, undef, undef, undef, undef, undef, undef, undef, undef, undef, undef, undef, undef, undef, undef, undef, Value.int IntKind.u32 0, Value.bool false, Value.bool false, Value.int IntKind.i64 (N : Int), Value.pointer (some { block := g, off := 0 }), Value.int IntKind.i64 (N : Int), Value.bool false, Value.bool false, Value.bool false, Value.int IntKind.i64 (j : Int), Value.slice A2 j c2, Value.int IntKind.i64 (j : Int), Value.bool false, Value.bool false, Value.int IntKind.i64 (j : Int), Value.slice A2 j c2, Value.int IntKind.i64 (j : Int), Value.bool false, u119, u120, u121, u122, u123, u124, u125, u126, u127, Value.pointer (some { block := g, off := 0 }), Value.func (Fn.func 58) #[] #[Value.pointer (some { block := Bw, off := 0 })], s130, s131, s132, s133, s134, s135, s136, s137, s138]

theorem posOf_take_mono {l : List Ob} {i j : Nat} (h : i < j) (hj : j ≤ l.length) : posOf (l.take i) < posOf (l.take j) := by
  induction j with
  | zero => omega
  | succ j ih =>
    have h1 := posOf_take_succ (l := l) j (by omega)
    rcases Nat.lt_or_ge i j with h2 | h2
    · exact Nat.lt_trans (ih h2 (by omega)) h1
    · obtain rfl : i = j := by omega
      exact h1
theorem posOf_take_inj {l : List Ob} {i j : Nat} (hi : i < l.length) (hj : j < l.length) (h : posOf (l.take i) = posOf (l.take j)) : i = j := by
  rcases Nat.lt_trichotomy i j with h1 | h1 | h1
  · have := posOf_take_mono h1 (by omega : j ≤ l.length); omega
  · exact h1
  · have := posOf_take_mono h1 (by omega : i ≤ l.length); omega
theorem le_posOf {l : List Ob} (j : Nat) (hj : j ≤ l.length) : j ≤ posOf (l.take j) := by
  induction j with
  | zero => omega
  | succ j ih =>
    have h1 := ih (by omega)
    have h2 := posOf_take_succ (l := l) j (by omega)
    omega
theorem take_finRange {n k : Nat} (hk : k < n) : (List.finRange n).take k ++ [⟨k, hk⟩] = (List.finRange n).take (k + 1) := by
  rw [List.take_add_one, List.getElem?_eq_getElem (by simpa using hk)]; simp

set_option maxRecDepth 100000 in
set_option maxHeartbeats 4000000 in
theorem rows_any (W : World) (E : Env W) (n : Int) (A : Option Addr) (nd c : Nat) (ds : List Dd) (hnd : nd ≤ 9223372036854775807) (hl : ds.length = nd) (hds : DeedsAt W W.heap.size A ds) :
    Calls Tryd.prog 7 #[.int .i64 n, .slice A nd c] W (Told (.bool true) W) := by
  have HE := Lib.hid E
  have HM0 := Lib.hid (fun w => mayL_any n w)
  have HAW := Lib.hid (fun w (E : Env w) => awake_any w E)
  refine (callsIn_wide (n := 8)).1 ?_
  refine callsIn_of_wp_marks Tryd.func7 rfl trivial ?_ rfl
  simp only [Tryd.ntmps7, List.size_toArray, List.length_cons, List.length_nil, Nat.reduceAdd, Nat.reduceSub, Array.replicate_succ, Array.replicate_zero, List.push_toArray, List.append_toArray, List.nil_append, List.cons_append]
  by_cases hb : mayB n = true
  · have hn : 64 ≤ n ∧ n ≤ 1048576 := by simpa [mayB] using hb
    rw [hb] at HM0
    obtain ⟨k, rfl⟩ := Int.eq_ofNat_of_zero_le (by omega : 0 ≤ n)
    have hba : ∀ o, Below W.heap.size W (W.alloc o) := fun o => (Below.refl _ _).alloc (Nat.le_refl _) _
    have HBG := Lib.hid (fun o => begun_any (W.alloc o) (E.below (hba o)) k (by omega) (by omega) A nd c ds hnd hl ((hds.below (hba o)).more (hba o).size))
    have HS := Lib.hid ((HM.new_scr (n := k) (by omega) (by omega)).run ds hds.fit)
    have HML := Lib.hid (runM_len (by omega : 64 ≤ k) (by omega) ds hds.fit)
    clear hds hl hb E hba
    gi_wp2_with fail
    refine ⟨trivial, (callsIn_wide.2 (HM0.out _)).mono ?_⟩
    rintro e w1 ⟨rfl, rfl⟩
    gi_wp2_with fail
    refine ⟨trivial, (callsIn_wide.2 (HBG.out _)).mono ?_⟩
    rintro e w1 ⟨p, g, v, rfl, L1, hown, hap⟩
    obtain ⟨l, s, -, hz, hlen, hisb⟩ := HS.out
    generalize (HM.new k).runH ds = h at *
    generalize (HM.new k).runM ds = ms at *
    obtain ⟨V, hV⟩ : ∃ V, W.alloc (.cells #[.bool false] 4) = V := ⟨_, rfl⟩
    have bR := Boxed.new W 4 (.bool false)
    rw [hV] at L1 hown bR
    have hVW : Below W.heap.size W V := by rw [← hV]; exact (Below.refl _ _).alloc (Nat.le_refl _) _
    have hVs : W.heap.size < V.heap.size := bR.lt
    have HS2 := Lib.hid s
    have HLN := Lib.hid (show ms.length = l.length by simpa using hlen)
    have HIS := Lib.hid hisb
    have HAP := Lib.hid hap
    replace bR := Boxed.below bR L1.below
    have hVs1 := L1.below.size
    have HPH := Lib.hid (show (∀ k, p.has k → k < w1.heap.size) ∧ (∀ k, v.ownBlock = some k → k < w1.heap.size) from ⟨fun k hk => L1.at_.lt hk, fun k hk => (hown.lt k hk).2⟩)
    clear HS HBG HM0 s hz hlen hisb hV hap
    have HL := Lib.hid (show ∀ o, Live V (w1.alloc o) p g h from fun o => L1.after ((Below.refl _ _).alloc (Nat.le_refl _) _))
    gi_wp2_with fail
    have hbox := (Boxed.new w1 25 (ptr g))
    have hown1 := hown.alloc (.cells #[ptr g] 25)
    have bR1 := bR.alloc (.cells #[ptr g] 25)
    refine ⟨trivial, (callsIn_wide.2 (HAW.out _ (HL.out _).envw)).mono ?_⟩
    rintro e w2 ⟨rfl, hb2⟩
    have L2 := (HL.out _).after hb2
    have hown2 := ownsRow_own (β := Unit) 0 _ _ _ _ _ () _ _ none hown1 (grown_of_below hb2) (fun r e => by cases e)
    replace bR := Boxed.below bR1 hb2
    replace hbox := Boxed.below hbox hb2
    clear hown hown1 bR1 HL L1 hb2
    have cH := hbox.cell
    have hlt1 := hbox.lt
    have HLV := Lib.hid (fun o => (L2.after ((Below.refl _ _).alloc (Nat.le_refl _) o)).first)
    unfold ptr at cH
    gi_wp2_with fail
    refine ⟨trivial, (callsIn_wide.2 (HLV.out _)).mono ?_⟩
    rintro e w3 ⟨rfl, rfl⟩
    have hb2 : ∀ o, Below w2.heap.size w2 (w2.alloc o) := fun o => (Below.refl _ _).alloc (Nat.le_refl _) _
    have HR0 := Lib.hid (show RowsSt V W.heap.size w1.heap.size w2.heap.size p g h v ms 1 (h.objM 1) 0 (((w2.alloc (.cells #[.int .i64 1] 3)).alloc (.cells #[.int .u32 (h.objM 1 : Nat)] 31)).alloc (.cells #[.int .i64 0] 3)) from
      ⟨((L2.after (hb2 _)).after ((Below.refl _ _).alloc (Nat.le_refl _) _)).after ((Below.refl _ _).alloc (Nat.le_refl _) _), ((bR.alloc _).alloc _).alloc _, ((hbox.alloc _).alloc _).alloc _, ((Boxed.new w2 _ _).alloc _).alloc _,
        by have := (Boxed.new (w2.alloc (.cells #[.int .i64 1] 3)) 31 (.int .u32 (h.objM 1 : Nat))).alloc (.cells #[.int .i64 0] 3); simpa using this,
        by have := Boxed.new ((w2.alloc (.cells #[.int .i64 1] 3)).alloc (.cells #[.int .u32 (h.objM 1 : Nat)] 31)) 3 (.int .i64 0); simpa using this, ((hown2.alloc _).alloc _).alloc _⟩)
    rw [first_oopI HS2.out.good] at HR0 ⊢
    clear bR hbox hown2 L2 HLV hb2
    have cH3 := HR0.out.hp.cell
    have heq := run_eql_fn
    unfold ptr at cH3
    gi_wp2_with fail
    refine ⟨trivial, (callsIn_wide.2 (all_any g _)).mono ?_⟩
    rintro e w3 ⟨rfl, rfl⟩
    gi_wp2_with fail
    have bA := Boxed.new (((w2.alloc (.cells #[.int .i64 1] 3)).alloc (.cells #[.int .u32 (oopI l 0 : Nat)] 31)).alloc (.cells #[.int .i64 0] 3)) 25 (ptr g)
    simp only [World.size_alloc] at bA
    have HS0 := Lib.hid (HR0.out.below ((Below.refl _ _).alloc (Nat.le_refl _) (.cells #[ptr g] 25)))
    have hW0s : ((((w2.alloc (.cells #[.int .i64 1] 3)).alloc (.cells #[.int .u32 (oopI l 0 : Nat)] 31)).alloc (.cells #[.int .i64 0] 3)).alloc (.cells #[ptr g] 25)).heap.size = w2.heap.size + 1 + 1 + 1 + 1 := by simp
    generalize (((w2.alloc _).alloc _).alloc _).alloc _ = W0 at bA HS0 hW0s ⊢
    unfold ptr at bA
    clear cH cH3 heq HR0
    generalize w2.heap.size = Ba at *
    generalize hBh : w1.heap.size = Bh at *
    have hBhV : V.heap.size ≤ Bh := by omega
    have hRbV : W.heap.size < V.heap.size := hVs
    generalize hRb : W.heap.size = Rb at *
    have HHL := Lib.hid (show HAt W0 p h ∧ Spares W0 ∧ h.Good l ∧ p.g = g from ⟨HS0.out.live.at_, HS0.out.live.envw.spares, HS2.out.good, HS0.out.live.hg⟩)
    have hlt0 := World.block_lt_of_cell? _ _ (HE.out.spares 0 (by omega))
    simp only at hlt0
    rw [hRb] at hlt0
    change Code.wpIn _ _ _ _ _ { tmps := rowsA0 k nd c g Rb Bh Ba (Ba + 1 + 1 + 1) A v (oopI l 0), defers := [] } _
    refine wpIn_rangeFunc_ownH (F := Fence.wide) rfl (by omega) (gf := 58) (lb := #[.pointer (some ⟨Ba + 1 + 1 + 1, 0, none⟩)]) rfl trivial (enters_of Tryd.func58 (by kernel_rfl) rfl)
      (all_stops HHL.out.1 HHL.out.2.2.1 HHL.out.2.1 7 (Ba + 1 + 1 + 1) Rb (by rw [HHL.out.2.2.2]; exact bA.cell) hlt0) KpB.trans (fun W l o o' _ h1 h2 _ => KpB.book W l o o' h1 h2) (Below.refl _ _) (fun _ => rfl)
      (fun pre w => RowsSt V Rb Bh Ba p g h v ms (posOf (l.take pre.length)) (oopI l pre.length) pre.length w ∧ pre = (List.finRange l.length).take pre.length)
      (fun c pre w => c = .ret ∧ ¬ pre <+: List.finRange l.length)
      (OwnFrom.and (RowsSt.own (by omega) (fun (pre : List (Fin l.length)) => posOf (l.take pre.length)) (fun pre => oopI l pre.length) (fun pre => pre.length)) (ownFrom_pure _ _))
      (fun c => ownFrom_pure _ _)
      ⟨HS0.out, rfl⟩
      (fun x a' w => ∃ Bx, Ba + 1 + 1 < Bx ∧ Blk w Bx 52 (l[x.1]'x.2).x.cells ∧ a' = { tmps := rowsA1 k nd c g Rb Bh Ba (Ba + 1 + 1 + 1) A v (oopI l 0) (2 * posOf (l.take x.1)) Bx (l[x.1]'x.2).x.val, defers := [] })
      (fun x a' _ X Y row hs hg hr => by
        obtain ⟨Bx, h1, h2, h3⟩ := hs
        refine ⟨Bx, h1, h2.same (hg.block Bx h2.lt (fun e => ?_)), h3⟩
        obtain ⟨_, o, ho, hc⟩ := hr Bx e.symm
        unfold Blk at h2
        rw [h2] at ho
        injection ho with ho
        subst ho
        simp [Obj.isCells] at hc)
      ?assign ?body ?done ?stop
    case assign =>
      rintro lp pre x w K ⟨S, hp⟩ hK
      have HP := Lib.hid hp
      have HSt := Lib.hid S
      have HK := Lib.hid hK
      clear hK hp S
      rw [show allV l x = #[.int .u32 ((2 * posOf (l.take x.1) : Nat) : Int), .agg #[.int .i64 ((l[x.1]'x.2).x.size : Nat), .int .i64 ((l[x.1]'x.2).x.fmt : Nat), .int .i64 ((l[x.1]'x.2).x.spare : Nat), .int .u32 ((l[x.1]'x.2).x.cls : Nat), .int .u32 ((l[x.1]'x.2).x.ser : Nat)]] from rfl]
      unfold Hd.val Hd.cells at HK
      generalize (l[x.1]'x.2).x = X at *
      generalize 2 * posOf (l.take x.1) = o at *
      unfold rowsA0
      gi_wp2_with fail
      exact HK.out _ _ ((KeepsOthers.alloc _ _).from _) ((KpB.refl _ _ _).alloc _) ⟨HSt.out.below ((Below.refl _ _).alloc (Nat.le_refl _) _), HP.out⟩ ⟨w.heap.size, HSt.out.n.lt, Blk.new w _ _, rfl⟩
    case body =>
      rintro lp pre x a' w hl ⟨r, hr⟩ ⟨S, hp⟩ ⟨Bx, hBx, bX, rfl⟩ hltx
      have G := HHL.out.2.2.1
      obtain ⟨kk, hkk⟩ : ∃ kk, pre.length = kk := ⟨_, rfl⟩
      rw [hkk] at S hp hltx
      have hoo : oopI l kk = 2 * posOf (l.take kk) := by unfold oopI; rw [if_pos hltx]
      rw [hoo] at S
      have hpl := posOf_take_lt G kk hltx
      have hpp := posOf_pos (l.take kk)
      have hroom := G.fit.room
      have hhi := G.fit.hi
      have hB := isB_at G kk hltx
      have HHD := Lib.hid (S.live.header (2 * posOf (l.take kk)) (by omega))
      have hXk : h.hdO (2 * posOf (l.take kk)) = (l[kk]'hltx).x := by unfold HM.hdO; rw [if_pos hB, half_pos]; exact hd_at' G kk hltx
      have hEk : h.isE (2 * posOf (l.take kk)) = 0 := by unfold HM.isE; rw [if_pos hB]
      rw [hXk, hEk] at HHD
      have HP := Lib.hid hp
      have HKK := Lib.hid hkk
      have HS1 := Lib.hid S
      have HBX := Lib.hid bX
      have cH := S.hp.cell
      have cO := S.o.cell
      unfold ptr at cH
      clear hp hkk hoo hXk hEk S
      by_cases hx : x.1 = kk
      · obtain ⟨xv, hxv⟩ := x
        simp only at hx
        subst hx
        have HSN := Lib.hid (HS2.out)
        have hposE : (((2 * posOf (l.take xv) : Nat) : Int) != 2 * ((posOf (l.take xv) : Nat) : Int)) = false := by simp
        have HFN := Lib.hid (findN_at HS2.out xv hxv)
        have HIB := Lib.hid hB
        have HNX := Lib.hid (next_oopI G xv hxv)
        have HX32 := Lib.hid ((G.laid.ok _ (List.getElem_mem hxv)).fit.ser)
        unfold Hd.val at HHD ⊢
        unfold rowsA1
        dsimp only at *
        clear hB
        generalize hX : (l[xv]'hxv).x = X at *
        have HXE := Lib.hid hX
        clear hX
        have HSer := Lib.hid (show (X.ser : Nat) < 4294967296 from HX32.out)
        generalize ho : 2 * posOf (l.take xv) = o at *
        generalize hq : posOf (l.take xv) = q at *
        have HO := Lib.hid (show 2 * q = o from ho)
        have HQ := Lib.hid hq
        clear ho hq
        gi_wp2_with fail
        refine ⟨trivial, (CallsIn.inRound lp (callsIn_wide.2 HHD.out)).mono ?_⟩
        rintro e w3 ⟨rfl, hb3⟩
        have HS3 := Lib.hid (HS1.out.below hb3)
        have HBX3 := Lib.hid (HBX.out.below hb3 HBX.out.lt)
        clear HHD cH cO
        gi_wp2_with fail
        have HS4 := Lib.hid (HS3.out.below ((Below.refl _ w3).alloc (Nat.le_refl _) (.cells #[.int .i64 (X.size : Nat), .int .i64 (X.fmt : Nat), .int .i64 (X.spare : Nat), .int .u32 (X.cls : Nat), .int .u32 (X.ser : Nat)] 52)))
        have HBX4 := Lib.hid (HBX3.out.alloc (.cells #[.int .i64 (X.size : Nat), .int .i64 (X.fmt : Nat), .int .i64 (X.spare : Nat), .int .u32 (X.cls : Nat), .int .u32 (X.ser : Nat)] 52))
        have HBZ4 := Lib.hid (Blk.new w3 52 #[.int .i64 (X.size : Nat), .int .i64 (X.fmt : Nat), .int .i64 (X.spare : Nat), .int .u32 (X.cls : Nat), .int .u32 (X.ser : Nat)])
        have HB34 := Lib.hid (hb3.trans (((Below.refl _ w3).alloc (Nat.le_refl _) (.cells #[.int .i64 (X.size : Nat), .int .i64 (X.fmt : Nat), .int .i64 (X.spare : Nat), .int .u32 (X.cls : Nat), .int .u32 (X.ser : Nat)] 52)).mono hb3.size))
        have hz34 : w.heap.size ≤ w3.heap.size := hb3.size
        clear HS3 HBX3 hb3
        generalize w3.alloc _ = w4 at *
        generalize hBz : w3.heap.size = Bz at *
        have k0 := cell_regrown HS4.out.hp.cell
        have k1 := cell_regrown HS4.out.at_.cell
        have k2 := cell_regrown HS4.out.o.cell
        have kx := HBX4.out.cells5
        have kz := HBZ4.out.cells5
        unfold ptr at k0
        obtain ⟨x0, x1, x2, x3, x4⟩ := kx
        obtain ⟨z0, z1, z2, z3, z4⟩ := kz
        replace x0 := cell_regrown x0
        replace x1 := cell_regrown x1
        replace x2 := cell_regrown x2
        replace x3 := cell_regrown x3
        replace x4 := cell_regrown x4
        replace z0 := cell_regrown z0
        replace z1 := cell_regrown z1
        replace z2 := cell_regrown z2
        replace z3 := cell_regrown z3
        replace z4 := cell_regrown z4
        have HBR := Lib.hid (fun d os => HS4.out.below (below_regrown w4 d os))
        have CN := Lib.hid (fun d os => Calls.regrown_of (w := w4) (d := d) (os := os) ((num_any 0 (by decide) _).mono fun _ _ ⟨h1, h2⟩ => ⟨h1, h2 ▸ Below.refl _ _⟩))
        have CF := Lib.hid (fun d os => Calls.regrown_of (w := w4) (d := d) (os := os) (by
          have := find_any (HBR.out d os).live.at_ G (HBR.out d os).live.envw.spares X.ser HSer.out
          rw [(HBR.out d os).live.hg, HFN.out] at this
          exact this))
        have CI := Lib.hid (fun d os => Calls.regrown_of (w := w4) (d := d) (os := os) (((HBR.out d os).live.is o (by have := HO.out; omega)).mono fun _ _ ⟨h1, h2⟩ => ⟨h1, h2 ▸ Below.refl _ _⟩))
        rw [HIB.out] at CI
        unfold ptr at CF
        replace CN := Lib.hid (show ∀ d os, Calls Tryd.prog 16 #[.int .i64 0] (grow (redrawn w4 d) os) fun e w'' => e = .returned (.int .i64 0) ∧ ∃ p : Regrown, w'' = grow (redrawn w4 p.d) p.os from CN.out)
        have hposW : (IntKind.i64.wrap (o : Int) != IntKind.i64.wrap (2 * (q : Int))) = false := by have := HO.out; rw [IntWalk.i64_in _ (by omega), IntWalk.i64_in _ (by omega)]; simp; omega
        refine wpIn_region_below_tail 33 (by kernel_rfl) (by kernel_rfl) (by kernel_rfl) (by rintro ⟨a, w, hh⟩; exact hh) ?_
        simp only [List.take_succ_cons, List.take_zero, List.drop_succ_cons, List.drop_zero]
        repeat (quiet_step (first | with_reducible exact CN.out _ _ | with_reducible exact CF.out _ _ | with_reducible exact CI.out _ _))
        refine wpQuiet_nil ?_
        intro wq hwq
        obtain ⟨⟨dq, osq⟩, hw''⟩ := hwq
        subst hw''
        have HS5 := Lib.hid (HBR.out dq osq)
        have HBX5 := Lib.hid (show Blk (grow (redrawn w4 dq) osq) Bx 52 X.cells from HBX4.out.below (below_regrown w4 dq osq) HBX4.out.lt)
        have HBZ5 := Lib.hid (Blk.below HBZ4.out (below_regrown w4 dq osq) HBZ4.out.lt)
        have HB5 := Lib.hid (HB34.out.trans ((below_regrown w4 dq osq).mono HB34.out.size))
        clear k0 k1 k2 x0 x1 x2 x3 x4 z0 z1 z2 z3 z4 CN CF CI HBR HBX4 HBZ4 HB34 HS4 hposE hposW bX
        generalize grow (redrawn w4 dq) osq = w5 at *
        have hsz : q + 3 + X.size = posOf (l.take (xv + 1)) := by
          have et : l.take (xv + 1) = l.take xv ++ [l[xv]'hxv] := by rw [List.take_add_one, List.getElem?_eq_getElem hxv]; rfl
          have hs := (G.laid.ok _ (List.getElem_mem hxv)).size
          rw [HXE.out] at hs
          rw [et, posOf_snoc, HQ.out, hs]
        have HSZ := Lib.hid hsz
        have HSZL := Lib.hid (show q + 3 + X.size ≤ 1048576 by
          have L' := G.laid
          have e := split_at l xv hxv
          rw [e] at L'
          have h1 := L'.words_len
          have hs := (G.laid.ok _ (List.getElem_mem hxv)).size
          rw [HXE.out] at hs
          rw [HQ.out] at h1
          omega)
        clear hsz
        have c5H := HS5.out.hp.cell
        have c5A := HS5.out.at_.cell
        have f5A := HS5.out.at_.frozen
        obtain ⟨z0, z1, z2, z3, z4⟩ := HBZ5.out.cells5
        unfold ptr at c5H
        go_wp2_with fail
        obtain ⟨hph, hvh⟩ := HPH.out

        have HS6 := Lib.hid (HS5.out.setAt hph hvh hlt1 hBhV hRbV (q + (3 + X.size)))
        rw [show ((q + (3 + X.size) : Nat) : Int) = (q : Int) + (3 + (X.size : Int)) by omega] at HS6
        have hszl := HSZL.out
        have c6H := HS6.out.hp.cell
        have c6O := HS6.out.o.cell
        unfold ptr at c6H
        gi_wp2_with fail
        have hNV : h.nextN o = oopI l (xv + 1) ∧ h.isE o = 0 := by unfold HM.nextN HM.isE; rw [if_pos HIB.out, if_pos HIB.out, HNX.out]; exact ⟨rfl, rfl⟩
        have HNC := Lib.hid (HS6.out.live.next o (by have := HO.out; omega))
        rw [hNV.1, hNV.2] at HNC
        have hno32 : oopI l (xv + 1) < 4294967296 := by
          unfold oopI
          split
          · rename_i h1; have := posOf_take_lt G (xv + 1) h1; omega
          · omega
        clear hNV c5H c5A f5A z0 z1 z2 z3 z4 c6H c6O hph hvh
        generalize hno : oopI l (xv + 1) = no at *
        have HNO := Lib.hid hno
        clear hno
        refine ⟨trivial, (CallsIn.inRound lp (callsIn_wide.2 HNC.out)).mono ?_⟩
        rintro e w7 ⟨rfl, hb7⟩
        have HS7 := Lib.hid (HS6.out.below hb7)
        have HB7 := Lib.hid hb7
        have c7O := HS7.out.o.cell
        have f7O := HS7.out.o.frozen
        clear HNC hb7
        gi_wp2_with fail
        refine ⟨trivial, (CallsIn.inRound lp (callsIn_wide.2 (show Calls Tryd.prog 16 #[.int .i64 0] w7 (Said (.int .i64 0) w7) from num_any 0 (by decide) w7))).mono ?_⟩
        rintro e w8 ⟨rfl, rfl⟩
        have HS8 := Lib.hid (HS7.out.setO HPH.out.1 HPH.out.2 hlt1 hBhV hRbV no)
        have c8N := HS8.out.n.cell
        have f8N := HS8.out.n.frozen
        have HS9 := Lib.hid (HS8.out.setN HPH.out.1 HPH.out.2 hlt1 hBhV hRbV (xv + 1))
        rw [show ((xv + 1 : Nat) : Int) = (xv : Int) + 1 by omega] at HS9
        have hxvl : xv < 1048576 := by have h1 := posOf_take_lt G xv hxv; have h3 := le_posOf (l := l) xv (by omega); omega
        gi_wp2_with fail
        have e1 : (pre ++ [(⟨xv, hxv⟩ : Fin l.length)]).length = xv + 1 := by simp [HKK.out]
        refine ⟨((keeps_below HB5.out).trans ((KeepsOthers.setCell _ _ _).trans ((keeps_below HB7.out).trans ((KeepsOthers.setCell _ _ _).trans (KeepsOthers.setCell _ _ _))))).from _,
          ((((KpB.of_below HB5.out).setCell (a := ⟨Ba, 0, none⟩) (by simp; omega) (by simp; omega) _).trans (KpB.of_below HB7.out)).setCell (a := ⟨Ba + 1, 0, none⟩) (by simp; omega) (by simp; omega) _).setCell (a := ⟨Ba + 1 + 1, 0, none⟩) (by simp; omega) (by simp; omega) _, ?_, ?_⟩
        · rw [e1, ← HSZ.out, HNO.out, show q + 3 + X.size = q + (3 + X.size) by omega]
          exact HS9.out
        · rw [e1, HP.out]
          exact take_finRange hxv
      · have hne : (((2 * posOf (l.take x.1) : Nat) : Int) != ((2 * posOf (l.take kk) : Nat) : Int)) = true := by
          have : posOf (l.take x.1) ≠ posOf (l.take kk) := fun e => hx (posOf_take_inj x.2 hltx e)
          simp; omega
        unfold Hd.val at HHD ⊢
        unfold rowsA1
        clear hB
        generalize (l[kk]'hltx).x = Xk at *
        generalize (l[x.1]'x.2).x = Xx at *
        generalize 2 * posOf (l.take x.1) = ox at *
        generalize ho : 2 * posOf (l.take kk) = o at *
        have HO := Lib.hid ho
        clear ho
        gi_wp2_with fail
        refine ⟨trivial, (CallsIn.inRound lp (callsIn_wide.2 HHD.out)).mono ?_⟩
        rintro e w3 ⟨rfl, hb3⟩
        have HS3 := Lib.hid (HS1.out.below hb3)
        have HBX3 := Lib.hid (HBX.out.below hb3 HBX.out.lt)
        have HB3 := Lib.hid hb3
        clear HHD cH cO hb3
        gi_wp2_with fail
        have HS4 := Lib.hid (HS3.out.below ((Below.refl _ w3).alloc (Nat.le_refl _) (.cells #[.int .i64 (Xk.size : Nat), .int .i64 (Xk.fmt : Nat), .int .i64 (Xk.spare : Nat), .int .u32 (Xk.cls : Nat), .int .u32 (Xk.ser : Nat)] 52)))
        have HB34 := Lib.hid (HB3.out.trans (((Below.refl _ w3).alloc (Nat.le_refl _) (.cells #[.int .i64 (Xk.size : Nat), .int .i64 (Xk.fmt : Nat), .int .i64 (Xk.spare : Nat), .int .u32 (Xk.cls : Nat), .int .u32 (Xk.ser : Nat)] 52)).mono HB3.out.size))
        clear HS3 HBX3 HB3
        generalize w3.alloc _ = w4 at *
        have k2 := cell_regrown HS4.out.o.cell
        have HBR := Lib.hid (fun d os => HS4.out.below (below_regrown w4 d os))
        refine wpIn_region_below_tail 33 (by kernel_rfl) (by kernel_rfl) (by kernel_rfl) (by rintro ⟨a, w, hh⟩; exact hh) ?_
        simp only [List.take_succ_cons, List.take_zero, List.drop_succ_cons, List.drop_zero]
        repeat (quiet_step (fail))
        refine wpQuiet_nil ?_
        intro wq hwq
        obtain ⟨⟨dq, osq⟩, hw''⟩ := hwq
        subst hw''
        have HS5 := Lib.hid (HBR.out dq osq)
        have HB5 := Lib.hid (HB34.out.trans ((below_regrown w4 dq osq).mono HB34.out.size))
        clear k2 HBR HB34 HS4
        generalize grow (redrawn w4 dq) osq = w5 at *
        have cR3 := HS5.out.res.cell
        have fR3 := HS5.out.res.frozen
        go_wp2_with fail
        gi_wp2_with fail
        refine ⟨((keeps_below HB5.out).trans (KeepsOthers.setCell _ _ _)).from _, rfl, fun hpre => hx ?_⟩
        obtain ⟨rr, hrr⟩ := hpre
        have h1 : (pre ++ [x] ++ rr)[kk]? = some x := by
          rw [List.append_assoc, List.getElem?_append_right (by rw [HKK.out]; exact Nat.le_refl _), HKK.out]; simp
        rw [hrr, List.getElem?_eq_getElem (by simpa using hltx)] at h1
        simp at h1
        rw [← h1]
    case done =>
      rintro D xs w hD rfl ⟨S, -⟩ hK
      rw [List.length_finRange] at S
      have G := HHL.out.2.2.1
      have hpl : posOf (l.take l.length) = h.words.length := by rw [List.take_of_length_le (Nat.le_refl _), G.laid.words, List.length_cons, posOf]; omega
      have hol : oopI l l.length = 0 := by unfold oopI; rw [if_neg (by omega)]
      rw [hpl, hol, ← HLN.out] at S
      clear hpl hol
      have hroom := G.fit.room
      have hhi := G.fit.hi
      have hml := HML.out
      have k0 := cell_regrown S.hp.cell
      have k1 := cell_regrown S.at_.cell
      have k2 := cell_regrown S.o.cell
      have k3 := cell_regrown S.n.cell
      have HBR := Lib.hid (fun d os => S.below (below_regrown w d os))
      have CT := Lib.hid (fun d os => Calls.regrown_of (w := w) (d := d) (os := os) ((HBR.out d os).live.top.mono fun _ _ ⟨h1, h2⟩ => ⟨h1, h2 ▸ Below.refl _ _⟩))
      unfold ptr at k0
      have HK := Lib.hid hK
      have HS := Lib.hid S
      have HV := Lib.hid (show ∃ A2 c2, v = .slice A2 ms.length c2 from by
        rcases S.made.2 with ⟨h1, h2⟩ | ⟨g', cap, cur, h1, _⟩
        · exact ⟨none, 0, by rw [h1, h2]⟩
        · exact ⟨_, _, h1⟩)
      obtain ⟨A2, c2, hv2⟩ := HV.out
      have HVE := Lib.hid hv2
      clear hK S HV
      unfold rowsA0
      rw [hv2]
      clear hv2
      generalize h.words.length = N at *
      generalize hM : ms.length = M at *
      have HMM := Lib.hid hM
      clear hM
      gi_wp2_with fail
      refine wpIn_wide.2 ?_
      refine wp_region_below_tail 13 (by kernel_rfl) (by kernel_rfl) ?_
      simp only [List.take_succ_cons, List.take_zero, List.drop_succ_cons, List.drop_zero]
      repeat (quiet_step (with_reducible exact CT.out _ _))
      refine wpQuiet_nil ?_
      intro wq hwq
      obtain ⟨⟨dq, osq⟩, hw''⟩ := hwq
      subst hw''
      have HS5 := Lib.hid (show RowsSt V Rb Bh Ba p g h v ms N 0 M (grow (redrawn w dq) osq) from HBR.out dq osq)
      have HD5 := Lib.hid (show (grow (redrawn w dq) osq).heap[D]? = some (.deferred (some [])) from (below_regrown w dq osq).block D (lt_of_get HK.out) |>.trans HK.out)
      clear k0 k1 k2 k3 CT HBR HS HK HPH
      generalize grow (redrawn w dq) osq = w5 at *
      have c5R := HS5.out.res.cell
      have f5R := HS5.out.res.frozen
      go_wp2_with fail
      gi_wp2_with fail
      gi_loopw [16] (fun p wr => ∃ j : Nat, p = .int .i64 (j : Int) ∧ j ≤ M ∧ RowsSt V Rb Bh Ba (‹HP›) g h v ms N 0 M wr ∧ wr.heap[D]? = some (.deferred (some []))) (fun p wr => M - (match p with | .int _ j => j.toNat | _ => 0))
      case atStart => exact ⟨0, rfl, by omega, HS5.out, HD5.out⟩
      case round =>
        obtain ⟨j, rfl, hj, S6, hK6⟩ := hrel
        have HS6 := Lib.hid S6
        have HK6 := Lib.hid hK6
        clear hK6 S6
        rcases Nat.lt_or_ge j M with hlt | hge
        · have hjt : decide ((j : Int) < (M : Int)) = true := by simp; omega
          obtain ⟨g2, c3, hv3, hrow, hlen3, -⟩ := Row.of_any HS6.out.made (by rw [HMM.out]; omega)
          rw [HMM.out, HVE.out] at hv3
          injection hv3 with ha1 ha2 ha3
          subst ha1 ha3
          clear ha2 hlen3
          obtain ⟨o, hoe⟩ : ∃ o, ms[j]? = some o := ⟨_, List.getElem?_eq_getElem (by rw [HMM.out]; exact hlt)⟩
          have hob := HIS.out o (List.mem_of_getElem? hoe)
          have ho32 : o < 4294967296 := by
            have h1 := HM.isB_lt hob
            have h2 := G.fit.marks
            have h3 := G.fit.room
            have h4 := G.fit.hi
            omega
          have hcm := hrow.cell (i := j) (u := .int .u32 (o : Int)) (by simp [u32s, hoe])
          have k0 := cell_regrown HS6.out.hp.cell
          have k1 := cell_regrown hcm
          have HBR := Lib.hid (fun d os => HS6.out.below (below_regrown wr d os))
          have CI := Lib.hid (fun d os => Calls.regrown_of (w := wr) (d := d) (os := os) (((HBR.out d os).live.is o ho32).mono fun _ _ ⟨h1, h2⟩ => ⟨h1, h2 ▸ Below.refl _ _⟩))
          rw [hob] at CI
          unfold ptr at k0
          clear hrow hcm hoe hob
          gi_wp2_with fail
          refine wpIn_wide.2 ?_
          refine wp_region_below_tail 6 (by kernel_rfl) (by kernel_rfl) ?_
          simp only [List.take_succ_cons, List.take_zero, List.drop_succ_cons, List.drop_zero]
          repeat (quiet_step (with_reducible exact CI.out _ _))
          refine wpQuiet_nil ?_
          intro wq hwq
          obtain ⟨⟨dq, osq⟩, hw''⟩ := hwq
          subst hw''
          have HS7 := Lib.hid (show RowsSt V Rb Bh Ba p g h v ms N 0 M (grow (redrawn wr dq) osq) from HBR.out dq osq)
          have HK7 := Lib.hid (show (grow (redrawn wr dq) osq).heap[D]? = some (.deferred (some [])) from (below_regrown wr dq osq).block D (lt_of_get HK6.out) |>.trans HK6.out)
          clear k0 k1 CI HBR HS6 HK6
          generalize grow (redrawn wr dq) osq = w7 at *
          go_wp2_with fail
          gi_wp2_with fail
          go_roundw
          case rel => exact ⟨j + 1, by simp, by omega, HS7.out, HK7.out⟩
          case measure =>
            show M - ((j : Int) + 1).toNat < M - (j : Int).toNat
            omega
        · obtain rfl : j = M := by omega
          have hjt : decide ((j : Int) < (j : Int)) = false := by simp
          have c6H := HS6.out.hp.cell
          unfold ptr at c6H
          gi_wp2_with fail
          refine ⟨trivial, (callsIn_wide.2 (all_any g _)).mono ?_⟩
          rintro e w7 ⟨rfl, rfl⟩
          gi_wp2_with fail
          have hDw := lt_of_get HK6.out
          have HD8 := Lib.hid (show (wr.alloc (.cells #[ptr g] 25)).heap[D]? = some (.deferred (some [])) from (Below.heap_alloc wr _ D hDw).trans HK6.out)
          have HS8 := Lib.hid (HS6.out.below ((Below.refl _ wr).alloc (Nat.le_refl _) (.cells #[ptr g] 25)))
          have bAll := Boxed.new wr 25 (ptr g)
          have hsz8 : (wr.alloc (.cells #[ptr g] 25)).heap.size = wr.heap.size + 1 := by simp
          have hBaw : Ba + 1 + 1 + 1 < wr.heap.size := by omega
          generalize wr.alloc _ = W8 at *
          clear c6H HS6 HK6 HS5 HD5 c5R f5R hjt hge hj
          generalize wr.heap.size = Bw at *
          have HHL8 := Lib.hid (show HAt W8 p h ∧ Spares W8 ∧ h.Good l ∧ p.g = g from ⟨HS8.out.live.at_, HS8.out.live.envw.spares, HS2.out.good, HS8.out.live.hg⟩)
          change Code.wpIn _ _ _ _ _ { tmps := rowsB k nd c g Rb Bh Ba j c2 (oopI l 0) N Bw A A2 u119 u120 u121 u122 u123 u124 u125 u126 u127 undef undef undef undef undef undef undef undef undef undef undef, defers := [{ target := .collected D, args := #[] }] } _
          refine wpIn_rangeFunc_ownH (F := Fence.wide) rfl (by omega) (gf := 58) (lb := #[.pointer (some ⟨Bw, 0, none⟩)]) rfl trivial (enters_of Tryd.func58 (by kernel_rfl) rfl)
            (all_stops HHL8.out.1 HHL8.out.2.2.1 HHL8.out.2.1 7 Bw Rb (by rw [HHL8.out.2.2.2]; exact bAll.cell) hlt0) KpB.trans (fun W l o o' _ h1 h2 _ => KpB.book W l o o' h1 h2) (Below.refl _ _) (fun _ => rfl)
            (fun _ w => RowsSt V Rb Bh Ba p g h v ms N 0 j w ∧ w.heap[D]? = some (.deferred (some [])) ∧ Boxed w Bw 25 (ptr g))
            (fun c _ w => c = .exit 4 ∧ RowsSt V Rb Bh Ba p g h v ms N 0 j w ∧ w.heap[D]? = some (.deferred (some [])))
            (OwnFrom.and (RowsSt.own (by omega) (fun _ => N) (fun _ => 0) (fun _ => j)) (OwnFrom.and (heap_own (by omega)) (Own.from (boxed_own _ _ (fun _ => ptr g)) _)))
            (fun c => OwnFrom.and (ownFrom_pure _ _) (OwnFrom.and (RowsSt.own (by omega) (fun _ => N) (fun _ => 0) (fun _ => j)) (heap_own (by omega))))
            ⟨HS8.out, HD8.out, bAll⟩
            (fun x a' w => ∃ Bx, Bw < Bx ∧ Boxed w Bx 31 (.int .u32 ((2 * posOf (l.take x.1) : Nat) : Int)) ∧ a' = { tmps := rowsB k nd c g Rb Bh Ba j c2 (oopI l 0) N Bw A A2 u119 u120 u121 u122 u123 u124 u125 u126 u127 (.pointer (some ⟨Bx, 0, none⟩)) undef (.int .u32 ((2 * posOf (l.take x.1) : Nat) : Int)) (l[x.1]'x.2).x.val undef undef undef undef undef undef undef, defers := [] })
            (fun x a' _ X Y row hs hg hr => by obtain ⟨Bx, h1, h2, h3⟩ := hs; exact ⟨Bx, h1, boxed_own Bx _ (fun (_ : Unit) => Value.int .u32 ((2 * posOf (l.take x.1) : Nat) : Int)) () X Y row h2 hg (fun r e => (hr r e).2), h3⟩)
            ?assign1 ?body1 ?done1 ?stop1
          case assign1 =>
            rintro lp pre x w K ⟨S, hKD, bW⟩ hK
            have HSt := Lib.hid S
            have HK := Lib.hid hK
            have HKD := Lib.hid hKD
            have hBw2 := bW.lt
            have HBW := Lib.hid bW
            clear hK hKD S bW
            rw [show allV l x = #[.int .u32 ((2 * posOf (l.take x.1) : Nat) : Int), (l[x.1]'x.2).x.val] from rfl]
            generalize (l[x.1]'x.2).x.val = X at *
            generalize 2 * posOf (l.take x.1) = o at *
            unfold rowsB
            gi_wp2_with fail
            exact HK.out _ _ ((KeepsOthers.alloc _ _).from _) ((KpB.refl _ _ _).alloc _) ⟨HSt.out.below ((Below.refl _ _).alloc (Nat.le_refl _) _), (Below.heap_alloc w _ D (lt_of_get HKD.out)).trans HKD.out, HBW.out.alloc _⟩ ⟨w.heap.size, hBw2, Boxed.new w _ _, rfl⟩
          case body1 =>
            rintro lp pre x a' w hl ⟨r, hr⟩ ⟨S, hKD, -⟩ ⟨Bx, hBx, bX, rfl⟩ hltx
            have c9H := S.hp.cell
            unfold ptr at c9H
            have HS9 := Lib.hid S
            have HKD := Lib.hid hKD
            have HBX := Lib.hid bX
            clear S hKD bX
            generalize (l[x.1]'x.2).x.val = X at *
            unfold rowsB
            gi_wp2_with fail
            refine ⟨trivial, (CallsIn.inRound lp (callsIn_wide.2 (all_any g _))).mono ?_⟩
            rintro e w7 ⟨rfl, rfl⟩
            gi_wp2_with fail
            have hls := lt_of_get hr
            have hlD := lt_of_get HKD.out
            have hBxw := HBX.out.lt
            have hr9 : (w.alloc (.cells #[ptr g] 25)).heap[lp]? = some (.loop r) := (Below.heap_alloc w _ lp hls).trans hr
            have HK9 := Lib.hid (show (w.alloc (.cells #[ptr g] 25)).heap[D]? = some (.deferred (some [])) from (Below.heap_alloc w _ D hlD).trans HKD.out)
            have HS10 := Lib.hid (HS9.out.below ((Below.refl _ w).alloc (Nat.le_refl _) (.cells #[ptr g] 25)))
            have HBX9 := Lib.hid (HBX.out.alloc (.cells #[ptr g] 25))
            have bAll9 := Boxed.new w 25 (ptr g)
            have hsz9 : (w.alloc (.cells #[ptr g] 25)).heap.size = w.heap.size + 1 := by simp
            have HKF := Lib.hid (show KeepsFrom W8.heap.size w (w.alloc (.cells #[ptr g] 25)) from (KeepsOthers.alloc _ _).from _)
            generalize w.alloc _ = w9 at *
            generalize hBv : w.heap.size = Bv at *
            have HHL9 := Lib.hid (show HAt w9 p h ∧ Spares w9 ∧ h.Good l ∧ p.g = g from ⟨HS10.out.live.at_, HS10.out.live.envw.spares, HS2.out.good, HS10.out.live.hg⟩)
            clear c9H HS9 HKD HBX
            change Code.wpIn _ _ _ _ _ { tmps := rowsB k nd c g Rb Bh Ba j c2 (oopI l 0) N Bw A A2 u119 u120 u121 u122 u123 u124 u125 u126 u127 (.pointer (some ⟨Bx, 0, none⟩)) undef (.int .u32 ((2 * posOf (l.take x.1) : Nat) : Int)) X (ptr g) (.func (.func 58) #[] #[.pointer (some ⟨Bv, 0, none⟩)]) undef undef undef undef undef, defers := [] } _
            refine wpIn_rangeFunc_ownN (l₀ := lp) (r₀ := r) (F := Fence.wide.inRound lp) rfl hr9 (by omega) (gf := 58) (lb := #[.pointer (some ⟨Bv, 0, none⟩)]) rfl trivial (enters_of Tryd.func58 (by kernel_rfl) rfl)
              ((all_stops HHL9.out.1 HHL9.out.2.2.1 HHL9.out.2.1 5 Bv Rb (by rw [HHL9.out.2.2.2]; exact bAll9.cell) hlt0).inRound lp) KpB.trans (fun W l o o' _ h1 h2 _ => KpB.book W l o o' h1 h2) (Below.refl _ _) (fun _ => rfl)
              (fun _ w' => RowsSt V Rb Bh Ba p g h v ms N 0 j w' ∧ w'.heap[D]? = some (.deferred (some [])) ∧ Boxed w' Bx 31 (.int .u32 ((2 * posOf (l.take x.1) : Nat) : Int)) ∧ KeepsFrom W8.heap.size w w')
              (fun c _ w' => c = .exit 6 ∧ RowsSt V Rb Bh Ba p g h v ms N 0 j w' ∧ w'.heap[D]? = some (.deferred (some [])) ∧ Boxed w' Bx 31 (.int .u32 ((2 * posOf (l.take x.1) : Nat) : Int)) ∧ KeepsFrom W8.heap.size w w')
              (OwnFrom.and (RowsSt.own (by omega) (fun _ => N) (fun _ => 0) (fun _ => j)) (OwnFrom.and (heap_own (by omega)) (OwnFrom.and (Own.from (boxed_own _ _ (fun _ => Value.int .u32 ((2 * posOf (l.take x.1) : Nat) : Int))) _) (ownFrom_keepsFrom (by omega)))))
              (fun c => OwnFrom.and (ownFrom_pure _ _) (OwnFrom.and (RowsSt.own (by omega) (fun _ => N) (fun _ => 0) (fun _ => j)) (OwnFrom.and (heap_own (by omega)) (OwnFrom.and (Own.from (boxed_own _ _ (fun _ => Value.int .u32 ((2 * posOf (l.take x.1) : Nat) : Int))) _) (ownFrom_keepsFrom (by omega))))))
              ⟨HS10.out, HK9.out, HBX9.out, HKF.out⟩
              (fun y a' _ => a' = { tmps := rowsB k nd c g Rb Bh Ba j c2 (oopI l 0) N Bw A A2 u119 u120 u121 u122 u123 u124 u125 u126 u127 (.pointer (some ⟨Bx, 0, none⟩)) (.int .u32 ((2 * posOf (l.take y.1) : Nat) : Int)) (.int .u32 ((2 * posOf (l.take x.1) : Nat) : Int)) X (ptr g) (.func (.func 58) #[] #[.pointer (some ⟨Bv, 0, none⟩)]) (.int .u32 ((2 * posOf (l.take y.1) : Nat) : Int)) (l[y.1]'y.2).x.val undef undef undef, defers := [] })
              (fun _ _ _ _ _ _ hs _ _ => hs)
              ?assign2 ?body2 ?done2 ?stop2
            case assign2 =>
              rintro l2 pre' y w' K hi hK
              have HI := Lib.hid hi
              have HK := Lib.hid hK
              clear hK hi
              rw [show allV l y = #[.int .u32 ((2 * posOf (l.take y.1) : Nat) : Int), (l[y.1]'y.2).x.val] from rfl]
              generalize (l[y.1]'y.2).x.val = Y at *
              generalize 2 * posOf (l.take y.1) = oy at *
              unfold rowsB
              gi_wp2_with fail
              exact HK.out _ _ (KeepsFrom.refl _ _) (KpB.refl _ _ _) HI.out rfl
            case body2 =>
              rintro l2 pre' y a' w' _ _ ⟨S, hKD, bX, hKF⟩ rfl _
              have cX := bX.cell
              have HI := Lib.hid (show RowsSt V Rb Bh Ba p g h v ms N 0 j w' ∧ w'.heap[D]? = some (.deferred (some [])) ∧ Boxed w' Bx 31 (.int .u32 ((2 * posOf (l.take x.1) : Nat) : Int)) ∧ KeepsFrom W8.heap.size w w' from ⟨S, hKD, bX, hKF⟩)
              clear S hKD bX hKF
              generalize (l[y.1]'y.2).x.val = Y at *
              generalize 2 * posOf (l.take y.1) = oy at *
              generalize 2 * posOf (l.take x.1) = ox at *
              unfold rowsB
              by_cases hxy : oy = ox
              · have hq : ((oy : Int) == (ox : Int)) = true := by simp; omega
                gi_wp2_with fail
                exact ⟨KeepsFrom.refl _ _, rfl, HI.out⟩
              · have hq : ((oy : Int) == (ox : Int)) = false := by simp; omega
                gi_wp2_with fail
                exact ⟨KeepsFrom.refl _ _, KpB.refl _ _ _, HI.out⟩
            case done2 =>
              rintro xs' w' rfl ⟨S, hKD, bX, hKF⟩
              have HI := Lib.hid (show RowsSt V Rb Bh Ba p g h v ms N 0 j w' ∧ w'.heap[D]? = some (.deferred (some [])) ∧ KeepsFrom W8.heap.size w w' from ⟨S, hKD, hKF⟩)
              clear S hKD bX hKF
              unfold rowsB
              gi_wp2_with fail
              exact ⟨HI.out.2.2, rfl, HI.out.1, HI.out.2.1⟩
            case stop2 =>
              rintro c' pre' w' _ ⟨rfl, S, hKD, bX, hKF⟩
              have HI := Lib.hid (show RowsSt V Rb Bh Ba p g h v ms N 0 j w' ∧ w'.heap[D]? = some (.deferred (some [])) ∧ KeepsFrom W8.heap.size w w' from ⟨S, hKD, hKF⟩)
              clear S hKD bX hKF
              unfold rowsB
              gi_wp2_with fail
              exact ⟨HI.out.2.2, rfl, HI.out.1, HI.out.2.1⟩
          case done1 =>
            rintro D2 xs w hD2 rfl ⟨S, hKD, -⟩ hK
            have HSz := Lib.hid S
            have HKz := Lib.hid hKD
            have HK2 := Lib.hid hK
            have cR := S.res.cell
            have fR := S.res.frozen
            clear S hKD hK
            unfold rowsB
            gi_wp2_with fail
            have hKa := (KeepsOthers.setCell w ⟨Rb, 0, none⟩ (.bool true)).same D2 _ HK2.out rfl
            have hKc := (KeepsOthers.setCell w ⟨Rb, 0, none⟩ (.bool true)).same D _ HKz.out rfl
            have hKb := ((grownBy_putObj' (w.setCell ⟨Rb, 0, none⟩ (.bool true)) D2 (.deferred none)).block D (lt_of_get hKc) (fun e => by injection e with e; omega)).trans hKc
            have hb2 := HSz.out.res.set (.bool true)
            have hc2 := cell_kept hb2.cell (grownBy_putObj' _ D2 (.deferred none)) (fun r e => by cases e; exact ⟨_, hKa, rfl⟩)
            have hc := cell_kept hc2 (grownBy_putObj' _ D (.deferred none)) (fun r e => by cases e; exact ⟨_, hKb, rfl⟩)
            have hB1 := (hVW.trans (HSz.out.live.below.mono (by omega))).setCell (p := ⟨Rb, 0, none⟩) (Nat.le_refl _) (.bool true)
            refine ⟨by simp, .inl ⟨_, _, rfl, run_takeDeferred hKa, by simp, .inl ⟨_, _, rfl, run_takeDeferred hKb, ?_⟩⟩⟩
            refine ⟨.bool true, by simp [results, Tryd.results7, go_sem, hc], rfl, ?_⟩
            rw [hRb]
            exact (hB1.trans (belowK_b (w := W) (by omega) _ D2 _ _ (by omega) hKa rfl rfl)).trans (belowK_b (w := W) (by omega) _ D _ _ (by omega) hKb rfl rfl)
          case stop1 =>
            rintro D2 c pre w hD2 hp ⟨rfl, S, hKD⟩ hK
            have HSz := Lib.hid S
            have HKz := Lib.hid hKD
            have HK2 := Lib.hid hK
            have cR := S.res.cell
            have fR := S.res.frozen
            clear S hKD hK
            unfold rowsB
            gi_wp2_with fail
            have hKa := (KeepsOthers.setCell w ⟨Rb, 0, none⟩ (.bool true)).same D2 _ HK2.out rfl
            have hKc := (KeepsOthers.setCell w ⟨Rb, 0, none⟩ (.bool true)).same D _ HKz.out rfl
            have hKb := ((grownBy_putObj' (w.setCell ⟨Rb, 0, none⟩ (.bool true)) D2 (.deferred none)).block D (lt_of_get hKc) (fun e => by injection e with e; omega)).trans hKc
            have hb2 := HSz.out.res.set (.bool true)
            have hc2 := cell_kept hb2.cell (grownBy_putObj' _ D2 (.deferred none)) (fun r e => by cases e; exact ⟨_, hKa, rfl⟩)
            have hc := cell_kept hc2 (grownBy_putObj' _ D (.deferred none)) (fun r e => by cases e; exact ⟨_, hKb, rfl⟩)
            have hB1 := (hVW.trans (HSz.out.live.below.mono (by omega))).setCell (p := ⟨Rb, 0, none⟩) (Nat.le_refl _) (.bool true)
            refine ⟨by simp, .inl ⟨_, _, rfl, run_takeDeferred hKa, by simp, .inl ⟨_, _, rfl, run_takeDeferred hKb, ?_⟩⟩⟩
            refine ⟨.bool true, by simp [results, Tryd.results7, go_sem, hc], rfl, ?_⟩
            rw [hRb]
            exact (hB1.trans (belowK_b (w := W) (by omega) _ D2 _ _ (by omega) hKa rfl rfl)).trans (belowK_b (w := W) (by omega) _ D _ _ (by omega) hKb rfl rfl)
    case stop =>
      rintro D c pre w hD hp ⟨rfl, hn⟩ hK
      exact absurd hp hn
  · rw [show mayB n = false by simpa using hb] at HM0
    have hba : ∀ o, Below W.heap.size W (W.alloc o) := fun o => (Below.refl _ _).alloc (Nat.le_refl _) _
    have HEA := Lib.hid (fun o => E.below (hba o))
    clear hds E hb hba
    gi_wp2_with fail
    refine ⟨trivial, (callsIn_wide.2 (HM0.out _)).mono ?_⟩
    rintro e w1 ⟨rfl, rfl⟩
    gi_wp2_with fail
    refine ⟨trivial, (callsIn_wide.2 (HAW.out _ (HEA.out _))).mono ?_⟩
    rintro e w2 ⟨rfl, hb2⟩
    have bR := Boxed.kept (Boxed.new W 4 (.bool false)) (row := none) ⟨hb2.os, hb2.tape, hb2.output, hb2.size, fun k hk _ => hb2.block k hk⟩ (by simp)
    have cR := bR.cell
    have fR := bR.frozen
    have hlt := bR.lt
    have HB := Lib.hid (below_top ((Below.refl _ W).alloc (Nat.le_refl _) _) hb2)
    clear hb2
    gi_wp2_with fail
    have hc := (bR.set (.bool true)).cell
    exact ⟨.bool true, by simp [results, Tryd.results7, go_sem, hc], rfl, HB.out.setCell (p := ⟨W.heap.size, 0, none⟩) (Nat.le_refl _) _⟩
end Go.Proofs.YtkpjkbkglnabiaaDoor
