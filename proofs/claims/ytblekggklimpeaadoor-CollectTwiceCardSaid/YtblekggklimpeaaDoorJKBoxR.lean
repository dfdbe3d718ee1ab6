/- A row of oops that grows behind a box, in the body of a loop over All. -/
/- append onto a row of the call's own, inside a fence. -/
/- slices.Contains at oops. -/
import Derived.Test.YtblekggklimpeaaDoorJKPlan
import Derived.Test.YtblekggklimpeaaDoorJAll
import Derived.Test.YtblekggklimpeaaDoorJMem
import Derived.Test.YtblekggklimpeaaDoorJLook
import Derived.OwnWalkIn
set_option linter.unusedVariables false
set_option linter.unusedSectionVars false
namespace Go.Proofs.YtblekggklimpeaaDoor
open Go.RowKit
attribute [local go_sem] Oper.semAt_some
/-- The box's slice has the block k of its own. -/
def Hat (w : World) (b k : Nat) : Prop := ∃ v, w.cell? ⟨b, 0, none⟩ = some v ∧ v.ownBlock = some k
structure KpR (m0 n0 b : Nat) (A B : World) : Prop where
  os : B.os = A.os
  tape : B.tape = A.tape
  output : B.output = A.output
  size : A.heap.size ≤ B.heap.size
  cells : ∀ k cs t fr, k < m0 ∨ n0 ≤ k → ¬ Hat A b k → A.heap[k]? = some (.cells cs t fr) → B.heap[k]? = some (.cells cs t fr)
  box : ∀ k, Hat B b k → k < A.heap.size → Hat A b k
theorem KpR.trans {m0 n0 b : Nat} {A B C : World} (h : KpR m0 n0 b A B) (k : KpR m0 n0 b B C) : KpR m0 n0 b A C :=
  ⟨k.os.trans h.os, k.tape.trans h.tape, k.output.trans h.output, Nat.le_trans h.size k.size,
    fun j cs t fr hj hn ha => k.cells j cs t fr hj (fun hb => hn (h.box j hb (lt_of_get ha))) (h.cells j cs t fr hj hn ha),
    fun j hc hj => h.box j (k.box j hc (Nat.lt_of_lt_of_le hj h.size)) hj⟩
theorem KpR.book {m0 n0 b : Nat} (W : World) (l : Nat) (o o' : Obj) (hb : b < l) (h : W.heap[l]? = some o) (hc : o.isCells = false) : KpR m0 n0 b W (W.putObj l o') := by
  have hg := grownBy_putObj' W l o'
  have hk : ∀ (k : Nat) (cs : Array Value) (t : TypeId) (fr : Nat × Nat), W.heap[k]? = some (Obj.cells cs t fr) → (W.putObj l o').heap[k]? = some (Obj.cells cs t fr) := fun k cs t fr hk => by
    have hne : k ≠ l := by rintro rfl; rw [hk] at h; injection h with h; subst h; simp [Obj.isCells] at hc
    exact (hg.block k (lt_of_get hk) (fun e => hne (by injection e))).trans hk
  refine ⟨rfl, rfl, rfl, by simp, fun k cs t fr _ _ h1 => hk k cs t fr h1, fun k ⟨v, hv, ho⟩ _ => ⟨v, ?_, ho⟩⟩
  rw [← hv]
  have hbl : b < W.heap.size := Nat.lt_trans hb (lt_of_get h)
  exact (World.cell?_of_block (a := ⟨b, 0, none⟩) (hg.block b hbl (fun e => by injection e with e; omega))).symm
def SafeR (m0 n0 b : Nat) (A : World) (k : Nat) : Prop := (k < m0 ∨ n0 ≤ k) ∧ b < A.heap.size ∧ ¬ Hat A b k
theorem SafeR.step {m0 n0 b : Nat} {A B : World} {k : Nat} {cs : Array Value} {t : TypeId} {fr : Nat × Nat} (h : KpR m0 n0 b A B) (s : SafeR m0 n0 b A k) (ha : A.heap[k]? = some (.cells cs t fr)) :
    B.heap[k]? = some (.cells cs t fr) ∧ SafeR m0 n0 b B k :=
  ⟨h.cells k cs t fr s.1 s.2.2 ha, s.1, Nat.lt_of_lt_of_le s.2.1 h.size, fun hb => s.2.2 (h.box k hb (lt_of_get ha))⟩
theorem Hat.below {A B : World} {b k : Nat} (h : Below A.heap.size A B) (hb : b < A.heap.size) : Hat B b k ↔ Hat A b k := by
  unfold Hat
  rw [World.cell?_of_block (a := ⟨b, 0, none⟩) (h.block b hb)]
theorem SafeR.below {m0 n0 b : Nat} {A B : World} {k : Nat} (h : Below A.heap.size A B) (s : SafeR m0 n0 b A k) : SafeR m0 n0 b B k :=
  ⟨s.1, Nat.lt_of_lt_of_le s.2.1 h.size, fun hb => s.2.2 ((Hat.below h s.2.1).1 hb)⟩
theorem SafeR.new {m0 b : Nat} {W0 W : World} {k : Nat} (hb : Blk W0 b 23 #[.slice none 0 0]) (h : Below W0.heap.size W0 W) (hk : k < m0 ∨ W0.heap.size ≤ k) : SafeR m0 W0.heap.size b W k := by
  refine ⟨hk, Nat.lt_of_lt_of_le hb.lt h.size, fun ⟨v, hv, ho⟩ => ?_⟩
  have h1 : W.cell? ⟨b, 0, none⟩ = some (.slice none 0 0) := (hb.below h hb.lt).cell 0
  rw [hv] at h1
  injection h1 with h1
  subst h1
  cases ho
/-- What the body keeps: all that lay ahead of the loop but the box, whose row grows. -/
structure BoxR (W0 : World) (b : Nat) (xs : List Nat) (v : Value) (W : World) : Prop where
  os : W.os = W0.os
  tape : W.tape = W0.tape
  output : W.output = W0.output
  size : W0.heap.size ≤ W.heap.size
  low : ∀ k, k < W0.heap.size → k ≠ b → W.heap[k]? = W0.heap[k]?
  box : Blk W b 23 #[v]
  own : W.ownsRow W0.heap.size 41 1 v xs.length (u32s xs)
  hb : b < W0.heap.size
section
variable {W0 W W1 Wx : World} {b m0 : Nat} {xs : List Nat} {v v' : Value}
theorem BoxR.start (hb : Blk W0 b 23 #[.slice none 0 0]) : BoxR W0 b [] (.slice none 0 0) W0 :=
  ⟨rfl, rfl, rfl, Nat.le_refl _, fun _ _ _ => rfl, hb, ⟨rfl, .inl ⟨rfl, rfl⟩⟩, hb.lt⟩
theorem BoxR.below (C : BoxR W0 b xs v W) (h : Below W.heap.size W W1) : BoxR W0 b xs v W1 :=
  ⟨h.os.trans C.os, h.tape.trans C.tape, h.output.trans C.output, Nat.le_trans C.size h.size, fun k hk hn => (h.block k (Nat.lt_of_lt_of_le hk C.size)).trans (C.low k hk hn), C.box.below h C.box.lt, own_below C.own h, C.hb⟩
theorem BoxR.blk (C : BoxR W0 b xs v W) {g : Nat} {t : TypeId} {cs : Array Value} (h : Blk W0 g t cs) (hn : g ≠ b) : Blk W g t cs := h.same (C.low g h.lt hn)
theorem BoxR.toBelow (C : BoxR W0 b xs v W) {w : World} (h : Below w.heap.size w W0) (hb : w.heap.size ≤ b) : Below w.heap.size w W :=
  ⟨C.os.trans h.os, C.tape.trans h.tape, C.output.trans h.output, Nat.le_trans h.size C.size, fun k hk => (C.low k (Nat.lt_of_lt_of_le hk h.size) (by omega)).trans (h.block k hk)⟩
theorem BoxR.own' (C : BoxR W0 b xs v W) {row : Option Nat} (hg : W.grownBy W1 row) (hr : ∀ r, row = some r → W0.heap.size ≤ r ∧ ∃ o : Obj, W.heap[r]? = some o ∧ o.isCells = false) : BoxR W0 b xs v W1 := by
  have hlow : ∀ k, k < W0.heap.size → W1.heap[k]? = W.heap[k]? := fun k hk => hg.block k (Nat.lt_of_lt_of_le hk C.size) (fun e => by have := (hr k e.symm).1; omega)
  refine ⟨hg.os.trans C.os, hg.tape.trans C.tape, hg.output.trans C.output, Nat.le_trans C.size hg.size, fun k hk hn => (hlow k hk).trans (C.low k hk hn), C.box.same (hlow b C.hb), own_keep C.own (fun k hk => hg.block k (C.own.lt k hk).2 (fun e => ?_)), C.hb⟩
  obtain ⟨_, o, ho, hc⟩ := hr k e.symm
  rcases C.own.2 with ⟨h1, _⟩ | ⟨g', cap, cur, h1, _, h3, _⟩
  · rw [h1] at hk; cases hk
  · rw [h1] at hk
    injection hk with hk
    subst hk
    rw [h3] at ho
    injection ho with ho
    subst ho
    cases hc
theorem BoxR.kp_refl (C : BoxR W0 b xs v W) (h : Below W.heap.size W W1) (n0 : Nat) : KpR m0 n0 b W W1 :=
  ⟨h.os, h.tape, h.output, h.size, fun k cs t fr _ _ hh => (h.block k (lt_of_get hh)).trans hh, fun k hk _ => (Hat.below h C.box.lt).1 hk⟩
theorem BoxR.box_app (C : BoxR W0 b xs v W) (h : Below W.heap.size W Wx) (hg : Wx.grownBy W1 v.ownBlock) : W1.cell? ⟨b, 0, none⟩ = some v ∧ W1.frozen? ⟨b, 0, none⟩ = false := by
  have hbv : v.ownBlock ≠ some b := fun e => by have := (C.own.lt b e).1; have := C.hb; omega
  have hb1 : Blk W1 b 23 #[v] := C.box.same ((hg.block b (Nat.lt_of_lt_of_le C.box.lt h.size) (fun e => hbv e.symm)).trans (h.block b C.box.lt))
  exact ⟨hb1.cell 0, hb1.frozen 0⟩
/-- A round that appends. -/
theorem BoxR.app (C : BoxR W0 b xs v W) (h : Below W.heap.size W Wx) {y : Nat} (hown : W1.ownsRow W0.heap.size 41 1 v' (xs.length + 1) (u32s xs ++ [.int .u32 (y : Int)])) (hg : Wx.grownBy W1 v.ownBlock)
    (hat : v'.ownBlock = v.ownBlock ∨ v'.ownBlock = some Wx.heap.size) (hm : m0 ≤ b) :
    KeepsFrom W0.heap.size W (W1.setCell ⟨b, 0, none⟩ v') ∧ KpR m0 W0.heap.size b W (W1.setCell ⟨b, 0, none⟩ v') ∧ BoxR W0 b (xs ++ [y]) v' (W1.setCell ⟨b, 0, none⟩ v') := by
  have hsz : (W1.setCell ⟨b, 0, none⟩ v').heap.size = W1.heap.size := by simp [World.setCell]
  have hle : W.heap.size ≤ W1.heap.size := Nat.le_trans h.size hg.size
  have hfar : ∀ k, k < W.heap.size → k ≠ b → v.ownBlock ≠ some k → (W1.setCell ⟨b, 0, none⟩ v').heap[k]? = W.heap[k]? := fun k hk h1 h2 =>
    (Below.heap_setCell W1 ⟨b, 0, none⟩ v' k h1).trans ((hg.block k (Nat.lt_of_lt_of_le hk h.size) (fun e => h2 e.symm)).trans (h.block k hk))
  have hbv : v.ownBlock ≠ some b := fun e => by have := (C.own.lt b e).1; have := C.hb; omega
  have hbx := C.box.lt
  have hb1 : Blk W1 b 23 #[v] := C.box.same ((hg.block b (Nat.lt_of_lt_of_le hbx h.size) (fun e => hbv e.symm)).trans (h.block b hbx))
  have hbn : Blk (W1.setCell ⟨b, 0, none⟩ v') b 23 #[v'] := hb1.set_ 0 _
  have hcn : (W1.setCell ⟨b, 0, none⟩ v').cell? ⟨b, 0, none⟩ = some v' := hbn.cell 0
  have hc0 : W.cell? ⟨b, 0, none⟩ = some v := C.box.cell 0
  have hobj : ∀ k (o : Obj), W.heap[k]? = some o → o.isCells = false → (W1.setCell ⟨b, 0, none⟩ v').heap[k]? = some o := fun k o ho hc => by
    refine (hfar k (lt_of_get ho) ?_ ?_).trans ho
    · rintro rfl
      have := C.box
      unfold Blk at this
      rw [this] at ho; injection ho with ho; subst ho; cases hc
    · intro e
      rcases C.own.2 with ⟨h1, _⟩ | ⟨g', cap, cur, h1, _, h3, _⟩
      · rw [h1] at e; cases e
      · rw [h1] at e
        injection e with e
        subst e
        rw [h3] at ho; injection ho with ho; subst ho; cases hc
  refine ⟨⟨by rw [hsz]; exact hle, fun k o _ ho hc => hobj k o ho hc⟩,
    ⟨hg.os.trans h.os, hg.tape.trans h.tape, hg.output.trans h.output, by rw [hsz]; exact hle, fun k cs t fr hk hn hh => (hfar k (lt_of_get hh) (by have := C.hb; omega) (fun e => hn ⟨v, hc0, e⟩)).trans hh, fun k ⟨u, hu, ho⟩ hk => ?_⟩,
    ⟨hg.os.trans (h.os.trans C.os), hg.tape.trans (h.tape.trans C.tape), hg.output.trans (h.output.trans C.output), by rw [hsz]; exact Nat.le_trans C.size hle, fun k hk hn => (hfar k (Nat.lt_of_lt_of_le hk C.size) hn (fun e => by have := (C.own.lt k e).1; omega)).trans (C.low k hk hn), hbn, ?_, C.hb⟩⟩
  · rw [hcn] at hu
    injection hu with hu
    subst hu
    refine ⟨v, hc0, ?_⟩
    rcases hat with e | e
    · rw [← e]; exact ho
    · rw [ho] at e; injection e with e; have := h.size; omega
  · rw [List.length_append, u32s_app]
    refine own_keep hown (fun k hk => Below.heap_setCell W1 ⟨b, 0, none⟩ v' k (fun e => ?_))
    subst e
    have := (hown.lt _ hk).1
    have := C.hb
    omega
end
end Go.Proofs.YtblekggklimpeaaDoor

namespace Go.Proofs.YtblekggklimpeaaDoor
open Go.RowKit
attribute [local go_sem] Oper.semAt_some
theorem wpListIn_app_any {F : Fence} {n : Nat} {P : Program} {ops : Array Oper} {rest : List Oper} {o : Oper} {a : Act} {Q : Exit → Act → World → Prop} (w : World) (hgd : o.guard = none) (s x : Operand) (t : TypeId)
    (ho : o.op = .call { callee := .builtin .append, args := #[s, x], argTypes := #[t, t] })
    (base : Nat) (e : TypeId) (i : TypeInfo) (z : Value) (size bytes : Nat) (ht : P.underlying t = some (.slice e)) (hi : P.info? e = some i) (hz : i.zero = some z)
    (hsize : i.size = size) (hby : i.bytes = bytes) (hzs : z.cells.size = size) (hsz : 0 < size)
    (v : Value) (k : Nat) (xs : List Value) (hs : a.eval s = v) (hown : w.ownsRow base e size v k xs)
    (B : Nat) (A : Option Addr) (m c : Nat) (news : List Value) (hx : a.eval x = .slice A m c) (hr : Reads w B size A m news) (h1 : ∀ u ∈ news, u.oneCell' = true)
    (h63 : k + m ≤ maxLen) (hbytes : (k + m) * bytes ≤ 140737488355328) (hbase : base ≤ w.heap.size)
    (h : ∀ v' w', w'.ownsRow base e size v' (k + m) (xs ++ news) → w.grownBy w' v.ownBlock → (v'.ownBlock = v.ownBlock ∨ v'.ownBlock = some w.heap.size) → wpListIn F n P ops Q rest (a.put o.dst v') w') : wpListIn F n P ops Q (o :: rest) a w := by
  refine wpListIn_plain hgd fun K hK' => ?_
  obtain ⟨v', w', hrun, h2, h3, h4⟩ := run_append_any (P := P) w base t o.type e i z size bytes ht hi hz hsize hby hzs hsz v k xs hown B A m c news hr h1 h63 hbytes hbase
  unfold Oper.wpIn
  refine ⟨?_, ?_⟩
  · simp [Oper.about, ho, resolve, Target.leads, Sem.run_pure]
  · rw [Oper.semAt_plain F _ _ (by rw [ho]; intro c hc'; cases hc')]
    simp [execOp, ho, resolve, invoke, builtin, hs, hx, hrun, Result.andThen]
    exact hK' _ _ (h _ _ h2 h3 h4)
/-- The picked among those that were handed out. -/
def selF (P : Nat → Bool) (l : List Ob) (pre : List (Fin l.length)) : List Nat := (pre.filter (fun i => P i.1)).map (fun i => 2 * posOf (l.take i.1))
theorem selF_yes {P : Nat → Bool} {l : List Ob} {pre : List (Fin l.length)} {x : Fin l.length} (h : P x.1 = true) : selF P l (pre ++ [x]) = selF P l pre ++ [2 * posOf (l.take x.1)] := by
  unfold selF
  rw [List.filter_append, List.map_append, List.filter_cons, if_pos h]
  rfl
theorem selF_no {P : Nat → Bool} {l : List Ob} {pre : List (Fin l.length)} {x : Fin l.length} (h : P x.1 = false) : selF P l (pre ++ [x]) = selF P l pre := by
  unfold selF
  rw [List.filter_append, List.map_append, List.filter_cons, if_neg (by rw [h]; decide)]
  simp
theorem selF_len (P : Nat → Bool) (l : List Ob) (pre : List (Fin l.length)) : (selF P l pre).length ≤ pre.length := by
  unfold selF
  rw [List.length_map]
  exact List.length_filter_le _ _
theorem selF_all (P : Nat → Bool) (l : List Ob) : selF P l (List.finRange l.length) = ((List.range l.length).filter P).map (fun i => 2 * posOf (l.take i)) := by
  have h : (List.range l.length) = (List.finRange l.length).map Fin.val := by
    apply List.ext_getElem
    · simp
    · intro i h1 h2; simp
  unfold selF
  rw [h, List.filter_map, List.map_map]
  rfl
end Go.Proofs.YtblekggklimpeaaDoor

namespace Go.Proofs.YtblekggklimpeaaDoor
open Go.RowKit
attribute [local go_sem] Oper.semAt_some
set_option maxHeartbeats 400000 in
theorem index_oop (A : Option Addr) (n c B : Nat) (fs : List Nat) (x : Nat) (w : World) (hn : n ≤ 9223372036854775807) (hr : Reads w B 1 A n (u32s fs)) :
    Calls Tryd.prog 108 #[.slice A n c, .int .u32 x] w (idxPost fs x w) := by
  have hl : fs.length = n := by have := hr.1; simpa [u32s] using this
  have HL := Lib.hid hl; clear hl
  have HR := Lib.hid hr; clear hr
  go_enter Tryd.func108, Tryd.ntmps108
  go_wp2_with fail
  go_loop [8] (fun i => ∃ k : Nat, k ≤ n ∧ i = .int .i64 k ∧ (fs.take k).contains x = false) (fun i => n - (intOf i).toNat)
  case atStart => exact ⟨0, by omega, rfl, by simp⟩
  case round =>
    obtain ⟨k, hk, rfl, hno⟩ := hrel
    have HNO := Lib.hid hno; clear hno
    by_cases hlt : k < n
    · obtain ⟨ad, u0, rfl, _, hx, hcell⟩ := HR.out.at_ hlt
      obtain ⟨y, hy, rfl⟩ := u32s_at hx
      clear hx
      have HY := Lib.hid hy; clear hy
      by_cases hxy : x = y
      · subst hxy
        go_wp2_with fail
        go_ret
        exact ⟨k, rfl, by rw [contains_of_get HY.out]; simp, by omega, by omega, rfl⟩
      · have hb : ((x : Int) == (y : Int)) = false := beq_eq_false_iff_ne.2 (by omega)
        have HXY := Lib.hid hxy; clear hxy
        go_wp2_with fail
        go_round
        case rel => exact ⟨k + 1, by omega, by go_num, take_contains_none HY.out HXY.out HNO.out⟩
        case measure => simp [intOf]; omega
    · obtain rfl : k = n := by omega
      have hall := HNO.out
      rw [List.take_of_length_le (by rw [HL.out]; omega)] at hall
      have HA := Lib.hid hall; clear hall
      go_wp2_with fail
      go_ret
      exact ⟨-1, rfl, by rw [HA.out]; simp, by omega, by omega, rfl⟩

theorem contains_oop (A : Option Addr) (n c B : Nat) (fs : List Nat) (x : Nat) (w : World) (hn : n ≤ 9223372036854775807) (hr : Reads w B 1 A n (u32s fs)) :
    Calls Tryd.prog 81 #[.slice A n c, .int .u32 x] w fun e w' => e = .returned (.bool (fs.contains x)) ∧ w = w' := by
  have HR := Lib.hid hr; clear hr
  go_enter Tryd.func81, Tryd.ntmps81
  go_wp2_with fail
  refine (index_oop A n c B fs x w hn HR.out).mono ?_
  rintro e w' ⟨j, rfl, hj, hlo, hhi, rfl⟩
  have HJ := Lib.hid hj; clear hj
  go_wp2_with fail
  go_ret
  exact ⟨by rw [← HJ.out]; rfl, rfl⟩

end Go.Proofs.YtblekggklimpeaaDoor
