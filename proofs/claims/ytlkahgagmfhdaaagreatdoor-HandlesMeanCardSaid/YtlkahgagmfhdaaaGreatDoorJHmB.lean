/- A script's own book in memory: a map from numbers to entries, each in a block of its own. -/
/- HandlesMean: the table, the heap and the book side by side in memory; what each deed does to them. -/
/- HandlesMean: loops over the book. -/
/- HandlesMean, walked. -/
import Derived.Test.YtlkahgagmfhdaaaGreatDoorJHmI
import Derived.Test.YtlkahgagmfhdaaaGreatDoorJMapOk
import Derived.Test.YtlkahgagmfhdaaaGreatDoorJHdW
import Derived.Maps.RangeWalk
import Derived.BigQuiet
set_option linter.unusedVariables false
set_option linter.unusedSimpArgs false
set_option linter.unusedSectionVars false
namespace Go.Proofs.YtlkahgagmfhdaaaGreatDoor
open Go.RowKit Go.Maps

/-- How a pointer to a block reads: the block's number and 1, 0 for none. -/
def ptrElem (v : Value) : Option (DataW Unit × List MemPlace) := match v with
  | .pointer none => some (.lit (.int .u64 0), [])
  | .pointer (some ⟨b, 0, none⟩) => some (.lit (.int .u64 ((b : Int) + 1)), [])
  | _ => none
theorem ptrElem_none {v : Value} {ps : List MemPlace} (h : ptrElem v = some (.lit (.int .u64 0), ps)) : v = .pointer none := by
  unfold ptrElem at h
  split at h
  · rfl
  · simp only [Option.some.injEq, Prod.mk.injEq, DataW.lit.injEq, Lit.int.injEq, true_and] at h
    omega
  · cases h
theorem ptrElem_some {v : Value} {b : Nat} {ps : List MemPlace} (h : ptrElem v = some (.lit (.int .u64 ((b : Int) + 1)), ps)) : v = .pointer (some ⟨b, 0, none⟩) := by
  unfold ptrElem at h
  split at h
  · simp only [Option.some.injEq, Prod.mk.injEq, DataW.lit.injEq, Lit.int.injEq, true_and] at h
    omega
  · rename_i b'
    simp only [Option.some.injEq, Prod.mk.injEq, DataW.lit.injEq, Lit.int.injEq, true_and] at h
    have : b' = b := by omega
    rw [this]
  · cases h
def entC (x : Nat × Nat × Bool) : Array Value := #[.int .u32 (x.1 : Int), .int .i64 (x.2.1 : Int), .bool x.2.2]
def bkP (m : BkM) (at_ : Nat → Nat) (id : Nat) : Value := match m id with
  | none => .pointer none
  | some _ => .pointer (some ⟨at_ id, 0, none⟩)
/-- The book in block bm. -/
structure Bk (w : World) (B bm n : Nat) (D : DataW Unit) (m : BkM) (at_ : Nat → Nat) : Prop where
  isMap : IsMap D
  own : w.ownsMap Tryz.prog 47 ptrElem bm n D
  read : ∀ id : Nat, id < 18446744073709551616 → ∀ zd, D.atKey (.int .u64 (id : Int)) zd = match m id with
    | none => zd
    | some _ => .lit (.int .u64 ((at_ id : Int) + 1))
  ent : ∀ id x, m id = some x → Blk w (at_ id) 80 (entC x) ∧ B ≤ at_ id
  inj : ∀ i j x y, m i = some x → m j = some y → at_ i = at_ j → i = j
  base : B ≤ bm
/-- Which blocks are the book's. -/
def bkHas (bm : Nat) (m : BkM) (at_ : Nat → Nat) (b : Nat) : Prop := b = bm ∨ ∃ id x, m id = some x ∧ at_ id = b
theorem wf_u64 {x : Nat} (h : x < 18446744073709551616) : (Lit.int .u64 (x : Int)).wf = true := by
  unfold Lit.wf
  have h1 : IntKind.u64.min = 0 := rfl
  have h2 : IntKind.u64.max = 18446744073709551615 := rfl
  simp [h1, h2]
  omega
theorem tyBk : Tryz.prog.underlying 70 = some (.map 47 78) := Tryz.underlying70
theorem bkKey : Keyed Tryz.prog 47 := int_keyed Tryz.underlying47
theorem bkZero (w : World) : (zeroValue 78).run Tryz.prog w = .ok (.pointer none) w := by kernel_rfl
section
variable {w w' : World} {B bm n : Nat} {D : DataW Unit} {m : BkM} {at_ : Nat → Nat}
theorem Bk.lt (K : Bk w B bm n D m at_) : ∀ b, bkHas bm m at_ b → b < w.heap.size := by
  rintro b (rfl | ⟨id, x, hx, rfl⟩)
  · exact K.own.lt
  · exact (K.ent id x hx).1.lt
theorem Bk.low (K : Bk w B bm n D m at_) : ∀ b, bkHas bm m at_ b → B ≤ b := by
  rintro b (rfl | ⟨id, x, hx, rfl⟩)
  · exact K.base
  · exact (K.ent id x hx).2
theorem Bk.same (K : Bk w B bm n D m at_) (hs : ∀ b, bkHas bm m at_ b → w'.heap[b]? = w.heap[b]?) : Bk w' B bm n D m at_ := by
  obtain ⟨es, clock, hb, r⟩ := K.own
  exact ⟨K.isMap, ⟨es, clock, (hs bm (.inl rfl)).trans hb, r⟩, K.read, fun id x hx => ⟨(K.ent id x hx).1.same (hs _ (.inr ⟨id, x, hx, rfl⟩)), (K.ent id x hx).2⟩, K.inj, K.base⟩
theorem Bk.below (K : Bk w B bm n D m at_) (hb : Below w.heap.size w w') : Bk w' B bm n D m at_ := K.same fun b hh => hb.block b (K.lt b hh)
theorem Bk.ne_ (K : Bk w B bm n D m at_) {id : Nat} {x : Nat × Nat × Bool} (hx : m id = some x) : at_ id ≠ bm := by
  intro e
  obtain ⟨es, c, hb, _⟩ := K.own
  have := (K.ent id x hx).1
  rw [e] at this
  unfold Blk at this
  rw [hb] at this
  cases this
theorem Bk.made (w : World) : Bk (w.alloc (.map #[] 0)) w.heap.size w.heap.size 0 (.map []) (fun _ => none) (fun _ => 0) :=
  ⟨⟨[], rfl⟩, World.ownsMap_made _ _ _ _, fun _ _ _ => rfl, fun _ _ h => (by cases h), fun _ _ _ _ h => (by cases h), Nat.le_refl _⟩
set_option maxRecDepth 100000 in
theorem Bk.look (K : Bk w B bm n D m at_) {id : Nat} (hid : id < 18446744073709551616) : (Instr.lookup 70 (.map (some bm)) (.int .u64 (id : Int)) false).run Tryz.prog w = .ok (bkP m at_ id) w := by
  obtain ⟨v, ps, hrun, hv⟩ := K.own.lookup bkKey tyBk (bkZero w) (zd := .lit (.int .u64 0)) (zp := []) rfl (keyOf_int_mk Tryz.underlying47 (wf_u64 hid))
  rw [K.read id hid] at hv
  have e : v = bkP m at_ id := by
    unfold bkP
    cases hm : m id with
    | none => rw [hm] at hv; exact ptrElem_none hv
    | some x => rw [hm] at hv; exact ptrElem_some hv
  rw [← e]
  exact hrun
set_option maxRecDepth 100000 in
/-- A new entry. -/
theorem Bk.put (K : Bk w B bm n D m at_) {id : Nat} (hid : id < 18446744073709551616) {b : Nat} {x : Nat × Nat × Bool} (hB : Blk w b 80 (entC x)) (hb : B ≤ b) (hnew : ¬ bkHas bm m at_ b) (hn : n < 9223372036854775807) :
    ∃ w', (Instr.mapUpdate 70 (.map (some bm)) (.int .u64 (id : Int)) (.pointer (some ⟨b, 0, none⟩))).run Tryz.prog w = .ok () w' ∧ (∃ D', Bk w' B bm (n + 1) D' (updM m id x) (fun i => if i = id then b else at_ i)) ∧ w.grownBy w' (some bm) := by
  obtain ⟨w', hrun, ho', hg⟩ := K.own.update bkKey tyBk (by unfold maxLen; omega) (keyOf_int_mk Tryz.underlying47 (wf_u64 hid)) (val := .pointer (some ⟨b, 0, none⟩)) (d := .lit (.int .u64 ((b : Int) + 1))) (ps := []) rfl
  have hne : b ≠ bm := fun e => hnew (.inl e)
  refine ⟨w', hrun, ⟨_, K.isMap.put _ _, ho', fun i hi zd => ?_, fun i y hy => ?_, fun i j y z hy hz he => ?_, K.base⟩, hg⟩
  · by_cases h1 : i = id
    · subst h1
      rw [updM_same]
      simp only [if_pos rfl]
      exact atKey_put_same K.isMap (show WideAt.IsKeyLit (.int .u64 (i : Int)) from trivial) _ _
    · rw [updM_other m _ h1, atKey_put_other (by intro e; injection e with _ e; omega), K.read i hi]
      simp only [if_neg h1]
  · by_cases h1 : i = id
    · subst h1
      rw [updM_same] at hy
      injection hy with hy
      subst hy
      simp only [if_pos rfl]
      exact ⟨hB.same (hg.block b hB.lt (by intro e; injection e with e; exact hne e)), hb⟩
    · rw [updM_other m _ h1] at hy
      simp only [if_neg h1]
      have := K.ent i y hy
      exact ⟨this.1.same (hg.block _ this.1.lt (by intro e; injection e with e; exact K.ne_ hy e)), this.2⟩
  · by_cases h1 : i = id
    · by_cases h2 : j = id
      · rw [h1, h2]
      · rw [updM_other m _ h2] at hz
        simp only [if_pos h1, if_neg h2] at he
        exact absurd (.inr ⟨j, z, hz, he.symm⟩) hnew
    · rw [updM_other m _ h1] at hy
      by_cases h2 : j = id
      · simp only [if_neg h1, if_pos h2] at he
        exact absurd (.inr ⟨i, y, hy, he⟩) hnew
      · rw [updM_other m _ h2] at hz
        simp only [if_neg h1, if_neg h2] at he
        exact K.inj i j y z hy hz he
/-- An entry's cell written. -/
theorem Bk.set (K : Bk w B bm n D m at_) {id i : Nat} {x x' : Nat × Nat × Bool} {v : Value} (hx : m id = some x) (he : (entC x).setIfInBounds i v = entC x') : Bk (w.setCell ⟨at_ id, i, none⟩ v) B bm n D (updM m id x') at_ := by
  have hne := K.ne_ hx
  refine ⟨K.isMap, K.own.setCell (fun e => hne (show bm = at_ id from e).symm) v, fun j hj zd => ?_, fun j y hy => ?_, fun a b y z hy hz h1 => ?_, K.base⟩
  · rw [K.read j hj zd]
    by_cases h1 : j = id
    · subst h1
      rw [updM_same, hx]
    · rw [updM_other m _ h1]
  · by_cases h1 : j = id
    · subst h1
      rw [updM_same] at hy
      injection hy with hy
      subst hy
      have h2 := (K.ent j x hx).1.set_ i v
      rw [he] at h2
      exact ⟨h2, (K.ent j x hx).2⟩
    · rw [updM_other m _ h1] at hy
      have h2 := K.ent j y hy
      exact ⟨h2.1.far (p := ⟨at_ id, i, none⟩) (fun e => h1 (K.inj j id y x hy hx e)) v, h2.2⟩
  · have key : ∀ a y, updM m id x' a = some y → ∃ y', m a = some y' := fun a y hy => by
      by_cases h2 : a = id
      · exact ⟨x, by rw [h2]; exact hx⟩
      · rw [updM_other m _ h2] at hy; exact ⟨y, hy⟩
    obtain ⟨y', hy'⟩ := key a y hy
    obtain ⟨z', hz'⟩ := key b z hz
    exact K.inj a b y' z' hy' hz' h1
theorem bkHas_upd {id : Nat} {x x' : Nat × Nat × Bool} (hx : m id = some x) {b : Nat} : bkHas bm (updM m id x') at_ b ↔ bkHas bm m at_ b := by
  refine or_congr Iff.rfl ⟨fun ⟨j, y, hy, e⟩ => ?_, fun ⟨j, y, hy, e⟩ => ?_⟩
  · by_cases h1 : j = id
    · exact ⟨id, x, hx, by rw [← h1]; exact e⟩
    · rw [updM_other m _ h1] at hy; exact ⟨j, y, hy, e⟩
  · by_cases h1 : j = id
    · exact ⟨id, x', updM_same .., by rw [← h1]; exact e⟩
    · exact ⟨j, y, by rw [updM_other m _ h1]; exact hy, e⟩
/-- A loop over the book under way: its iterator in block r, so many entries left. -/
def BkR (w : World) (B bm r n : Nat) (D : DataW Unit) (m : BkM) (at_ : Nat → Nat) (cnt : Nat) : Prop := (∃ left, w.ranges Tryz.prog 47 ptrElem bm r n D left cnt) ∧ Bk w B bm n D m at_ ∧ ¬ bkHas bm m at_ r
theorem Bk.range (K : Bk w B bm n D m at_) : ∃ w', (Instr.range 70 (.map (some bm))).run Tryz.prog w = .ok (.pointer (some ⟨w.heap.size, 0, none⟩)) w' ∧ (∃ cnt, BkR w' B bm w.heap.size n D m at_ cnt) ∧ w.grownBy w' none ∧ w'.heap.size = w.heap.size + 1 := by
  obtain ⟨w', h1, h2, h3, h4⟩ := K.own.range bkKey tyBk
  exact ⟨w', h1, ⟨_, ⟨_, h2⟩, K.same fun b hh => h3.block b (K.lt b hh) (by simp), fun hh => by have := K.lt _ hh; omega⟩, h3, h4⟩
theorem BkR.next {r cnt : Nat} (L : BkR w B bm r n D m at_ cnt) (ty : TypeId) :
    (cnt = 0 ∧ (Instr.next (.pointer (some ⟨r, 0, none⟩)) false ty).run Tryz.prog w = .ok (.tuple #[.bool false]) w) ∨
    ∃ id x w' cnt', id < 18446744073709551616 ∧ m id = some x ∧ (Instr.next (.pointer (some ⟨r, 0, none⟩)) false ty).run Tryz.prog w = .ok (.tuple #[.bool true, .int .u64 (id : Int), .pointer (some ⟨at_ id, 0, none⟩)]) w' ∧
      BkR w' B bm r n D m at_ cnt' ∧ cnt' < cnt ∧ w.grownBy w' (some r) ∧ w'.heap.size = w.heap.size ∧ (Instr.entry (.pointer (some ⟨r, 0, none⟩))).run Tryz.prog w' = .ok (.tuple #[.int .u64 (id : Int), .pointer (some ⟨at_ id, 0, none⟩)]) w' := by
  obtain ⟨⟨left, hr⟩, K, hno⟩ := L
  rcases hr.next bkKey ty with ⟨h0, -, h2⟩ | ⟨key, v, kl, y, w', cnt', hk, -, hv, hat, hrun, hr', hlt, hg, hs, hen⟩
  · exact .inl ⟨h0, h2⟩
  · obtain ⟨z, rfl, rfl, hz⟩ := Maps.keyOf_int_inv Tryz.underlying47 hk
    have h3 : IntKind.u64.min = 0 := rfl
    have h4 : IntKind.u64.max = 18446744073709551615 := rfl
    have h5 : IntKind.u64.min ≤ z ∧ z ≤ IntKind.u64.max := by simpa [Lit.wf] using hz
    obtain ⟨id, rfl⟩ := Int.eq_ofNat_of_zero_le (show 0 ≤ z by omega)
    have hid : id < 18446744073709551616 := by omega
    cases hm : m id with
    | none =>
      have e1 := hat (.lit (.int .u64 0))
      have e2 := hat (.lit (.int .u64 1))
      rw [K.read id hid, hm] at e1 e2
      have e3 := e1.trans e2.symm
      simp only [DataW.lit.injEq, Lit.int.injEq, true_and] at e3
      omega
    | some x =>
      have e1 := hat (.lit (.int .u64 0))
      rw [K.read id hid, hm] at e1
      obtain ⟨y1, y2⟩ := y
      simp only at e1
      subst e1
      have ev := ptrElem_some hv
      subst ev
      exact .inr ⟨id, x, w', cnt', hid, hm, hrun, ⟨⟨_, hr'⟩, K.same fun b hh => hg.block b (K.lt b hh) (by intro e; injection e with e; exact hno (e ▸ hh)), hno⟩, hlt, hg, hs, hen⟩
theorem BkR.kept {r cnt : Nat} (L : BkR w B bm r n D m at_ cnt) (hb : Below w.heap.size w w') : BkR w' B bm r n D m at_ cnt := by
  obtain ⟨⟨left, hr⟩, K, hno⟩ := L
  exact ⟨⟨left, hr.kept (row := none) ⟨hb.os, hb.tape, hb.output, hb.size, fun i hi _ => hb.block i hi⟩ (by simp) (by simp)⟩, K.below hb, hno⟩
theorem BkR.left_eq {r cnt : Nat} (L : BkR w B bm r n D m at_ cnt) : w.rangeLeft bm r = cnt := by obtain ⟨⟨left, hr⟩, -, -⟩ := L; exact hr.left_eq
end
end Go.Proofs.YtlkahgagmfhdaaaGreatDoor

namespace Go.Proofs.YtlkahgagmfhdaaaGreatDoor
open Go.RowKit

/-- The table, the heap and the book, as they stand. -/
structure MSt (W w : World) (p : HP) (g gt bm n : Nat) (D : DataW Unit) (h : HM) (t : TM) (m : BkM) (at_ : Nat → Nat) (last : Nat) : Prop where
  T : HT W w p g gt h t
  I : MInv h t m last
  K : Bk w W.heap.size bm n D m at_
  far : ∀ b, bkHas bm m at_ b → ¬ p.has b ∧ b ≠ gt
section
variable {W w w' : World} {p : HP} {g gt bm n : Nat} {D : DataW Unit} {h : HM} {t : TM} {m : BkM} {at_ : Nat → Nat} {last : Nat}
theorem MSt.after (S : MSt W w p g gt bm n D h t m at_ last) (hb : Below w.heap.size w w') : MSt W w' p g gt bm n D h t m at_ last := ⟨S.T.after hb, S.I, S.K.below hb, S.far⟩
/-- A block that is below all of theirs. -/
theorem MSt.old (S : MSt W w p g gt bm n D h t m at_ last) {b : Nat} (hb : b < W.heap.size) : ¬ p.has b ∧ b ≠ gt ∧ ¬ bkHas bm m at_ b :=
  ⟨fun hh => by have := S.T.live.new _ hh; omega, fun e => by have := S.T.new; omega, fun hh => by have := S.K.low _ hh; omega⟩
end
theorem alloc_size (h : HM) (c : Nat) (t n : Int) : (h.AllocH c t n).size = h.size := by
  rw [HM.AllocH_eq]
  split <;> rfl
theorem setRoot_size (h : HM) (i : Int) (v : Nat) : (h.setRootH i v).size = h.size := by
  unfold HM.setRootH
  split <;> rfl
theorem allocs_size (n : Nat) : ∀ k, (allocs n k).size = n
  | 0 => rfl
  | k + 1 => (alloc_size _ _ _ _).trans (allocs_size n k)
theorem nwH_size (h : HM) (n : Int) : (nwH h n).size = h.size := (setRoot_size _ _ _).trans (alloc_size _ _ _ _)
theorem allocs_good {n : Nat} (h1 : 64 ≤ n) (h2 : n ≤ 1048576) : ∀ k, ∃ l, (allocs n k).Good l
  | 0 => ⟨[], HM.new_good h1 h2 (HM.new_fit h1 h2)⟩
  | k + 1 => by
    obtain ⟨l, G⟩ := allocs_good h1 h2 k
    exact G.AllocH 0 1 2 (by decide)
theorem hps_good {sz ob : Int} {n : Int} (f : (nwH (hps sz ob) n).Fit) : ∃ l, (hps sz ob).Good l := by
  have h1 := f.lo
  have h2 := f.hi
  rw [nwH_size] at h1 h2
  have e : (hps sz ob).size = sz.toNat := (setRoot_size _ _ _).trans (allocs_size _ _)
  rw [e] at h1 h2
  obtain ⟨l, G⟩ := allocs_good h1 h2 (obN ob)
  exact ⟨l, G.setRootH 1 _ (objM_lt G.fit)⟩
/-- What stands at the head of each round. -/
def MAt (W w : World) (g gt bm : Nat) (now : Nat) (last : Nat) (j : Nat) : Prop := ∃ p n D h t m at_, MSt W w p g gt bm n D h t m at_ last ∧ t.now = now ∧ n ≤ j
section
variable {W w w' : World} {p : HP} {g gt bm n : Nat} {D : DataW Unit} {h h' : HM} {t t' : TM} {m : BkM} {at_ : Nat → Nat} {last : Nat}
/-- A deed with the table. -/
theorem MSt.deed (S : MSt W w p g gt bm n D h t m at_ last) (T' : HT W w' p g gt h' t') (K : HKeep p gt w w') (I' : MInv h' t' m last) : MSt W w' p g gt bm n D h' t' m at_ last :=
  ⟨T', I', S.K.same fun b hb => K.block b (S.K.lt b hb) (S.far b hb).1 (S.far b hb).2, S.far⟩
/-- Only the model has moved. -/
theorem MSt.keptBy (S : MSt W w p g gt bm n D h t m at_ last) (T' : HT W w' p g gt h' t') (K : HKeep p gt w w') : Bk w' W.heap.size bm n D m at_ := S.K.same fun b hb => K.block b (S.K.lt b hb) (S.far b hb).1 (S.far b hb).2
theorem HT.setEnt (T : HT W w p g gt h t) {b i : Nat} (hW : W.heap.size ≤ b) (hb : ¬ p.has b ∧ b ≠ gt) (v : Value) : HT W (w.setCell ⟨b, i, none⟩ v) p g gt h t :=
  T.same (fun k hk => Below.heap_setCell w ⟨b, i, none⟩ v k (by
    rintro rfl
    rcases hk with hk | hk
    · exact hb.1 hk
    · exact hb.2 hk)) (T.live.below.setCell (p := ⟨b, i, none⟩) hW v)
/-- An entry of the book is written. -/
theorem mst_set (T : HT W w p g gt h t) (K : Bk w W.heap.size bm n D m at_) (far : ∀ b, bkHas bm m at_ b → ¬ p.has b ∧ b ≠ gt) {id i : Nat} {x x' : Nat × Nat × Bool} {v : Value} (hx : m id = some x) (he : (entC x).setIfInBounds i v = entC x') (I' : MInv h t (updM m id x') last) :
    MSt W (w.setCell ⟨at_ id, i, none⟩ v) p g gt bm n D h t (updM m id x') at_ last :=
  ⟨T.setEnt (K.ent id x hx).2 (far _ (.inr ⟨id, x, hx, rfl⟩)) v, I', K.set hx he, fun b hb => far b ((bkHas_upd hx).1 hb)⟩
/-- A new entry. -/
theorem mst_put (T : HT W w p g gt h t) (K : Bk w W.heap.size bm n D m at_) (far : ∀ b, bkHas bm m at_ b → ¬ p.has b ∧ b ≠ gt) {id b last' : Nat} (hid : id < 18446744073709551616) {x : Nat × Nat × Bool} (hB : Blk w b 80 (entC x)) (hW : W.heap.size ≤ b) (hb : ¬ p.has b ∧ b ≠ gt) (hnew : ¬ bkHas bm m at_ b) (hn : n < 9223372036854775807) (I' : MInv h t (updM m id x) last') :
    ∃ w', (Instr.mapUpdate 70 (.map (some bm)) (.int .u64 (id : Int)) (.pointer (some ⟨b, 0, none⟩))).run Tryz.prog w = .ok () w' ∧ (∃ D', MSt W w' p g gt bm (n + 1) D' h t (updM m id x) (fun i => if i = id then b else at_ i) last') ∧ w.grownBy w' (some bm) := by
  obtain ⟨w', h1, ⟨D', K'⟩, hg⟩ := K.put hid hB hW hnew hn
  refine ⟨w', h1, ⟨D', T.grew hg (fun q hq => ?_), I', K', fun c hc => ?_⟩, hg⟩
  · injection hq with hq
    subst hq
    exact ⟨K.base, (far bm (.inl rfl)).1, (far bm (.inl rfl)).2⟩
  · rcases hc with rfl | ⟨i, y, hy, e⟩
    · exact far _ (.inl rfl)
    · by_cases h2 : i = id
      · simp only [if_pos h2] at e
        rw [← e]; exact hb
      · rw [updM_other m _ h2] at hy
        simp only [if_neg h2] at e
        exact far c (.inr ⟨i, y, hy, e⟩)
/-- A collection. -/
theorem MSt.collect (S : MSt W w p g gt bm n D h t m at_ last) {l : List Ob} (G : h.Good l) : Calls Tryz.prog 28 #[.pointer (some ⟨g, 0, none⟩)] w fun e w' => e = .returned (colV h l) ∧ ∃ p', MSt W w' p' g gt bm n D (colH h l) t m at_ last ∧ Step p p' w w' :=
  (S.T.collect G).mono fun e w' ⟨p', h1, T', s⟩ => ⟨h1, p', ⟨T', S.I.col G, S.K.same fun b hb => s.block b (S.K.lt b hb) (S.far b hb).1, fun b hb => ⟨fun hh => by
    rcases s.rows b hh with h2 | h2
    · exact (S.far b hb).1 h2
    · have := S.K.lt b hb; omega, (S.far b hb).2⟩⟩, s⟩
/-- The header of an object that a handle means. -/
theorem HT.head (T : HT W w p g gt h t) {o : Nat} (ho : o < 4294967296) (hi : h.isB o = true) : Calls Tryz.prog 32 #[.pointer (some ⟨g, 0, none⟩), .int .u32 (o : Nat)] w (Told (.tuple #[.agg #[.int .i64 (h.hd (o / 2)).size, .int .i64 (h.hd (o / 2)).fmt, .int .i64 (h.hd (o / 2)).spare, .int .u32 (h.hd (o / 2)).cls, .int .u32 (serK h o : Nat)], .int .i64 0]) w) := by
  have hh := T.live.header o ho
  rw [show h.hdO o = h.hd (o / 2) by unfold HM.hdO; rw [hi]; rfl, show h.isE o = 0 by unfold HM.isE; rw [hi]; rfl] at hh
  exact hh
end
theorem issE_lt (h : HM) (t : TM) (o : Nat) (n : Int) : issE h t o n < 4294967296 := by unfold issE; split <;> (try split) <;> (try split) <;> (try split) <;> (try split) <;> omega
theorem fndE_lt (h : HM) (t : TM) (id : Nat) : fndE h t id < 4294967296 := by unfold fndE; split <;> (try split) <;> omega
theorem rnwE_lt (h : HM) (t : TM) (id : Nat) (n : Int) : rnwE h t id n < 4294967296 := by
  have := fndE_lt h t id
  unfold rnwE; split <;> (try split) <;> omega
theorem tikE_lt (h : HM) (t : TM) (n : Int) : tikE h t n < 4294967296 := by unfold tikE; split <;> (try split) <;> omega
end Go.Proofs.YtlkahgagmfhdaaaGreatDoor

namespace Go.Proofs.YtlkahgagmfhdaaaGreatDoor
open Go.RowKit

/-- A loop over the book under way, beside the table and the heap. -/
structure MLp (W w : World) (p : HP) (g gt bm r n : Nat) (D : DataW Unit) (h : HM) (t : TM) (m : BkM) (at_ : Nat → Nat) (cnt : Nat) : Prop where
  T : HT W w p g gt h t
  L : BkR w W.heap.size bm r n D m at_ cnt
  far : ∀ b, bkHas bm m at_ b → ¬ p.has b ∧ b ≠ gt
  rfar : W.heap.size ≤ r ∧ ¬ p.has r ∧ r ≠ gt
section
variable {W w w' : World} {p : HP} {g gt bm r n : Nat} {D : DataW Unit} {h : HM} {t : TM} {m : BkM} {at_ : Nat → Nat} {cnt : Nat}
theorem MLp.after (S : MLp W w p g gt bm r n D h t m at_ cnt) (hb : Below w.heap.size w w') : MLp W w' p g gt bm r n D h t m at_ cnt := ⟨S.T.after hb, S.L.kept hb, S.far, S.rfar⟩
theorem MLp.mst (S : MLp W w p g gt bm r n D h t m at_ cnt) {last : Nat} (I : MInv h t m last) : MSt W w p g gt bm n D h t m at_ last := ⟨S.T, I, S.L.2.1, S.far⟩
theorem mlp_range (T : HT W w p g gt h t) (K : Bk w W.heap.size bm n D m at_) (far : ∀ b, bkHas bm m at_ b → ¬ p.has b ∧ b ≠ gt) :
    ∃ w', (Instr.range 70 (.map (some bm))).run Tryz.prog w = .ok (.pointer (some ⟨w.heap.size, 0, none⟩)) w' ∧ (∃ cnt, MLp W w' p g gt bm w.heap.size n D h t m at_ cnt) ∧ w.grownBy w' none := by
  obtain ⟨w', h1, ⟨cnt, L⟩, hg, -⟩ := K.range
  exact ⟨w', h1, ⟨cnt, T.grew hg (fun q hq => by cases hq), L, far, T.live.below.size, fun hh => by have := T.live.at_.lt hh; omega, fun e => by have := T.tab.lt; omega⟩, hg⟩
theorem MLp.next (S : MLp W w p g gt bm r n D h t m at_ cnt) :
    (cnt = 0 ∧ ∀ ty, (Instr.next (.pointer (some ⟨r, 0, none⟩)) false ty).run Tryz.prog w = .ok (.tuple #[.bool false]) w) ∨
    ∃ id x w' cnt', id < 18446744073709551616 ∧ m id = some x ∧ (∀ ty, (Instr.next (.pointer (some ⟨r, 0, none⟩)) false ty).run Tryz.prog w = .ok (.tuple #[.bool true, .int .u64 (id : Int), .pointer (some ⟨at_ id, 0, none⟩)]) w') ∧
      MLp W w' p g gt bm r n D h t m at_ cnt' ∧ cnt' < cnt ∧ w.grownBy w' (some r) ∧ (Instr.entry (.pointer (some ⟨r, 0, none⟩))).run Tryz.prog w' = .ok (.tuple #[.int .u64 (id : Int), .pointer (some ⟨at_ id, 0, none⟩)]) w' := by
  rcases S.L.next 0 with ⟨h0, h1⟩ | ⟨id, x, w', cnt', h1, h2, h3, h4, h5, h6, h7, h8⟩
  · exact .inl ⟨h0, fun _ => h1⟩
  · exact .inr ⟨id, x, w', cnt', h1, h2, fun _ => h3, ⟨S.T.grew h6 (fun q hq => by injection hq with hq; subst hq; exact S.rfar), h4, S.far, S.rfar⟩, h5, h6, h8⟩
theorem MLp.old (S : MLp W w p g gt bm r n D h t m at_ cnt) {b : Nat} (hb : b < W.heap.size) : b ≠ r := fun e => by have := S.rfar.1; omega
/-- The cells of the entry. -/
theorem MLp.cells (S : MLp W w p g gt bm r n D h t m at_ cnt) {id : Nat} {s e : Nat} {b : Bool} (hx : m id = some (s, e, b)) : w.cell? ⟨at_ id, 0, none⟩ = some (.int .u32 (s : Int)) ∧ w.cell? ⟨at_ id, 1, none⟩ = some (.int .i64 (e : Int)) ∧ w.cell? ⟨at_ id, 2, none⟩ = some (.bool b) :=
  (show Blk w (at_ id) 80 #[.int .u32 (s : Int), .int .i64 (e : Int), .bool b] from (S.L.2.1.ent id _ hx).1).cells3
theorem Bk.cells (K : Bk w W.heap.size bm n D m at_) {id : Nat} {s e : Nat} {b : Bool} (hx : m id = some (s, e, b)) : w.cell? ⟨at_ id, 0, none⟩ = some (.int .u32 (s : Int)) ∧ w.cell? ⟨at_ id, 1, none⟩ = some (.int .i64 (e : Int)) ∧ w.cell? ⟨at_ id, 2, none⟩ = some (.bool b) :=
  (show Blk w (at_ id) 80 #[.int .u32 (s : Int), .int .i64 (e : Int), .bool b] from (K.ent id _ hx).1).cells3
theorem bkP_some {id : Nat} {x : Nat × Nat × Bool} (hx : m id = some x) : bkP m at_ id = .pointer (some ⟨at_ id, 0, none⟩) := by unfold bkP; rw [hx]
end
theorem rnw_no {h : HM} {t : TM} {id : Nat} {n : Int} (he : rnwE h t id n ≠ 0) : rnwT h t id n = t := by unfold rnwT; rw [if_neg he]
theorem rel_no {h : HM} {t : TM} {id : Nat} (he : fndE h t id ≠ 0) : relH h t id = h ∧ relT h t id = t := ⟨by unfold relH; rw [if_neg he], by unfold relT; rw [if_neg he]⟩
theorem rel_now (h : HM) (t : TM) (id : Nat) : (relT h t id).now = t.now := by unfold relT; split <;> rfl
theorem rnw_now (h : HM) (t : TM) (id : Nat) (n : Int) : (rnwT h t id n).now = t.now := by unfold rnwT; split <;> rfl
theorem gonL_len (t : TM) : (gonL t).length ≤ 256 := by
  unfold gonL
  refine Nat.le_trans (List.length_filter_le _ _) ?_
  rw [(liveK_perm t).length_eq]
  exact t.usedK_len 256
theorem ids_get (t : TM) {ks : List Nat} {j k : Nat} (hk : ks[j]? = some k) : (u64s (t.ids ks))[j]? = some (.int .u64 ((t.at k).1 : Int)) := by
  unfold u64s TM.ids
  rw [List.getElem?_map, List.getElem?_map, hk]
  rfl
end Go.Proofs.YtlkahgagmfhdaaaGreatDoor

namespace Go.Proofs.YtlkahgagmfhdaaaGreatDoor
open Go.RowKit Go.BigFrame
attribute [local go_sem] Oper.semAt_some

set_option maxRecDepth 100000 in
set_option maxHeartbeats 16000000 in
theorem meanL_any (W : World) (E : Env W) (sz ob cp : Int) (fi : Nat) (A : Option Addr) (nd c : Nat) (ds : List Hd5) (hfi : fi < 18446744073709551616) (hnd : nd ≤ 9223372036854775807) (hds : Hds5 W W.heap.size A nd ds) :
    Calls Tryz.prog 5 #[.agg #[.int .i64 sz, .int .i64 ob, .int .i64 cp, .int .u64 (fi : Int), .slice A nd c]] W (Told (.bool true) W) := by
  have HAW := Lib.hid (fun (w : World) (E : Env w) => hawake_any w E)
  have HNU := Lib.hid (fun E hE w' => hnum_any E hE w')
  have HDS := Lib.hid hds
  have hb1 := (Below.refl W.heap.size W).alloc (Nat.le_refl _) (.cells #[.int .i64 sz, .int .i64 ob, .int .i64 cp, .int .u64 (fi : Int), .slice A nd c] 50)
  have HB1 := Lib.hid hb1
  have BS0 := Blk.new W 50 #[.int .i64 sz, .int .i64 ob, .int .i64 cp, .int .u64 (fi : Int), .slice A nd c]
  have HBG := Lib.hid (begun_any _ (E.below hb1) sz ob cp fi hfi A nd c)
  have HE := Lib.hid (E.below hb1)
  obtain ⟨x0, x1, x2, x3, x4⟩ := BS0.cells5
  have BS := Lib.hid BS0
  clear hds hb1 BS0 E
  go_enter Tryz.func5, Tryz.ntmps5
  go_wp2_with fail
  clear x0 x1 x2 x3 x4
  generalize hW2 : W.alloc (.cells #[.int .i64 sz, .int .i64 ob, .int .i64 cp, .int .u64 (fi : Int), .slice A nd c] 50) = W2 at *
  clear hW2
  refine HBG.out.mono ?_
  rintro e w1 (⟨rfl, hb1⟩ | ⟨h0, p, g, gt, rfl, T1⟩)
  · have HA1 := Lib.hid (HAW.out w1 (HE.out.below hb1))
    have HB2 := Lib.hid (below_top HB1.out hb1)
    clear hb1 HBG
    go_wp2_with fail
    refine HA1.out.mono ?_
    rintro e w2 ⟨rfl, hb2⟩
    have HB3 := Lib.hid (below_top HB2.out hb2)
    clear hb2
    go_wp2_with fail
    go_ret
    exact ⟨rfl, HB3.out⟩
  · have HA1 := Lib.hid (HAW.out w1 T1.live.envw)
    have BS1 := Lib.hid (BS.out.below T1.live.below BS.out.lt)
    obtain ⟨m0, hm0⟩ := Int.eq_ofNat_of_zero_le (show 0 ≤ cp by
      by_cases h1 : cp < 1
      · unfold nwE at h0; rw [if_pos (.inl h1)] at h0; cases h0
      · omega)
    have HMI := Lib.hid (show MInv (nwH (hps sz ob) cp) (TM.fresh cp.toNat fi) (fun _ => none) 0 from by
      obtain ⟨l0, G0⟩ := hps_good T1.live.fit
      subst hm0
      exact MInv.fresh G0 hfi h0)
    have HT1 := Lib.hid T1
    have hnow : (TM.fresh cp.toNat fi).now = 0 := rfl
    clear T1 h0 HBG hm0
    generalize nwH (hps sz ob) cp = h0 at *
    generalize TM.fresh cp.toNat fi = t0 at *
    have HNW := Lib.hid hnow
    clear hnow
    have hmm := @run_makeMap Tryz.prog
    go_wp2_with fail
    refine HA1.out.mono ?_
    rintro e w2 ⟨rfl, hb2⟩
    have HT2 := Lib.hid (HT1.out.after hb2)
    have BS2 := Lib.hid (BS1.out.below hb2 BS1.out.lt)
    clear hb2 HT1 BS1 HA1
    go_wp2_with fail
    have HS2 := Lib.hid (show MSt W2 (w2.alloc (.map #[] 0)) p g gt w2.heap.size 0 (.map []) h0 t0 (fun _ => none) (fun _ => 0) 0 from by
      have hba := (Below.refl w2.heap.size w2).alloc (Nat.le_refl _) (.map #[] 0)
      have K := Bk.made w2
      have hle := HT2.out.live.below.size
      exact ⟨HT2.out.after hba, HMI.out, ⟨K.isMap, K.own, K.read, fun _ _ h => (by cases h), fun _ _ _ _ h => (by cases h), hle⟩, fun b hb => by
        rcases hb with rfl | ⟨id, x, hx, -⟩
        · exact ⟨fun hh => by have := HT2.out.live.at_.lt hh; omega, fun e => by have := HT2.out.tab.lt; omega⟩
        · cases hx⟩)
    have BS3 := Lib.hid (BS2.out.alloc (.map #[] 0))
    have HBM := Lib.hid (show W2.heap.size ≤ w2.heap.size from HT2.out.live.below.size)
    clear HT2 BS2 HMI
    generalize w2.alloc (.map #[] 0) = w3 at *
    generalize w2.heap.size = bm at *
    have HSL := Lib.hid BS.out.lt
    go_loopw [7, 8, 9] (fun lv nv iv wr => ∃ (j last now : Nat), iv = .int .i64 (j : Int) ∧ nv = .int .i64 (now : Int) ∧ lv = .int .u64 (last : Int) ∧ j ≤ nd ∧ Hid (MAt W2 wr g gt bm now last j) ∧ Hid (Blk wr W.heap.size 50 #[.int .i64 sz, .int .i64 ob, .int .i64 cp, .int .u64 (fi : Int), .slice A nd c])) (fun _ _ iv _ => nd - (intOf iv).toNat)
    case atStart => exact ⟨0, 0, 0, rfl, rfl, rfl, Nat.zero_le _, Lib.hid ⟨p, 0, _, h0, t0, _, _, HS2.out, HNW.out, Nat.le_refl _⟩, BS3⟩
    case round =>
      clear HS2 BS3 HNW
      obtain ⟨j, last, now, rfl, rfl, rfl, hj, HM, BSj⟩ := hrel
      obtain ⟨p, n, D, h, t, m, at_, S, hnow, hn⟩ := HM.out
      have HS := Lib.hid S
      have HNW := Lib.hid hnow
      have HNN := Lib.hid hn
      clear S hnow hn HM
      obtain ⟨x0, x1, x2, x3, x4⟩ := BSj.out.cells5
      by_cases hlt : j < nd
      · obtain ⟨q, ad, -, fq, hA, hbl, y0, y1, y2, y3, y4⟩ := (HDS.out.below (HB1.out.trans (HS.out.T.live.below.mono HB1.out.size))).at_ hlt
        subst hA
        rw [← add_cell ad (j * 5) 0] at y1
        rw [← add_cell ad (j * 5) 1] at y2
        rw [← add_cell ad (j * 5) 2] at y3
        rw [← add_cell ad (j * 5) 3] at y4
        have HFQ := Lib.hid fq
        have hba := (Below.refl wr.heap.size wr).alloc (Nat.le_refl _) (.cells #[.int .i64 q.k, .int .u32 (q.o : Int), .int .u64 (q.id : Int), .int .i64 q.n, .int .i64 q.i] 72)
        have BN := Blk.new wr 72 #[.int .i64 q.k, .int .u32 (q.o : Int), .int .u64 (q.id : Int), .int .i64 q.n, .int .i64 q.i]
        obtain ⟨z0, z1, z2, z3, z4⟩ := BN.cells5
        have HSa := Lib.hid (HS.out.after hba)
        have BSa := Lib.hid (BSj.out.below hba BSj.out.lt)
        have BNa := Lib.hid BN
        have HBD := Lib.hid (show W2.heap.size ≤ wr.heap.size ∧ ¬ p.has wr.heap.size ∧ wr.heap.size ≠ gt ∧ ¬ bkHas bm m at_ wr.heap.size from ⟨HS.out.T.live.below.size, fun hh => by have := HS.out.T.live.at_.lt hh; omega, fun e => by have := HS.out.T.tab.lt; omega, fun hh => by have := HS.out.K.lt _ hh; omega⟩)
        clear fq hbl hba BN x0 x1 x2 x3 HS BSj
        generalize hqk : q.k = qk at *
        clear hqk
        go_upto_region 13 with fail
        iterate 13 (first | go_values | go_guarded | go_step | go_upon | go_back | go_simp)
        go_cut [7, 8, 11, 12, 13, 14, 15, 16, 17, 19] from 57 to 258 (fun s7 s8 s11 s12 s13 s14 s15 s16 s17 s19 wx => ∃ last' now' : Nat, s7 = .int .u64 (last' : Int) ∧ s8 = .int .i64 (now' : Int) ∧ Hid (MAt W2 wx g gt bm now' last' (j + 1)) ∧ Hid (Blk wx W.heap.size 50 #[.int .i64 sz, .int .i64 ob, .int .i64 cp, .int .u64 (fi : Int), .slice (some ad) nd c]))
        case first =>
          generalize qk.tmod 10 = cv at *
          have hcs : cv = 0 ∨ cv = 1 ∨ cv = 2 ∨ cv = 4 ∨ cv = 5 ∨ cv = 6 ∨ cv = 7 ∨ ((cv == 0) = false ∧ (cv == 1) = false ∧ (cv == 2) = false ∧ (cv == 4) = false ∧ (cv == 5) = false ∧ (cv == 6) = false ∧ (cv == 7) = false) := by
            simp only [beq_eq_false_iff_ne]
            omega
          rcases hcs with rfl | rfl | rfl | rfl | rfl | rfl | rfl | ⟨e0, e1, e2, e4, e5, e6, e7⟩
          · as_aux_lemma =>
              have HIS := Lib.hid (tissue_any HSa.out.T q.o HFQ.out.o q.n)
              have HN := Lib.hid (HNU.out _ (issE_lt h t q.o q.n))
              have HLB := Lib.hid (HSa.out.old HSL.out)
              by_cases he : issE h t q.o q.n = 0
              · obtain ⟨hlt1, hmn, hn1, hio, hser, I2⟩ := HSa.out.I.issue HFQ.out.o he
                obtain ⟨nq, hnq⟩ := Int.eq_ofNat_of_zero_le (show 0 ≤ q.n by omega)
                have HI2 := Lib.hid I2
                have HX := Lib.hid (show issV h t q.o q.n = t.next ∧ issE h t q.o q.n = 0 from ⟨by unfold issV; rw [if_pos he], he⟩)
                have HID := Lib.hid (show t.next < 18446744073709551616 from HSa.out.T.ok.n64)
                have HIB := Lib.hid (show (issH h t q.o q.n).isB q.o = true from by
                  rw [show issH h t q.o q.n = h.putH h.arr t.free q.o by unfold issH; rw [if_pos he], putH_isB]
                  exact hio)
                have HSE := Lib.hid hser
                obtain ⟨ex, hex⟩ : ∃ ex, ex = now + nq := ⟨_, rfl⟩
                have HNX := Lib.hid (show t.now + q.n.toNat = ex from by rw [HNW.out, hnq, hex]; rfl)
                rw [HX.out.1, HX.out.2] at HIS
                rw [HX.out.2] at HN
                have hmn2 := Lib.hid hmn
                have HKS := Lib.hid (fun (wq : World) (h' : HM) (t' : TM) (T' : HT W2 wq p g gt h' t') (Kq : HKeep p gt (wr.alloc (.cells #[.int .i64 qk, .int .u32 (q.o : Int), .int .u64 (q.id : Int), .int .i64 q.n, .int .i64 q.i] 72)) wq) => HSa.out.keptBy T' Kq)
                have hnw2 := HNW.out
                have hqb := HFQ.out.n2
                have htn := HSa.out.T.ok.nw
                have hlt2 : ¬ (t.next : Int) ≤ (last : Int) := by omega
                have hn2 : ¬ q.n < 1 := by omega
                have a1 : IntKind.i64.wrap ((now : Int) + q.n) = (ex : Int) := by
                  have hl := (iss_parts he).2.2.1
                  unfold leaseB at hl
                  have hl : 1 ≤ q.n ∧ q.n ≤ 1000000 := by simpa using hl
                  rw [IntWalk.i64_in _ (by omega), hnq, hex]
                  omega
                clear he hio hser I2 hnq hmn hlt1 hn1 hnw2 hqb htn hex
                have HNT := Lib.hid (show (issT h t q.o q.n).now = now from by rw [← HNW.out]; unfold issT; split <;> rfl)
                generalize hT2 : issT h t q.o q.n = t2 at *
                generalize hH2 : issH h t q.o q.n = h2 at *
                clear hT2 hH2
                generalize t.next = id at *
                go_wp2_with fail
                refine HIS.out.mono ?_
                rintro e w4 ⟨rfl, T4, K4⟩
                have HT4 := Lib.hid T4
                have HK4 := Lib.hid (HKS.out _ _ _ T4 K4)
                have BS4 := Lib.hid (BSa.out.same (K4.block _ BSa.out.lt HLB.out.1 HLB.out.2.1))
                have BN4 := Lib.hid (BNa.out.same (K4.block _ BNa.out.lt HBD.out.2.1 HBD.out.2.2.1))
                have HHD := Lib.hid (T4.head HFQ.out.o HIB.out)
                obtain ⟨z0, z1, z2, z3, z4⟩ := BN4.out.cells5
                clear T4 K4 HIS HKS
                go_wp2_with fail
                refine (HN.out _).mono ?_
                rintro e w5 ⟨rfl, rfl⟩
                go_wp2_with fail
                refine HHD.out.mono ?_
                rintro e w5 ⟨rfl, hb5⟩
                have HB5 := Lib.hid hb5
                have HSE2 := HSE.out
                generalize (h2.hd (q.o / 2)).size = k0 at *
                generalize (h2.hd (q.o / 2)).fmt = k1 at *
                generalize (h2.hd (q.o / 2)).spare = k2 at *
                generalize (h2.hd (q.o / 2)).cls = k3 at *
                generalize serK h2 q.o = k4 at *
                have HK4E := Lib.hid HSE2
                clear hb5 HSE2 HSE HHD z0 z1 z2 z3 z4
                have hal := (Below.refl w5.heap.size w5).alloc (Nat.le_refl _) (.cells #[.int .i64 (k0 : Int), .int .i64 (k1 : Int), .int .i64 (k2 : Int), .int .u32 (k3 : Int), .int .u32 (k4 : Int)] 75)
                have hs6 : (w5.alloc (.cells #[.int .i64 (k0 : Int), .int .i64 (k1 : Int), .int .i64 (k2 : Int), .int .u32 (k3 : Int), .int .u32 (k4 : Int)] 75)).heap.size = w5.heap.size + 1 := World.size_alloc _ _
                have hb6 := below_top HB5.out hal
                have hb7 := below_top hb6 ((Below.refl _ _).alloc (Nat.le_refl _) (.cells #[.int .u32 (k4 : Int), .int .i64 (ex : Int), .bool true] 80))
                have K6 := HK4.out.below hb6
                have hlk := K6.look HID.out
                rw [show bkP m at_ id = .pointer none by unfold bkP; rw [hmn2.out]] at hlk
                have BE := Blk.new (w5.alloc (.cells #[.int .i64 (k0 : Int), .int .i64 (k1 : Int), .int .i64 (k2 : Int), .int .u32 (k3 : Int), .int .u32 (k4 : Int)] 75)) 80 #[.int .u32 (k4 : Int), .int .i64 (ex : Int), .bool true]
                rw [hs6] at BE
                have BN6 := BN4.out.below hb6 BN4.out.lt
                have BH6 := Blk.new w5 75 #[.int .i64 (k0 : Int), .int .i64 (k1 : Int), .int .i64 (k2 : Int), .int .u32 (k3 : Int), .int .u32 (k4 : Int)]
                obtain ⟨z0, z1, z2, z3, z4⟩ := BN6.cells5
                obtain ⟨y0, y1, y2, y3, y4⟩ := BH6.cells5
                have hI2 := HI2.out
                rw [HNX.out, ← HK4E.out] at hI2
                have hw5 : w4.heap.size ≤ w5.heap.size := HB5.out.size
                obtain ⟨w8, hmu, ⟨D8, S8⟩, hg8⟩ := mst_put (HT4.out.after hb7) (HK4.out.below hb7) HSa.out.far HID.out (x := (k4, ex, true)) BE (by have := HT4.out.live.below.size; omega) ⟨fun hh => by have := HT4.out.live.at_.lt hh; omega, fun e => by have := HT4.out.tab.lt; omega⟩ (fun hh => by have := HK4.out.lt _ hh; omega) (by have := HNN.out; omega) hI2
                have HS8 := Lib.hid S8
                have BS8 := Lib.hid ((BS4.out.below hb7 BS4.out.lt).same (hg8.block _ (BS4.out.below hb7 BS4.out.lt).lt (by intro e; injection e with e; exact HLB.out.2.2 (.inl e))))
                clear hI2 S8 hg8 hb6 hb7 BE BN6 BH6 K6 hal hs6 y0 y1 y2 y3 z0 z1 z2 z4 hw5
                go_wp2_with fail
                refine (HNU.out 0 (by decide) _).mono ?_
                rintro e w6 ⟨rfl, rfl⟩
                go_wp2_with fail
                trace_state
                go_meet
                exact ⟨id, now, rfl, rfl, Lib.hid ⟨p, n + 1, D8, h2, t2, _, _, HS8.out, HNT.out, by have := HNN.out; omega⟩, BS8⟩
              · have HNO := Lib.hid (iss_no he)
                have hne : ((issE h t q.o q.n : Int) != 0) = true := by simp; omega
                clear he
                generalize issE h t q.o q.n = E7 at *
                generalize issV h t q.o q.n = V7 at *
                go_wp2_with fail
                refine HIS.out.mono ?_
                rintro e w4 ⟨rfl, T4, K4⟩
                rw [HNO.out.1, HNO.out.2] at T4
                have HS4 := Lib.hid (HSa.out.deed T4 K4 HSa.out.I)
                have BS4 := Lib.hid (BSa.out.same (K4.block _ BSa.out.lt HLB.out.1 HLB.out.2.1))
                clear T4 K4
                go_wp2_with fail
                refine (HN.out _).mono ?_
                rintro e w5 ⟨rfl, rfl⟩
                go_wp2_with fail
                go_meet
                exact ⟨last, now, rfl, rfl, Lib.hid ⟨p, n, D, h, t, m, at_, HS4.out, HNW.out, by have := HNN.out; omega⟩, BS4⟩
          · as_aux_lemma =>
              have HIS := Lib.hid (tissue_any HSa.out.T q.o HFQ.out.o q.n)
              have HN := Lib.hid (HNU.out _ (issE_lt h t q.o q.n))
              have HLB := Lib.hid (HSa.out.old HSL.out)
              by_cases he : issE h t q.o q.n = 0
              · obtain ⟨hlt1, hmn, hn1, hio, hser, I2⟩ := HSa.out.I.issue HFQ.out.o he
                obtain ⟨nq, hnq⟩ := Int.eq_ofNat_of_zero_le (show 0 ≤ q.n by omega)
                have HI2 := Lib.hid I2
                have HX := Lib.hid (show issV h t q.o q.n = t.next ∧ issE h t q.o q.n = 0 from ⟨by unfold issV; rw [if_pos he], he⟩)
                have HID := Lib.hid (show t.next < 18446744073709551616 from HSa.out.T.ok.n64)
                have HIB := Lib.hid (show (issH h t q.o q.n).isB q.o = true from by
                  rw [show issH h t q.o q.n = h.putH h.arr t.free q.o by unfold issH; rw [if_pos he], putH_isB]
                  exact hio)
                have HSE := Lib.hid hser
                obtain ⟨ex, hex⟩ : ∃ ex, ex = now + nq := ⟨_, rfl⟩
                have HNX := Lib.hid (show t.now + q.n.toNat = ex from by rw [HNW.out, hnq, hex]; rfl)
                rw [HX.out.1, HX.out.2] at HIS
                rw [HX.out.2] at HN
                have hmn2 := Lib.hid hmn
                have HKS := Lib.hid (fun (wq : World) (h' : HM) (t' : TM) (T' : HT W2 wq p g gt h' t') (Kq : HKeep p gt (wr.alloc (.cells #[.int .i64 qk, .int .u32 (q.o : Int), .int .u64 (q.id : Int), .int .i64 q.n, .int .i64 q.i] 72)) wq) => HSa.out.keptBy T' Kq)
                have hnw2 := HNW.out
                have hqb := HFQ.out.n2
                have htn := HSa.out.T.ok.nw
                have hlt2 : ¬ (t.next : Int) ≤ (last : Int) := by omega
                have hn2 : ¬ q.n < 1 := by omega
                have a1 : IntKind.i64.wrap ((now : Int) + q.n) = (ex : Int) := by
                  have hl := (iss_parts he).2.2.1
                  unfold leaseB at hl
                  have hl : 1 ≤ q.n ∧ q.n ≤ 1000000 := by simpa using hl
                  rw [IntWalk.i64_in _ (by omega), hnq, hex]
                  omega
                clear he hio hser I2 hnq hmn hlt1 hn1 hnw2 hqb htn hex
                have HNT := Lib.hid (show (issT h t q.o q.n).now = now from by rw [← HNW.out]; unfold issT; split <;> rfl)
                generalize hT2 : issT h t q.o q.n = t2 at *
                generalize hH2 : issH h t q.o q.n = h2 at *
                clear hT2 hH2
                generalize t.next = id at *
                go_wp2_with fail
                refine HIS.out.mono ?_
                rintro e w4 ⟨rfl, T4, K4⟩
                have HT4 := Lib.hid T4
                have HK4 := Lib.hid (HKS.out _ _ _ T4 K4)
                have BS4 := Lib.hid (BSa.out.same (K4.block _ BSa.out.lt HLB.out.1 HLB.out.2.1))
                have BN4 := Lib.hid (BNa.out.same (K4.block _ BNa.out.lt HBD.out.2.1 HBD.out.2.2.1))
                have HHD := Lib.hid (T4.head HFQ.out.o HIB.out)
                obtain ⟨z0, z1, z2, z3, z4⟩ := BN4.out.cells5
                clear T4 K4 HIS HKS
                go_wp2_with fail
                refine (HN.out _).mono ?_
                rintro e w5 ⟨rfl, rfl⟩
                go_wp2_with fail
                refine HHD.out.mono ?_
                rintro e w5 ⟨rfl, hb5⟩
                have HB5 := Lib.hid hb5
                have HSE2 := HSE.out
                generalize (h2.hd (q.o / 2)).size = k0 at *
                generalize (h2.hd (q.o / 2)).fmt = k1 at *
                generalize (h2.hd (q.o / 2)).spare = k2 at *
                generalize (h2.hd (q.o / 2)).cls = k3 at *
                generalize serK h2 q.o = k4 at *
                have HK4E := Lib.hid HSE2
                clear hb5 HSE2 HSE HHD z0 z1 z2 z3 z4
                have hal := (Below.refl w5.heap.size w5).alloc (Nat.le_refl _) (.cells #[.int .i64 (k0 : Int), .int .i64 (k1 : Int), .int .i64 (k2 : Int), .int .u32 (k3 : Int), .int .u32 (k4 : Int)] 75)
                have hs6 : (w5.alloc (.cells #[.int .i64 (k0 : Int), .int .i64 (k1 : Int), .int .i64 (k2 : Int), .int .u32 (k3 : Int), .int .u32 (k4 : Int)] 75)).heap.size = w5.heap.size + 1 := World.size_alloc _ _
                have hb6 := below_top HB5.out hal
                have hb7 := below_top hb6 ((Below.refl _ _).alloc (Nat.le_refl _) (.cells #[.int .u32 (k4 : Int), .int .i64 (ex : Int), .bool true] 80))
                have K6 := HK4.out.below hb6
                have hlk := K6.look HID.out
                rw [show bkP m at_ id = .pointer none by unfold bkP; rw [hmn2.out]] at hlk
                have BE := Blk.new (w5.alloc (.cells #[.int .i64 (k0 : Int), .int .i64 (k1 : Int), .int .i64 (k2 : Int), .int .u32 (k3 : Int), .int .u32 (k4 : Int)] 75)) 80 #[.int .u32 (k4 : Int), .int .i64 (ex : Int), .bool true]
                rw [hs6] at BE
                have BN6 := BN4.out.below hb6 BN4.out.lt
                have BH6 := Blk.new w5 75 #[.int .i64 (k0 : Int), .int .i64 (k1 : Int), .int .i64 (k2 : Int), .int .u32 (k3 : Int), .int .u32 (k4 : Int)]
                obtain ⟨z0, z1, z2, z3, z4⟩ := BN6.cells5
                obtain ⟨y0, y1, y2, y3, y4⟩ := BH6.cells5
                have hI2 := HI2.out
                rw [HNX.out, ← HK4E.out] at hI2
                have hw5 : w4.heap.size ≤ w5.heap.size := HB5.out.size
                obtain ⟨w8, hmu, ⟨D8, S8⟩, hg8⟩ := mst_put (HT4.out.after hb7) (HK4.out.below hb7) HSa.out.far HID.out (x := (k4, ex, true)) BE (by have := HT4.out.live.below.size; omega) ⟨fun hh => by have := HT4.out.live.at_.lt hh; omega, fun e => by have := HT4.out.tab.lt; omega⟩ (fun hh => by have := HK4.out.lt _ hh; omega) (by have := HNN.out; omega) hI2
                have HS8 := Lib.hid S8
                have BS8 := Lib.hid ((BS4.out.below hb7 BS4.out.lt).same (hg8.block _ (BS4.out.below hb7 BS4.out.lt).lt (by intro e; injection e with e; exact HLB.out.2.2 (.inl e))))
                clear hI2 S8 hg8 hb6 hb7 BE BN6 BH6 K6 hal hs6 y0 y1 y2 y3 z0 z1 z2 z4 hw5
                go_wp2_with fail
                refine (HNU.out 0 (by decide) _).mono ?_
                rintro e w6 ⟨rfl, rfl⟩
                go_wp2_with fail
                trace_state
                go_meet
                exact ⟨id, now, rfl, rfl, Lib.hid ⟨p, n + 1, D8, h2, t2, _, _, HS8.out, HNT.out, by have := HNN.out; omega⟩, BS8⟩
              · have HNO := Lib.hid (iss_no he)
                have hne : ((issE h t q.o q.n : Int) != 0) = true := by simp; omega
                clear he
                generalize issE h t q.o q.n = E7 at *
                generalize issV h t q.o q.n = V7 at *
                go_wp2_with fail
                refine HIS.out.mono ?_
                rintro e w4 ⟨rfl, T4, K4⟩
                rw [HNO.out.1, HNO.out.2] at T4
                have HS4 := Lib.hid (HSa.out.deed T4 K4 HSa.out.I)
                have BS4 := Lib.hid (BSa.out.same (K4.block _ BSa.out.lt HLB.out.1 HLB.out.2.1))
                clear T4 K4
                go_wp2_with fail
                refine (HN.out _).mono ?_
                rintro e w5 ⟨rfl, rfl⟩
                go_wp2_with fail
                go_meet
                exact ⟨last, now, rfl, rfl, Lib.hid ⟨p, n, D, h, t, m, at_, HS4.out, HNW.out, by have := HNN.out; omega⟩, BS4⟩
          · as_aux_lemma =>
              have HIS := Lib.hid (tissue_any HSa.out.T q.o HFQ.out.o q.n)
              have HN := Lib.hid (HNU.out _ (issE_lt h t q.o q.n))
              have HLB := Lib.hid (HSa.out.old HSL.out)
              by_cases he : issE h t q.o q.n = 0
              · obtain ⟨hlt1, hmn, hn1, hio, hser, I2⟩ := HSa.out.I.issue HFQ.out.o he
                obtain ⟨nq, hnq⟩ := Int.eq_ofNat_of_zero_le (show 0 ≤ q.n by omega)
                have HI2 := Lib.hid I2
                have HX := Lib.hid (show issV h t q.o q.n = t.next ∧ issE h t q.o q.n = 0 from ⟨by unfold issV; rw [if_pos he], he⟩)
                have HID := Lib.hid (show t.next < 18446744073709551616 from HSa.out.T.ok.n64)
                have HIB := Lib.hid (show (issH h t q.o q.n).isB q.o = true from by
                  rw [show issH h t q.o q.n = h.putH h.arr t.free q.o by unfold issH; rw [if_pos he], putH_isB]
                  exact hio)
                have HSE := Lib.hid hser
                obtain ⟨ex, hex⟩ : ∃ ex, ex = now + nq := ⟨_, rfl⟩
                have HNX := Lib.hid (show t.now + q.n.toNat = ex from by rw [HNW.out, hnq, hex]; rfl)
                rw [HX.out.1, HX.out.2] at HIS
                rw [HX.out.2] at HN
                have hmn2 := Lib.hid hmn
                have HKS := Lib.hid (fun (wq : World) (h' : HM) (t' : TM) (T' : HT W2 wq p g gt h' t') (Kq : HKeep p gt (wr.alloc (.cells #[.int .i64 qk, .int .u32 (q.o : Int), .int .u64 (q.id : Int), .int .i64 q.n, .int .i64 q.i] 72)) wq) => HSa.out.keptBy T' Kq)
                have hnw2 := HNW.out
                have hqb := HFQ.out.n2
                have htn := HSa.out.T.ok.nw
                have hlt2 : ¬ (t.next : Int) ≤ (last : Int) := by omega
                have hn2 : ¬ q.n < 1 := by omega
                have a1 : IntKind.i64.wrap ((now : Int) + q.n) = (ex : Int) := by
                  have hl := (iss_parts he).2.2.1
                  unfold leaseB at hl
                  have hl : 1 ≤ q.n ∧ q.n ≤ 1000000 := by simpa using hl
                  rw [IntWalk.i64_in _ (by omega), hnq, hex]
                  omega
                clear he hio hser I2 hnq hmn hlt1 hn1 hnw2 hqb htn hex
                have HNT := Lib.hid (show (issT h t q.o q.n).now = now from by rw [← HNW.out]; unfold issT; split <;> rfl)
                generalize hT2 : issT h t q.o q.n = t2 at *
                generalize hH2 : issH h t q.o q.n = h2 at *
                clear hT2 hH2
                generalize t.next = id at *
                go_wp2_with fail
                refine HIS.out.mono ?_
                rintro e w4 ⟨rfl, T4, K4⟩
                have HT4 := Lib.hid T4
                have HK4 := Lib.hid (HKS.out _ _ _ T4 K4)
                have BS4 := Lib.hid (BSa.out.same (K4.block _ BSa.out.lt HLB.out.1 HLB.out.2.1))
                have BN4 := Lib.hid (BNa.out.same (K4.block _ BNa.out.lt HBD.out.2.1 HBD.out.2.2.1))
                have HHD := Lib.hid (T4.head HFQ.out.o HIB.out)
                obtain ⟨z0, z1, z2, z3, z4⟩ := BN4.out.cells5
                clear T4 K4 HIS HKS
                go_wp2_with fail
                refine (HN.out _).mono ?_
                rintro e w5 ⟨rfl, rfl⟩
                go_wp2_with fail
                refine HHD.out.mono ?_
                rintro e w5 ⟨rfl, hb5⟩
                have HB5 := Lib.hid hb5
                have HSE2 := HSE.out
                generalize (h2.hd (q.o / 2)).size = k0 at *
                generalize (h2.hd (q.o / 2)).fmt = k1 at *
                generalize (h2.hd (q.o / 2)).spare = k2 at *
                generalize (h2.hd (q.o / 2)).cls = k3 at *
                generalize serK h2 q.o = k4 at *
                have HK4E := Lib.hid HSE2
                clear hb5 HSE2 HSE HHD z0 z1 z2 z3 z4
                have hal := (Below.refl w5.heap.size w5).alloc (Nat.le_refl _) (.cells #[.int .i64 (k0 : Int), .int .i64 (k1 : Int), .int .i64 (k2 : Int), .int .u32 (k3 : Int), .int .u32 (k4 : Int)] 75)
                have hs6 : (w5.alloc (.cells #[.int .i64 (k0 : Int), .int .i64 (k1 : Int), .int .i64 (k2 : Int), .int .u32 (k3 : Int), .int .u32 (k4 : Int)] 75)).heap.size = w5.heap.size + 1 := World.size_alloc _ _
                have hb6 := below_top HB5.out hal
                have hb7 := below_top hb6 ((Below.refl _ _).alloc (Nat.le_refl _) (.cells #[.int .u32 (k4 : Int), .int .i64 (ex : Int), .bool true] 80))
                have K6 := HK4.out.below hb6
                have hlk := K6.look HID.out
                rw [show bkP m at_ id = .pointer none by unfold bkP; rw [hmn2.out]] at hlk
                have BE := Blk.new (w5.alloc (.cells #[.int .i64 (k0 : Int), .int .i64 (k1 : Int), .int .i64 (k2 : Int), .int .u32 (k3 : Int), .int .u32 (k4 : Int)] 75)) 80 #[.int .u32 (k4 : Int), .int .i64 (ex : Int), .bool true]
                rw [hs6] at BE
                have BN6 := BN4.out.below hb6 BN4.out.lt
                have BH6 := Blk.new w5 75 #[.int .i64 (k0 : Int), .int .i64 (k1 : Int), .int .i64 (k2 : Int), .int .u32 (k3 : Int), .int .u32 (k4 : Int)]
                obtain ⟨z0, z1, z2, z3, z4⟩ := BN6.cells5
                obtain ⟨y0, y1, y2, y3, y4⟩ := BH6.cells5
                have hI2 := HI2.out
                rw [HNX.out, ← HK4E.out] at hI2
                have hw5 : w4.heap.size ≤ w5.heap.size := HB5.out.size
                obtain ⟨w8, hmu, ⟨D8, S8⟩, hg8⟩ := mst_put (HT4.out.after hb7) (HK4.out.below hb7) HSa.out.far HID.out (x := (k4, ex, true)) BE (by have := HT4.out.live.below.size; omega) ⟨fun hh => by have := HT4.out.live.at_.lt hh; omega, fun e => by have := HT4.out.tab.lt; omega⟩ (fun hh => by have := HK4.out.lt _ hh; omega) (by have := HNN.out; omega) hI2
                have HS8 := Lib.hid S8
                have BS8 := Lib.hid ((BS4.out.below hb7 BS4.out.lt).same (hg8.block _ (BS4.out.below hb7 BS4.out.lt).lt (by intro e; injection e with e; exact HLB.out.2.2 (.inl e))))
                clear hI2 S8 hg8 hb6 hb7 BE BN6 BH6 K6 hal hs6 y0 y1 y2 y3 z0 z1 z2 z4 hw5
                go_wp2_with fail
                refine (HNU.out 0 (by decide) _).mono ?_
                rintro e w6 ⟨rfl, rfl⟩
                go_wp2_with fail
                trace_state
                go_meet
                exact ⟨id, now, rfl, rfl, Lib.hid ⟨p, n + 1, D8, h2, t2, _, _, HS8.out, HNT.out, by have := HNN.out; omega⟩, BS8⟩
              · have HNO := Lib.hid (iss_no he)
                have hne : ((issE h t q.o q.n : Int) != 0) = true := by simp; omega
                clear he
                generalize issE h t q.o q.n = E7 at *
                generalize issV h t q.o q.n = V7 at *
                go_wp2_with fail
                refine HIS.out.mono ?_
                rintro e w4 ⟨rfl, T4, K4⟩
                rw [HNO.out.1, HNO.out.2] at T4
                have HS4 := Lib.hid (HSa.out.deed T4 K4 HSa.out.I)
                have BS4 := Lib.hid (BSa.out.same (K4.block _ BSa.out.lt HLB.out.1 HLB.out.2.1))
                clear T4 K4
                go_wp2_with fail
                refine (HN.out _).mono ?_
                rintro e w5 ⟨rfl, rfl⟩
                go_wp2_with fail
                go_meet
                exact ⟨last, now, rfl, rfl, Lib.hid ⟨p, n, D, h, t, m, at_, HS4.out, HNW.out, by have := HNN.out; omega⟩, BS4⟩
          · as_aux_lemma =>
              have HRN := Lib.hid (trenew_any HSa.out.T q.id HFQ.out.id q.n)
              have HN := Lib.hid (HNU.out _ (rnwE_lt h t q.id q.n))
              have HLB := Lib.hid (HSa.out.old HSL.out)
              by_cases he : rnwE h t q.id q.n = 0
              · obtain ⟨s0, e0, hm, I2⟩ := HSa.out.I.renew he
                have hn2 : 1 ≤ q.n ∧ q.n ≤ 1000000 := by
                  have hl : leaseB q.n = true := by
                    unfold rnwE at he
                    split at he
                    · split at he
                      · rename_i h1; exact h1
                      · omega
                    · omega
                  unfold leaseB at hl
                  simpa using hl
                obtain ⟨nq, hnq⟩ := Int.eq_ofNat_of_zero_le (show 0 ≤ q.n by omega)
                obtain ⟨ex, hex⟩ : ∃ ex, ex = now + nq := ⟨_, rfl⟩
                have HI2 := Lib.hid (show MInv h (rnwT h t q.id q.n) (updM m q.id (s0, ex, true)) last from by
                  rw [hex, ← HNW.out]
                  rw [hnq] at I2 ⊢
                  exact I2)
                have htn := HSa.out.T.ok.nw
                have hnw2 := HNW.out
                have a1 : IntKind.i64.wrap ((now : Int) + q.n) = (ex : Int) := by
                  rw [IntWalk.i64_in _ (by omega), hnq, hex]
                  omega
                rw [he] at HRN HN
                have HM2 := Lib.hid hm
                have HBP := Lib.hid (bkP_some (at_ := at_) hm)
                have HNT := Lib.hid (show (rnwT h t q.id q.n).now = now from (rnw_now h t q.id q.n).trans HNW.out)
                have HKS := Lib.hid (fun (wq : World) (h' : HM) (t' : TM) (T' : HT W2 wq p g gt h' t') (Kq : HKeep p gt (wr.alloc (.cells #[.int .i64 qk, .int .u32 (q.o : Int), .int .u64 (q.id : Int), .int .i64 q.n, .int .i64 q.i] 72)) wq) => HSa.out.keptBy T' Kq)
                clear he I2 hn2 hnq hex htn hnw2 hm
                generalize rnwT h t q.id q.n = t2 at *
                go_wp2_with fail
                refine HRN.out.mono ?_
                rintro e w4 ⟨rfl, T4, K4⟩
                have HT4 := Lib.hid T4
                have HK4 := Lib.hid (HKS.out _ _ _ T4 K4)
                have BS4 := Lib.hid (BSa.out.same (K4.block _ BSa.out.lt HLB.out.1 HLB.out.2.1))
                have BN4 := BNa.out.same (K4.block _ BNa.out.lt HBD.out.2.1 HBD.out.2.2.1)
                obtain ⟨z0, z1, z2, z3, z4⟩ := BN4.cells5
                have hlk := HK4.out.look HFQ.out.id
                rw [HBP.out] at hlk
                obtain ⟨k0, k1, k2⟩ := HK4.out.cells HM2.out
                have kf := (HK4.out.ent _ _ HM2.out).1.fz
                clear T4 K4 HRN HKS BN4
                generalize hfb : at_ q.id = eb at *
                have HEB := Lib.hid hfb
                clear hfb
                go_wp2_with fail
                refine (HN.out _).mono ?_
                rintro e w5 ⟨rfl, rfl⟩
                go_wp2_with fail
                go_meet
                exact ⟨last, now, rfl, rfl, Lib.hid ⟨p, n, D, h, t2, _, at_, by rw [← HEB.out]; exact mst_set HT4.out HK4.out HSa.out.far HM2.out rfl HI2.out, HNT.out, by have := HNN.out; omega⟩, Lib.hid (BS4.out.far (p := ⟨eb, 1, none⟩) (by rw [← HEB.out]; intro e; exact HLB.out.2.2 (.inr ⟨_, _, HM2.out, e.symm⟩)) _)⟩
              · have HNO := Lib.hid (rnw_no he)
                have hne : ((rnwE h t q.id q.n : Int) == 0) = false := by simp; omega
                clear he
                generalize rnwE h t q.id q.n = E7 at *
                go_wp2_with fail
                refine HRN.out.mono ?_
                rintro e w4 ⟨rfl, T4, K4⟩
                rw [HNO.out] at T4
                have HS4 := Lib.hid (HSa.out.deed T4 K4 HSa.out.I)
                have BS4 := Lib.hid (BSa.out.same (K4.block _ BSa.out.lt HLB.out.1 HLB.out.2.1))
                clear T4 K4
                go_wp2_with fail
                refine (HN.out _).mono ?_
                rintro e w5 ⟨rfl, rfl⟩
                go_wp2_with fail
                go_meet
                exact ⟨last, now, rfl, rfl, Lib.hid ⟨p, n, D, h, t, m, at_, HS4.out, HNW.out, by have := HNN.out; omega⟩, BS4⟩
          · as_aux_lemma =>
              have HRN := Lib.hid (trelease_any HSa.out.T q.id HFQ.out.id)
              have HN := Lib.hid (HNU.out _ (fndE_lt h t q.id))
              have HLB := Lib.hid (HSa.out.old HSL.out)
              by_cases he : fndE h t q.id = 0
              · obtain ⟨s0, e0, hm, I2⟩ := HSa.out.I.release he
                have HI2 := Lib.hid I2
                rw [he] at HRN HN
                have HM2 := Lib.hid hm
                have HBP := Lib.hid (bkP_some (at_ := at_) hm)
                have HNT := Lib.hid (show (relT h t q.id).now = now from (rel_now h t q.id).trans HNW.out)
                have HKS := Lib.hid (fun (wq : World) (h' : HM) (t' : TM) (T' : HT W2 wq p g gt h' t') (Kq : HKeep p gt (wr.alloc (.cells #[.int .i64 qk, .int .u32 (q.o : Int), .int .u64 (q.id : Int), .int .i64 q.n, .int .i64 q.i] 72)) wq) => HSa.out.keptBy T' Kq)
                clear he I2 hm
                generalize relT h t q.id = t2 at *
                generalize relH h t q.id = h2 at *
                go_wp2_with fail
                refine HRN.out.mono ?_
                rintro e w4 ⟨rfl, T4, K4⟩
                have HT4 := Lib.hid T4
                have HK4 := Lib.hid (HKS.out _ _ _ T4 K4)
                have BS4 := Lib.hid (BSa.out.same (K4.block _ BSa.out.lt HLB.out.1 HLB.out.2.1))
                have BN4 := BNa.out.same (K4.block _ BNa.out.lt HBD.out.2.1 HBD.out.2.2.1)
                obtain ⟨z0, z1, z2, z3, z4⟩ := BN4.cells5
                have hlk := HK4.out.look HFQ.out.id
                rw [HBP.out] at hlk
                obtain ⟨k0, k1, k2⟩ := HK4.out.cells HM2.out
                have kf := (HK4.out.ent _ _ HM2.out).1.fz
                clear T4 K4 HRN HKS BN4
                generalize hfb : at_ q.id = eb at *
                have HEB := Lib.hid hfb
                clear hfb
                go_wp2_with fail
                refine (HN.out _).mono ?_
                rintro e w5 ⟨rfl, rfl⟩
                go_wp2_with fail
                go_meet
                exact ⟨last, now, rfl, rfl, Lib.hid ⟨p, n, D, h2, t2, _, at_, by rw [← HEB.out]; exact mst_set HT4.out HK4.out HSa.out.far HM2.out rfl HI2.out, HNT.out, by have := HNN.out; omega⟩, Lib.hid (BS4.out.far (p := ⟨eb, 2, none⟩) (by rw [← HEB.out]; intro e; exact HLB.out.2.2 (.inr ⟨_, _, HM2.out, e.symm⟩)) _)⟩
              · have HNO := Lib.hid (rel_no he)
                have hne : ((fndE h t q.id : Int) == 0) = false := by simp; omega
                clear he
                generalize fndE h t q.id = E7 at *
                go_wp2_with fail
                refine HRN.out.mono ?_
                rintro e w4 ⟨rfl, T4, K4⟩
                rw [HNO.out.1, HNO.out.2] at T4
                have HS4 := Lib.hid (HSa.out.deed T4 K4 HSa.out.I)
                have BS4 := Lib.hid (BSa.out.same (K4.block _ BSa.out.lt HLB.out.1 HLB.out.2.1))
                clear T4 K4
                go_wp2_with fail
                refine (HN.out _).mono ?_
                rintro e w5 ⟨rfl, rfl⟩
                go_wp2_with fail
                go_meet
                exact ⟨last, now, rfl, rfl, Lib.hid ⟨p, n, D, h, t, m, at_, HS4.out, HNW.out, by have := HNN.out; omega⟩, BS4⟩
          · as_aux_lemma =>
              have HTK := Lib.hid (ttick_any HSa.out.T q.n HFQ.out.n1 HFQ.out.n2)
              have HN := Lib.hid (HNU.out _ (tikE_lt h t q.n))
              have HLB := Lib.hid (HSa.out.old HSL.out)
              by_cases he : tikE h t q.n = 0
              · have hq : 0 ≤ q.n ∧ q.n ≤ 1099511627776 - (t.now : Int) := by
                  unfold tikE at he
                  split at he
                  · omega
                  · split at he
                    · omega
                    · omega
                obtain ⟨nq, hnq⟩ := Int.eq_ofNat_of_zero_le hq.1
                have he2 : tikE h t (nq : Int) = 0 := by rw [← hnq]; exact he
                obtain ⟨gH, gT, gL⟩ := tik_gon he2
                have hpass : t.now + nq ≤ 1099511627776 := by omega
                have HIP := Lib.hid (HSa.out.I.pass hpass)
                have HOP := Lib.hid (HSa.out.I.ok.pass hpass)
                have HPN := Lib.hid (show (t.pass nq).now = now + nq from by rw [← HNW.out]; rfl)
                have a1 : IntKind.i64.wrap ((now : Int) + q.n) = ((now + nq : Nat) : Int) := by
                  have hnw2 := HNW.out
                  rw [IntWalk.i64_in _ (by omega), hnq]
                  omega
                rw [he] at HN
                have HTK := HTK.out
                unfold TickP at HTK
                rw [he, hnq, gH, gT, gL] at HTK
                have HTK := Lib.hid HTK
                have HGL := Lib.hid (gonL_len (t.pass nq))
                have HKS := Lib.hid (fun (wq : World) (h' : HM) (t' : TM) (T' : HT W2 wq p g gt h' t') (Kq : HKeep p gt (wr.alloc (.cells #[.int .i64 qk, .int .u32 (q.o : Int), .int .u64 (q.id : Int), .int .i64 q.n, .int .i64 q.i] 72)) wq) => HSa.out.keptBy T' Kq)
                have HBL := Lib.hid (fun b hb => HSa.out.K.lt b hb)
                clear he he2 hq hpass gH gT gL
                obtain ⟨nw2, hn2⟩ : ∃ x, x = now + nq := ⟨_, rfl⟩
                rw [← hn2] at a1 HPN
                generalize t.pass nq = tp at *
                clear hn2
                have HNQ := Lib.hid hnq
                clear hnq
                rw [← HNQ.out] at HTK
                go_wp2_with fail
                refine HTK.out.mono ?_
                rintro e w4 ⟨v4, rfl, hown4, T4, K4⟩
                have HT4 := Lib.hid T4
                have HK4 := Lib.hid (HKS.out _ _ _ T4 K4)
                have BS4 := Lib.hid (BSa.out.same (K4.block _ BSa.out.lt HLB.out.1 HLB.out.2.1))
                have BN4 := BNa.out.same (K4.block _ BNa.out.lt HBD.out.2.1 HBD.out.2.2.1)
                have z3 := BN4.cells5.2.2.2.1
                rw [show (tp.ids (gonL tp)).length = (gonL tp).length from List.length_map _] at hown4
                obtain ⟨Av, cv4, rfl⟩ := own_val hown4
                have HOB := Lib.hid (show ∀ q', (Value.slice Av (gonL tp).length cv4).ownBlock = some q' → ¬ bkHas bm m at_ q' from fun q' hq' hb => by have h1 := (hown4.lt q' hq').1; have h2 := HBL.out q' hb; omega)
                have HO4 := Lib.hid (own_base hown4 (Nat.zero_le _))
                clear T4 K4 hown4 BN4 HTK HKS HBL z0 z1 z2 z4
                go_wp2_with fail
                refine (HN.out _).mono ?_
                rintro e w5 ⟨rfl, rfl⟩
                clear HNW
                go_upto_region 39 with fail
                go_loopw [17] (fun iv wx => ∃ (jj : Nat) (m' : BkM), iv = .int .i64 (jj : Int) ∧ jj ≤ (gonL tp).length ∧ Hid (HT W2 wx p g gt (h.clrs (gonL tp)) (tp.clears (gonL tp))) ∧ Hid (MInv (h.clrs ((gonL tp).take jj)) (tp.clears ((gonL tp).take jj)) m' last) ∧ Hid (Bk wx W2.heap.size bm n D m' at_) ∧ Hid (∀ b, bkHas bm m' at_ b ↔ bkHas bm m at_ b) ∧ Hid (wx.ownsRow 0 47 1 (.slice Av (gonL tp).length cv4) (gonL tp).length (u64s (tp.ids (gonL tp)))) ∧ Hid (Blk wx W.heap.size 50 #[.int .i64 sz, .int .i64 ob, .int .i64 cp, .int .u64 (fi : Int), .slice (some ad) nd c])) (fun iv _ => (gonL tp).length - (intOf iv).toNat)
                case atStart => exact ⟨0, m, rfl, Nat.zero_le _, HT4, HIP, HK4, Lib.hid (fun _ => Iff.rfl), HO4, BS4⟩
                case round =>
                  clear HT4 HK4 BS4 HO4 HIP z3
                  obtain ⟨jj, m', rfl, hjj, HTx, HIx, HKx, HFx, HOx, BSx⟩ := hrel
                  have hgl : (gonL tp).length ≤ 256 := HGL.out
                  by_cases hlj : jj < (gonL tp).length
                  · obtain ⟨k, hk⟩ : ∃ k, (gonL tp)[jj]? = some k := ⟨_, List.getElem?_eq_getElem hlj⟩
                    obtain ⟨s0, e0, hm', hle, I'⟩ := MInv.tick HOP.out hk HIx.out
                    have HM2 := Lib.hid hm'
                    have HI2 := Lib.hid I'
                    have hid64 := HOP.out.id64 k
                    have hug := ids_get tp hk
                    obtain ⟨ga, ca, hva, hrow, -, -⟩ := Row.of_any HOx.out (by omega)
                    injection hva with hva1 hva2 hva3
                    subst hva1
                    have hcell := hrow.cell hug
                    have hlk := HKx.out.look hid64
                    rw [bkP_some hm'] at hlk
                    obtain ⟨c0, c1, c2⟩ := HKx.out.cells hm'
                    have kf := (HKx.out.ent _ _ hm').1.fz
                    have hxp : ¬ (nw2 : Int) < (e0 : Int) := by have := HPN.out; omega
                    have HNE := Lib.hid (show at_ (tp.at k).1 ≠ ga from fun e => HOB.out ga rfl ((HFx.out ga).1 (.inr ⟨_, _, hm', e⟩)))
                    have HFR := Lib.hid (fun b (hb : bkHas bm m' at_ b) => HSa.out.far b ((HFx.out b).1 hb))
                    have HWB := Lib.hid (show W.heap.size ≠ at_ (tp.at k).1 from fun e => HLB.out.2.2 ((HFx.out _).1 (.inr ⟨_, _, hm', e.symm⟩)))
                    clear hm' I' hle hk hug hrow hva3 hva2 c0
                    generalize hgi : (tp.at k).1 = id at *
                    clear hgi
                    generalize hfb : at_ id = eb at *
                    have HTN := Lib.hid (HTx.out.setEnt (b := eb) (i := 2) (by rw [← hfb]; exact (HKx.out.ent _ _ HM2.out).2) (by rw [← hfb]; exact HFR.out _ (.inr ⟨_, _, HM2.out, rfl⟩)) (.bool false))
                    have HKN := Lib.hid (show Bk (wr.setCell ⟨eb, 2, none⟩ (.bool false)) W2.heap.size bm n D (updM m' id (s0, e0, false)) at_ from by rw [← hfb]; exact HKx.out.set HM2.out rfl)
                    have HFN := Lib.hid (fun b => (bkHas_upd HM2.out (x' := (s0, e0, false)) (at_ := at_) (bm := bm) (b := b)).trans (HFx.out b))
                    have HON := Lib.hid (own_keep (w' := wr.setCell ⟨eb, 2, none⟩ (.bool false)) HOx.out (fun q' hq' => by
                      have hq2 : ga = q' := by injection hq'
                      exact Below.heap_setCell wr ⟨eb, 2, none⟩ _ q' (fun e => HNE.out (hq2.trans e).symm)))
                    have BSN := Lib.hid (BSx.out.far (p := ⟨eb, 2, none⟩) HWB.out (.bool false))
                    clear hfb
                    go_wp2_with fail
                    go_roundw
                    case rel => exact ⟨jj + 1, _, by go_num, by omega, HTN, HI2, HKN, HFN, HON, BSN⟩
                    case measure => simp [intOf]; omega
                  · obtain rfl : jj = (gonL tp).length := by omega
                    have HI3 := Lib.hid (show MInv (h.clrs (gonL tp)) (tp.clears (gonL tp)) m' last from by have := HIx.out; rw [List.take_length] at this; exact this)
                    have HN3 := Lib.hid (show (tp.clears (gonL tp)).now = nw2 from (TM.clears_same' tp _).trans HPN.out)
                    obtain ⟨w6, hrg, ⟨cnt6, S6⟩, hg6⟩ := mlp_range HTx.out HKx.out (fun b hb => HSa.out.far b ((HFx.out b).1 hb))
                    have HS6 := Lib.hid S6
                    have BS6 := Lib.hid (BSx.out.same (hg6.block _ BSx.out.lt (by simp)))
                    have HTI := Lib.hid (fun (id s0 e0 : Nat) (hm : m' id = some (s0, e0, true)) => MInv.ticked HOP.out HI3.out hm)
                    clear S6 hg6 HIx HTx HKx HFx HOx BSx HOB
                    go_upto_region 45 with fail
                    go_loopw [19] (fun s19 wy => ∃ cnt : Nat, Hid (MLp W2 wy p g gt bm wr.heap.size n D (h.clrs (gonL tp)) (tp.clears (gonL tp)) m' at_ cnt) ∧ Hid (Blk wy W.heap.size 50 #[.int .i64 sz, .int .i64 ob, .int .i64 cp, .int .u64 (fi : Int), .slice (some ad) nd c])) (fun _ wy => wy.rangeLeft bm wr.heap.size)
                    case atStart => exact ⟨cnt6, HS6, BS6⟩
                    case round =>
                      obtain ⟨cnt, HL, BSr⟩ := hrel
                      have HCN := Lib.hid HL.out.L.left_eq
                      rcases HL.out.next with ⟨h0, hnx⟩ | ⟨id, x, w7, cnt', hid, hx, hnx, L7, hlt7, hg7, hen⟩
                      · clear h0
                        go_wp2_with fail
                        go_meet
                        exact ⟨last, nw2, rfl, rfl, Lib.hid ⟨p, n, D, _, _, m', at_, HL.out.mst HI3.out, HN3.out, by have := HNN.out; omega⟩, BSr⟩
                      · obtain ⟨s0, e0, b0⟩ := x
                        have HL7 := Lib.hid L7
                        have BS7 := Lib.hid (BSr.out.same (hg7.block _ BSr.out.lt (by intro e; injection e with e; exact HL.out.old HSL.out e)))
                        have HLT := Lib.hid hlt7
                        obtain ⟨c0, c1, c2⟩ := L7.cells hx
                        clear L7 hlt7 hg7 hid c0
                        cases b0 with
                        | false =>
                          clear hx
                          go_wp2_with fail
                          go_roundw
                          case rel => exact ⟨cnt', HL7, BS7⟩
                          case measure => rw [HCN.out, HL7.out.L.left_eq]; exact HLT.out
                        | true =>
                          have hex : ¬ (e0 : Int) ≤ (nw2 : Int) := by have h1 := HTI.out _ _ _ hx; have h2 := HPN.out; omega
                          clear hx
                          go_wp2_with fail
                          go_roundw
                          case rel => exact ⟨cnt', HL7, BS7⟩
                          case measure => rw [HCN.out, HL7.out.L.left_eq]; exact HLT.out
              · have hne : ((tikE h t q.n : Int) != 0) = true := by simp; omega
                have HNO := Lib.hid (show tikH h t q.n = h ∧ tikT h t q.n = t from ⟨by unfold tikH; rw [if_neg he], by unfold tikT; rw [if_neg he]⟩)
                clear he
                have HTK := HTK.out
                unfold TickP at HTK
                rw [HNO.out.1, HNO.out.2] at HTK
                have HTK := Lib.hid HTK
                generalize tikE h t q.n = E7 at *
                go_wp2_with fail
                refine HTK.out.mono ?_
                rintro e w4 ⟨v4, rfl, hown4, T4, K4⟩
                have HS4 := Lib.hid (HSa.out.deed T4 K4 HSa.out.I)
                have BS4 := Lib.hid (BSa.out.same (K4.block _ BSa.out.lt HLB.out.1 HLB.out.2.1))
                clear T4 K4 hown4
                go_wp2_with fail
                refine (HN.out _).mono ?_
                rintro e w5 ⟨rfl, rfl⟩
                go_wp2_with fail
                go_meet
                exact ⟨last, now, rfl, rfl, Lib.hid ⟨p, n, D, h, t, m, at_, HS4.out, HNW.out, by have := HNN.out; omega⟩, BS4⟩
          · as_aux_lemma =>
              obtain ⟨l, G⟩ := HSa.out.I.good
              have HCL := Lib.hid (HSa.out.collect G)
              have HLB := Lib.hid (HSa.out.old HSL.out)
              clear G
              generalize colV h l = cvv at *
              go_wp2_with fail
              refine HCL.out.mono ?_
              rintro e w4 ⟨rfl, p4, S4, s4⟩
              have HS4 := Lib.hid S4
              have BS4 := Lib.hid (BSa.out.same (s4.block _ BSa.out.lt HLB.out.1))
              clear S4 s4
              go_wp2_with fail
              go_meet
              exact ⟨last, now, rfl, rfl, Lib.hid ⟨p4, n, D, _, t, m, at_, HS4.out, HNW.out, by have := HNN.out; omega⟩, BS4⟩
          · as_aux_lemma =>
              go_wp2_with fail
              go_meet
              exact ⟨last, now, rfl, rfl, Lib.hid ⟨p, n, D, h, t, m, at_, HSa.out, HNW.out, by have := HNN.out; omega⟩, BSa⟩
        case rest =>
          obtain ⟨last', now', rfl, rfl, HM, BSx⟩ := hcut
          obtain ⟨p5, n5, D5, h5, t5, m5, at5, S5, hnow5, hn5⟩ := HM.out
          have HS5 := Lib.hid S5
          have HNW5 := Lib.hid hnow5
          have HNN5 := Lib.hid hn5
          obtain ⟨w6, hrg, ⟨cnt6, S6⟩, hg6⟩ := mlp_range S5.T S5.K S5.far
          have HS6 := Lib.hid S6
          have BS6 := Lib.hid (BSx.out.same (hg6.block _ BSx.out.lt (by simp)))
          have HIV := Lib.hid S5.I
          clear S5 hnow5 hn5 S6 hg6 HM HNW HNN HSa BSa BNa HBD
          go_upto_region 52 with fail
          go_loopw [20] (fun s20 wx => ∃ cnt : Nat, Hid (MLp W2 wx p5 g gt bm wc.heap.size n5 D5 h5 t5 m5 at5 cnt) ∧ Hid (Blk wx W.heap.size 50 #[.int .i64 sz, .int .i64 ob, .int .i64 cp, .int .u64 (fi : Int), .slice (some ad) nd c])) (fun _ wx => wx.rangeLeft bm wc.heap.size)
          case atStart => exact ⟨cnt6, HS6, BS6⟩
          case round =>
            obtain ⟨cnt, HL, BSr⟩ := hrel
            have HCN := Lib.hid HL.out.L.left_eq
            rcases HL.out.next with ⟨h0, hnx⟩ | ⟨id, x, w7, cnt', hid, hx, hnx, L7, hlt7, hg7, hen⟩
            · clear h0
              go_wp2_with fail
              go_roundw
              case rel => exact ⟨j + 1, last', now', by go_num, rfl, rfl, by omega, Lib.hid ⟨p5, n5, D5, h5, t5, m5, at5, HL.out.mst HIV.out, HNW5.out, HNN5.out⟩, BSr⟩
              case measure => simp [intOf]; omega
            · obtain ⟨s0, e0, b0⟩ := x
              have HL7 := Lib.hid L7
              have BS7 := Lib.hid (BSr.out.same (hg7.block _ BSr.out.lt (by intro e; injection e with e; exact HL.out.old HSL.out e)))
              have HX := Lib.hid hx
              have HLT := Lib.hid hlt7
              have HTO := Lib.hid (HIV.out.told hx)
              have HGT := Lib.hid (tget_any HL7.out.T id hid)
              have HEB := Lib.hid (show ∃ eb, eb = at5 id from ⟨_, rfl⟩)
              clear L7 hlt7 hg7 hx hid
              cases b0 with
              | false =>
               as_aux_lemma =>
                have e1 := HTO.out.1 rfl
                rw [e1] at HGT
                clear e1 HTO
                generalize gotV h5 t5 id = o5 at *
                go_wp2_with fail
                refine HGT.out.mono ?_
                rintro e w8 ⟨rfl, hb8⟩
                have HL8 := Lib.hid (HL7.out.after hb8)
                have BS8 := Lib.hid (BS7.out.below hb8 BS7.out.lt)
                obtain ⟨c0, c1, c2⟩ := HL8.out.cells HX.out
                clear hb8 HL7 BS7 HGT c0 c1
                go_wp2_with fail
                refine (HNU.out 160 (by decide) _).mono ?_
                rintro e w9 ⟨rfl, rfl⟩
                go_wp2_with fail
                go_roundw
                case rel => exact ⟨cnt', HL8, BS8⟩
                case measure => rw [HCN.out, HL8.out.L.left_eq]; exact HLT.out
              | true =>
               as_aux_lemma =>
                obtain ⟨e1, e2, e3⟩ := HTO.out.2 rfl
                rw [e1] at HGT
                have HGT := Lib.hid (show Calls Tryz.prog 30 #[.pointer (some ⟨gt, 0, none⟩), .int .u64 (id : Int)] w7 (Told (.tuple #[.int .u32 (gotV h5 t5 id : Nat), .int .i64 0]) w7) from HGT.out)
                have HIB := Lib.hid e2
                have HSR := Lib.hid e3
                have ho5 : gotV h5 t5 id < 4294967296 := by
                  obtain ⟨l5, G5⟩ := HIV.out.good
                  exact isB_u32 G5 e2
                have HO5 := Lib.hid ho5
                clear e1 e2 e3 HTO ho5
                generalize gotV h5 t5 id = o5 at *
                go_wp2_with fail
                refine HGT.out.mono ?_
                rintro e w8 ⟨rfl, hb8⟩
                have HL8 := Lib.hid (HL7.out.after hb8)
                have BS8 := Lib.hid (BS7.out.below hb8 BS7.out.lt)
                obtain ⟨c0, c1, c2⟩ := HL8.out.cells HX.out
                have HHD := HL8.out.T.head HO5.out HIB.out
                rw [HSR.out] at HHD
                have HHD := Lib.hid HHD
                clear hb8 HL7 BS7 HGT c0 c1
                generalize (h5.hd (o5 / 2)).size = k0 at *
                generalize (h5.hd (o5 / 2)).fmt = k1 at *
                generalize (h5.hd (o5 / 2)).spare = k2 at *
                generalize (h5.hd (o5 / 2)).cls = k3 at *
                go_wp2_with fail
                refine HHD.out.mono ?_
                rintro e w9 ⟨rfl, hb9⟩
                have hal := (Below.refl w9.heap.size w9).alloc (Nat.le_refl _) (.cells #[.int .i64 (k0 : Int), .int .i64 (k1 : Int), .int .i64 (k2 : Int), .int .u32 (k3 : Int), .int .u32 (s0 : Int)] 75)
                have hb10 := below_top hb9 hal
                have HL10 := Lib.hid (HL8.out.after hb10)
                have BS10 := Lib.hid (BS8.out.below hb10 BS8.out.lt)
                have BH := Blk.new w9 75 #[.int .i64 (k0 : Int), .int .i64 (k1 : Int), .int .i64 (k2 : Int), .int .u32 (k3 : Int), .int .u32 (s0 : Int)]
                obtain ⟨c0, c1, c2'⟩ := HL10.out.cells HX.out
                have y4 := BH.cells5.2.2.2.2
                clear hb9 hal hb10 BH c1 c2 c2' HL8 BS8 HHD
                go_upto_region 59 with fail
                generalize w9.alloc (.cells #[.int .i64 (k0 : Int), .int .i64 (k1 : Int), .int .i64 (k2 : Int), .int .u32 (k3 : Int), .int .u32 (s0 : Int)] 75) = w10 at *
                have CN := Lib.hid (show ∀ (d : Nat) (os : Array Obj), Calls Tryz.prog 24 #[.int .i64 0] (Go.Sort.grow (redrawn w10 d) os) (fun e w'' => e = .returned (.int .i64 0) ∧ ∃ p : Regrown, w'' = Go.Sort.grow (redrawn w10 p.d) p.os) from fun d os => Calls.regrown_of (((HNU.out 0 (by decide) _)).mono fun _ _ ⟨h1, h2⟩ => ⟨h1, h2 ▸ Below.refl _ _⟩))
                replace c0 := cell_regrown c0
                replace y4 := cell_regrown y4
                refine wp_region_quiet_below (by kernel_rfl) (by kernel_rfl) ?_
                repeat (go_big_quiet_step ((go_at_call 24; with_reducible exact CN.out _ _)))
                refine wpQuiet_nil ?_
                intro wq hwq
                obtain ⟨⟨dq, osq⟩, hw''⟩ := hwq
                subst hw''
                have HL11 := Lib.hid (HL10.out.after (below_regrown w10 dq osq))
                have BS11 := Lib.hid (BS10.out.below (below_regrown w10 dq osq) BS10.out.lt)
                clear c0 y4 CN HL10 BS10
                generalize Go.Sort.grow (redrawn w10 dq) osq = w11 at *
                go_wp2_with fail
                go_roundw
                case rel => exact ⟨cnt', HL11, BS11⟩
                case measure => rw [HCN.out, HL11.out.L.left_eq]; exact HLT.out
      · obtain rfl : j = nd := by omega
        have HN := Lib.hid (tnow_any HS.out.T)
        have hnw := HNW.out
        have HB := Lib.hid (HB1.out.trans (HS.out.T.live.below.mono HB1.out.size))
        rw [hnw] at HN
        clear hnw
        go_wp2_with fail
        refine HN.out.mono ?_
        rintro e w5 ⟨rfl, rfl⟩
        go_wp2_with fail
        go_ret
        exact ⟨by simp, HB.out⟩
end Go.Proofs.YtlkahgagmfhdaaaGreatDoor
