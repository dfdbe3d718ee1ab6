/- A function whose loop holds, in each round, a range over a function: any number of marks among its deferred calls. -/
/- A graph of the call's own: what loops over names keep of it. -/
/- seen: the graph that is seen from beginnings. -/
/- Canonical bytes, plain; the state of the walk that writes them. -/
import Derived.Test.YtlkahgagmfhdaaaGreatDoorJAll
import Derived.Test.YtlkahgagmfhdaaaGreatDoorJHdF
import Derived.Test.YtlkahgagmfhdaaaGreatDoorJMake
import Derived.Test.YtlkahgagmfhdaaaGreatDoorJLive
import Derived.Test.YtlkahgagmfhdaaaGreatDoorRound
import Derived.Test.YtlkahgagmfhdaaaGreatDoorJAlloc
import Derived.RangeFuncLeaves
import Derived.RangeFuncNested
import Derived.OwnWalkIn
set_option linter.unusedVariables false
set_option linter.unusedSectionVars false
namespace Go.Proofs.YtlkahgagmfhdaaaGreatDoor
open Go.RowKit

/-- The marks that the loops left: each block is there, no two are the same, none lies below B. -/
structure Marks (B : Nat) (ds : List Deferred) (w : World) : Prop where
  at_ : ∀ d ∈ ds, ∃ D, d = { target := .collected D, args := #[] } ∧ B ≤ D ∧ w.heap[D]? = some (.deferred (some []))
  nodup : ds.Nodup
theorem Marks.nil (B : Nat) (w : World) : Marks B [] w := ⟨(fun _ h => by cases h), List.nodup_nil⟩
theorem Marks.same {B : Nat} {ds : List Deferred} {w w' : World} (M : Marks B ds w) (h : ∀ D, B ≤ D → w.heap[D]? = some (.deferred (some [])) → w'.heap[D]? = some (.deferred (some []))) : Marks B ds w' :=
  ⟨fun d hd => by obtain ⟨D, h1, h2, h3⟩ := M.at_ d hd; exact ⟨D, h1, h2, h D h2 h3⟩, M.nodup⟩
theorem Marks.below {B : Nat} {ds : List Deferred} {w w' : World} (M : Marks B ds w) (hb : Below w.heap.size w w') : Marks B ds w' :=
  M.same fun D _ h => (hb.block D (lt_of_get h)).trans h
/-- Behind another loop over a function: D is new. -/
theorem Marks.cons {B D : Nat} {ds : List Deferred} {w : World} (M : Marks B ds w) (hB : B ≤ D) (hD : w.heap[D]? = some (.deferred (some []))) (hn : ∀ D', ({ target := .collected D', args := #[] } : Deferred) ∈ ds → D' < D) :
    Marks B ({ target := .collected D, args := #[] } :: ds) w := by
  refine ⟨fun d hd => ?_, List.nodup_cons.2 ⟨fun hm => by have := hn D hm; omega, M.nodup⟩⟩
  rcases List.mem_cons.1 hd with rfl | hd
  · exact ⟨D, rfl, hB, hD⟩
  · exact M.at_ d hd
end Go.Proofs.YtlkahgagmfhdaaaGreatDoor

namespace Go.Proofs.YtlkahgagmfhdaaaGreatDoor
open Go.RowKit Go.Maps
attribute [local go_sem] Oper.semAt_some
/-- What the body of a loop over names does to memory, where it goes on with a graph: what lies below M, the iterator's boxes, headers stay. -/
structure KpG (M Bh Bo : Nat) (A B : World) : Prop where
  os : B.os = A.os
  tape : B.tape = A.tape
  output : B.output = A.output
  size : A.heap.size ≤ B.heap.size
  low : ∀ k, k < M → B.heap[k]? = A.heap[k]?
  bh : B.heap[Bh]? = A.heap[Bh]?
  bo : B.heap[Bo]? = A.heap[Bo]?
  hdr : ∀ g cs, Blk A g 75 cs → Blk B g 75 cs
theorem KpG.trans {M Bh Bo : Nat} {A B C : World} (h : KpG M Bh Bo A B) (k : KpG M Bh Bo B C) : KpG M Bh Bo A C :=
  ⟨k.os.trans h.os, k.tape.trans h.tape, k.output.trans h.output, Nat.le_trans h.size k.size, fun i hi => (k.low i hi).trans (h.low i hi), k.bh.trans h.bh, k.bo.trans h.bo, fun g cs b => k.hdr g cs (h.hdr g cs b)⟩
theorem KpG.book {M Bh Bo : Nat} (W : World) (l : Nat) (o o' : Obj) (h1 : M ≤ l) (h2 : Bh < l) (h3 : Bo < l) (hl : W.heap[l]? = some o) (hc : o.isCells = false) : KpG M Bh Bo W (W.putObj l o') := by
  have hg := grownBy_putObj' W l o'
  have hk : ∀ k, k ≠ l → (W.putObj l o').heap[k]? = W.heap[k]? := fun k hk => by
    rcases Nat.lt_or_ge k W.heap.size with h | h
    · exact hg.block k h (fun e => by first | exact hk (Option.some.inj e).symm | exact hk (Option.some.inj e))
    · have e1 : (W.putObj l o').heap.size = W.heap.size := by simp [World.putObj]
      rw [Array.getElem?_eq_none (by omega), Array.getElem?_eq_none (by omega)]
  exact ⟨hg.os, hg.tape, hg.output, hg.size, fun k h => hk k (by omega), hk _ (by omega), hk _ (by omega), fun g cs b => b.same (hk g (fun e => by
    subst e; have e2 := Option.some.inj (hl.symm.trans b); rw [e2] at hc; cases hc))⟩
theorem own_cells {w : World} {base : Nat} {e : TypeId} {v : Value} {n k : Nat} {xs : List Value} (h : w.ownsRow base e 1 v n xs) (hk : v.ownBlock = some k) : ∃ o : Obj, w.heap[k]? = some o ∧ o.isCells = true := by
  rcases h.2 with h1 | ⟨g', cap, cur, rfl, h2, h3, h4⟩
  · obtain ⟨ha, hb⟩ := h1
    first
      | (rw [ha] at hk; simp [Value.ownBlock] at hk)
      | (rw [hb] at hk; simp [Value.ownBlock] at hk)
  · simp [Value.ownBlock] at hk
    subst hk
    exact ⟨_, h3, rfl⟩
/-- A graph of the call's own, with the box of its pointer. -/
structure GSt (W0 : World) (gG mB bG : Nat) (hv vm vd : Value) (l : List Nd) (w : World) : Prop where
  base : Below W0.heap.size W0 w
  graph : GAt w W0.heap.size gG mB hv vm vd l
  box : Blk w bG 220 #[.pointer (some ⟨gG, 0, none⟩)]
theorem GSt.below {W0 w w' : World} {gG mB bG : Nat} {hv vm vd : Value} {l : List Nd} (S : GSt W0 gG mB bG hv vm vd l w) (hb : Below w.heap.size w w') : GSt W0 gG mB bG hv vm vd l w' :=
  ⟨below_top S.base hb, S.graph.below hb, S.box.below hb S.box.lt⟩
theorem GStep.far {w w' : World} {B gG mB : Nat} {hv vm vd vm' vd' : Value} {l : List Nd} (G : GAt w B gG mB hv vm vd l) (s : GStep w w' gG mB vm vd vm' vd') {k : Nat} (h : k < B) : w'.heap[k]? = w.heap[k]? :=
  s.block k (Nat.lt_of_lt_of_le h G.hB) (by have := G.hg; omega) (by have := G.hm; omega) (fun e => by have := (G.met.lt k e).1; omega) (fun e => by have := (G.deep.lt k e).1; omega)
/-- A block of cells of another type than the graph's own is kept. -/
theorem GStep.blk {w w' : World} {B gG mB g : Nat} {hv vm vd vm' vd' : Value} {l : List Nd} {t : TypeId} {cs : Array Value} (G : GAt w B gG mB hv vm vd l) (s : GStep w w' gG mB vm vd vm' vd') (b : Blk w g t cs)
    (h1 : 227 ≠ t) (h2 : 54 ≠ t) (h3 : 3 ≠ t) : w'.heap[g]? = w.heap[g]? :=
  s.block g b.lt (fun e => by subst e; have := G.box; unfold Blk at this b; rw [this] at b; injection b with b; injection b with _ b; exact h1 b)
    (fun e => by obtain ⟨D, _, ⟨es, clock, hb, r⟩, _⟩ := G.num; subst e; unfold Blk at b; rw [hb] at b; injection b with b; cases b) (cown_ne_blk G.met b h2) (cown_ne_blk G.deep b h3)
theorem GSt.step {W0 w w' : World} {gG mB bG : Nat} {hv vm vd vm' vd' : Value} {l l' : List Nd} (S : GSt W0 gG mB bG hv vm vd l w) (G : GAt w' W0.heap.size gG mB hv vm' vd' l') (s : GStep w w' gG mB vm vd vm' vd') : GSt W0 gG mB bG hv vm' vd' l' w' :=
  ⟨⟨s.os.trans S.base.os, s.tape.trans S.base.tape, s.output.trans S.base.output, Nat.le_trans S.base.size s.size, fun k hk => (s.far S.graph hk).trans (S.base.block k hk)⟩, G, S.box.same (s.blk S.graph S.box (by decide) (by decide) (by decide))⟩
theorem own_slice {w : World} {base : Nat} {e : TypeId} {v : Value} {n : Nat} {xs : List Value} (h : w.ownsRow base e 1 v n xs) : ∃ A c, v = .slice A n c ∧ Reads w w.heap.size 1 A n xs := by
  rcases Nat.eq_zero_or_pos n with h0 | h0
  · have hx : xs = [] := List.eq_nil_of_length_eq_zero (by have := h.1; omega)
    subst hx
    subst h0
    rcases h.2 with ⟨h1, _⟩ | ⟨g, cap, cur, rfl, _⟩
    · exact ⟨none, 0, h1, rfl, fun hh => by omega⟩
    · exact ⟨some ⟨g, 0, none⟩, cap, rfl, rfl, fun hh => by omega⟩
  · obtain ⟨g, c, rfl, hr, hx, hb⟩ := Row.of_any h h0
    refine ⟨some ⟨g, 0, none⟩, c, rfl, ?_⟩
    rw [← hx]
    exact hr.reads (h.lt g rfl).2
section
variable {W0 w w' : World} {gG mB bG : Nat} {hv vm vd vm' vd' : Value} {l l' : List Nd}
theorem GStep.keeps {B : Nat} (G : GAt w W0.heap.size gG mB hv vm vd l) (s : GStep w w' gG mB vm vd vm' vd') (hm : mB < B) : KeepsFrom B w w' := by
  refine ⟨s.size, fun k o hk ho hc => (s.block k (lt_of_get ho) (fun e => ?_) (by omega) (fun e => ?_) (fun e => ?_)).trans ho⟩
  · subst e; have := G.box; unfold Blk at this; rw [this] at ho; injection ho with ho; subst ho; cases hc
  · obtain ⟨o', ho', hc'⟩ := own_cells G.met e; rw [ho] at ho'; injection ho' with ho'; subst ho'; rw [hc] at hc'; cases hc'
  · obtain ⟨o', ho', hc'⟩ := own_cells G.deep e; rw [ho] at ho'; injection ho' with ho'; subst ho'; rw [hc] at hc'; cases hc'
theorem KpG.of_below {M Bh Bo : Nat} (hb : Below w.heap.size w w') (hM : M ≤ w.heap.size) (h1 : Bh < w.heap.size) (h2 : Bo < w.heap.size) : KpG M Bh Bo w w' :=
  ⟨hb.os, hb.tape, hb.output, hb.size, fun k hk => hb.block k (by omega), hb.block _ h1, hb.block _ h2, fun g cs b => b.below hb b.lt⟩
theorem KeepsFrom.of_below {B : Nat} (hb : Below w.heap.size w w') : KeepsFrom B w w' := ⟨hb.size, fun k o _ ho _ => (hb.block k (lt_of_get ho)).trans ho⟩
/-- Leaving: the marks alone are shut. -/
theorem GAt.left {B : Nat} {ds : List Deferred} {B0 : Nat} (G : GAt w B gG mB hv vm vd l) (M : Marks B0 ds w) (hs : w'.heap.size = w.heap.size) (hk : ∀ k, k < w.heap.size → (∀ D, ({ target := .collected D, args := #[] } : Deferred) ∈ ds → k ≠ D) → w'.heap[k]? = w.heap[k]?) : GAt w' B gG mB hv vm vd l := by
  have hne : ∀ {k : Nat} {o : Obj}, w.heap[k]? = some o → (o.isCells = true ∨ ∃ es c, o = .map es c) → ∀ D, ({ target := .collected D, args := #[] } : Deferred) ∈ ds → k ≠ D := fun {k o} ho hc D hD e => by
    obtain ⟨D', h1, _, h3⟩ := M.at_ _ hD
    injection h1 with h1; injection h1 with h1
    subst h1; subst e
    rw [ho] at h3; injection h3 with h3; subst h3
    rcases hc with hc | ⟨es, c, hc⟩
    · cases hc
    · cases hc
  have hown : ∀ {e n xs} {v : Value}, w.ownsRow B e 1 v n xs → ∀ k, v.ownBlock = some k → w'.heap[k]? = w.heap[k]? := fun h k hk' => by
    obtain ⟨o, ho, hc⟩ := own_cells h hk'
    exact hk k (lt_of_get ho) (hne ho (.inl hc))
  refine ⟨G.box.same (hk _ G.box.lt (hne G.box (.inl rfl))), own_same G.met (hown G.met), own_same G.deep (hown G.deep), G.num.same ?_, G.hg, G.hm, by have := G.hB; omega⟩
  obtain ⟨D, _, ⟨es, clock, hb, r⟩, _⟩ := G.num
  exact hk mB (lt_of_get hb) (hne hb (.inr ⟨_, _, rfl⟩))
end
end Go.Proofs.YtlkahgagmfhdaaaGreatDoor

namespace Go.Proofs.YtlkahgagmfhdaaaGreatDoor
open Go.RowKit Go.Maps Go.Sort
attribute [local go_sem] Oper.semAt_some
end Go.Proofs.YtlkahgagmfhdaaaGreatDoor

namespace Go.Proofs.YtlkahgagmfhdaaaGreatDoor
open Go.RowKit Go.Maps
attribute [local go_sem] Oper.semAt_some
section
variable {W0 w w' : World} {gG mB bG bB n : Nat} {hv vm vd v v' : Value} {l : List Nd} {bs : List Nat}
/-- A graph is kept where its blocks are. -/
theorem GSt.keep (S : GSt W0 gG mB bG hv vm vd l w) (h1 : w'.os = w.os) (h2 : w'.tape = w.tape) (h3 : w'.output = w.output) (h4 : w.heap.size ≤ w'.heap.size)
    (hk : ∀ k, k < w.heap.size → (k < W0.heap.size ∨ k = gG ∨ k = mB ∨ k = bG ∨ vm.ownBlock = some k ∨ vd.ownBlock = some k) → w'.heap[k]? = w.heap[k]?) : GSt W0 gG mB bG hv vm vd l w' :=
  ⟨⟨h1.trans S.base.os, h2.trans S.base.tape, h3.trans S.base.output, Nat.le_trans S.base.size h4, fun k h => (hk k (Nat.lt_of_lt_of_le h S.base.size) (.inl h)).trans (S.base.block k h)⟩,
    ⟨S.graph.box.same (hk _ S.graph.box.lt (.inr (.inl rfl))), own_same S.graph.met (fun k h => hk k (S.graph.met.lt k h).2 (.inr (.inr (.inr (.inr (.inl h)))))),
      own_same S.graph.deep (fun k h => hk k (S.graph.deep.lt k h).2 (.inr (.inr (.inr (.inr (.inr h)))))), S.graph.num.same (hk mB S.graph.num.lt (.inr (.inr (.inl rfl)))), S.graph.hg, S.graph.hm, Nat.le_trans S.graph.hB h4⟩,
    S.box.same (hk _ S.box.lt (.inr (.inr (.inr (.inl rfl)))))⟩
/-- A graph beside a row of bytes of the call's own, with the box of its slice. -/
structure CanSt (W0 : World) (gG mB bG bB : Nat) (hv vm vd : Value) (l : List Nd) (bs : List Nat) (v : Value) (w : World) : Prop where
  gst : GSt W0 gG mB bG hv vm vd l w
  bb : Blk w bB 22 #[v]
  own : w.ownsRow W0.heap.size 5 1 v bs.length (u8c bs)
  hb : W0.heap.size ≤ bB
theorem CanSt.below (C : CanSt W0 gG mB bG bB hv vm vd l bs v w) (hb : Below w.heap.size w w') : CanSt W0 gG mB bG bB hv vm vd l bs v w' :=
  ⟨C.gst.below hb, C.bb.below hb C.bb.lt, own_same C.own (fun k hk => hb.block k (C.own.lt k hk).2), C.hb⟩
/-- What the bytes' growing leaves as it was. -/
theorem CanSt.other (C : CanSt W0 gG mB bG bB hv vm vd l bs v w) (hg : Grows w w' v v') {k : Nat} (hk : k < w.heap.size) (h1 : v.ownBlock ≠ some k) (h2 : k ≠ bB) (u : Value) :
    (w'.setCell ⟨bB, 0, none⟩ u).heap[k]? = w.heap[k]? :=
  (Below.heap_setCell w' ⟨bB, 0, none⟩ u k h2).trans (hg.g.block k hk (fun e => h1 e.symm))
theorem CanSt.blk (C : CanSt W0 gG mB bG bB hv vm vd l bs v w) (hg : Grows w w' v v') (u : Value) {g : Nat} {t : TypeId} {cs : Array Value} (b : Blk w g t cs) (h1 : 5 ≠ t) (h2 : t ≠ 22) :
    (w'.setCell ⟨bB, 0, none⟩ u).heap[g]? = w.heap[g]? :=
  C.other hg b.lt (cown_ne_blk C.own b h1) (b.ne_ C.bb h2) u
theorem CanSt.obj (C : CanSt W0 gG mB bG bB hv vm vd l bs v w) (hg : Grows w w' v v') (u : Value) {k : Nat} {o : Obj} (ho : w.heap[k]? = some o) (hc : o.isCells = false) : (w'.setCell ⟨bB, 0, none⟩ u).heap[k]? = some o :=
  (C.other hg (lt_of_get ho) (fun e => by
    obtain ⟨o', ho', hc'⟩ := own_cells C.own e
    rw [ho] at ho'; injection ho' with ho'; subst ho'; rw [hc] at hc'; cases hc') (fun e => by
    subst e; have := C.bb; unfold Blk at this; rw [this] at ho; injection ho with ho; subst ho; cases hc) u).trans ho
theorem CanSt.grow (C : CanSt W0 gG mB bG bB hv vm vd l bs v w) {cs : List Nat} (hown : w'.ownsRow W0.heap.size 5 1 v' cs.length (u8c cs)) (hg : Grows w w' v v') :
    CanSt W0 gG mB bG bB hv vm vd l cs v' (w'.setCell ⟨bB, 0, none⟩ v') := by
  have hsz : (w'.setCell ⟨bB, 0, none⟩ v').heap.size = w'.heap.size := by simp [World.setCell]
  have hne : v.ownBlock ≠ some bB := cown_ne_blk C.own C.bb (by decide)
  have hne' : v'.ownBlock ≠ some bB := fun e => by
    rcases hg.at_ _ e with e' | e'
    · exact hne e'
    · have := C.bb.lt; omega
  refine ⟨C.gst.keep hg.g.os hg.g.tape hg.g.output (by rw [hsz]; exact hg.size) ?_, (C.bb.same (hg.g.block bB C.bb.lt (fun e => hne e.symm))).set_ 0 _, own_same hown (fun k hk => Below.heap_setCell w' ⟨bB, 0, none⟩ _ k (fun e => by subst e; exact hne' hk)), C.hb⟩
  intro k hk hc
  refine C.other hg hk ?_ ?_ _
  · rcases hc with h | rfl | rfl | rfl | h | h
    · exact fun e => by have := (C.own.lt k e).1; omega
    · exact cown_ne_blk C.own C.gst.graph.box (by decide)
    · exact cown_ne_map C.own C.gst.graph.num
    · exact cown_ne_blk C.own C.gst.box (by decide)
    · exact own_type C.gst.graph.met C.own (by decide) k h
    · exact own_type C.gst.graph.deep C.own (by decide) k h
  · rcases hc with h | rfl | rfl | rfl | h | h
    · have := C.hb; omega
    · exact C.gst.graph.box.ne_ C.bb (by decide)
    · rintro rfl
      obtain ⟨D, _, ⟨es, clock, hb, r⟩, _⟩ := C.gst.graph.num
      have := C.bb
      unfold Blk at this
      rw [this] at hb
      injection hb with hb
      cases hb
    · exact C.gst.box.ne_ C.bb (by decide)
    · rintro rfl; exact cown_ne_blk C.gst.graph.met C.bb (by decide) h
    · rintro rfl; exact cown_ne_blk C.gst.graph.deep C.bb (by decide) h
theorem Grows.far (hg : Grows w w' v v') {k : Nat} (hk : k < w.heap.size) (hn : v.ownBlock ≠ some k) : w'.heap[k]? = w.heap[k]? := hg.g.block k hk (fun e => hn e.symm)
theorem Grows.alloc (h : Grows w w' v v') (o : Obj) : Grows w (w'.alloc o) v v' := h.below ((Below.refl _ _).alloc (Nat.le_refl _) o)
theorem Grows.append (h : Grows w w' v v') {w2 : World} {v2 : Value} (hg : w'.grownBy w2 v'.ownBlock) (ha : v2.ownBlock = v'.ownBlock ∨ v2.ownBlock = some w'.heap.size) : Grows w w2 v v2 := h.trans (.of hg ha)
theorem CanSt.marks (C : CanSt W0 gG mB bG bB hv vm vd l bs v w) (hg : Grows w w' v v') (u : Value) {B : Nat} {ds : List Deferred} (M : Marks B ds w) : Marks B ds (w'.setCell ⟨bB, 0, none⟩ u) :=
  M.same fun D _ h => C.obj hg u h rfl
theorem CanSt.keeps (C : CanSt W0 gG mB bG bB hv vm vd l bs v w) (hg : Grows w w' v v') (u : Value) (B : Nat) : KeepsFrom B w (w'.setCell ⟨bB, 0, none⟩ u) :=
  ⟨by simp [World.setCell]; exact hg.size, fun k o _ ho hc => C.obj hg u ho hc⟩
theorem CanSt.reads (C : CanSt W0 gG mB bG bB hv vm vd l bs v w) : ∃ A c, v = .slice A bs.length c ∧ Reads w w.heap.size 1 A bs.length (u8c bs) := own_slice C.own
end
end Go.Proofs.YtlkahgagmfhdaaaGreatDoor
