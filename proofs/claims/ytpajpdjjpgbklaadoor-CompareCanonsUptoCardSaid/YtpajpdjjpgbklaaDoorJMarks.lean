/- A function whose loop holds, in each round, a range over a function: any number of marks among its deferred calls. -/
/- A graph of the call's own: what loops over names keep of it. -/
import Derived.Test.YtpajpdjjpgbklaaDoorJAll
import Derived.Test.YtpajpdjjpgbklaaDoorJRefQ
import Derived.Test.YtpajpdjjpgbklaaDoorJCmpC
import Derived.Test.YtpajpdjjpgbklaaDoorJMake
import Derived.Test.YtpajpdjjpgbklaaDoorJRefE
import Derived.RangeFuncLeaves
import Derived.RangeFuncNested
set_option linter.unusedVariables false
set_option linter.unusedSectionVars false
namespace Go.Proofs.YtpajpdjjpgbklaaDoor
open Go.RowKit

/-- The marks that the loops left: each block is there, no two are the same, none lies below B. -/
structure Marks (B : Nat) (ds : List Deferred) (w : World) : Prop where
  at_ : ∀ d ∈ ds, ∃ D, d = { target := .collected D, args := #[] } ∧ B ≤ D ∧ w.heap[D]? = some (.deferred (some []))
  nodup : ds.Nodup
theorem Marks.nil (B : Nat) (w : World) : Marks B [] w := ⟨(fun _ h => by cases h), List.nodup_nil⟩
theorem Marks.same {B : Nat} {ds : List Deferred} {w w' : World} (M : Marks B ds w) (h : ∀ D, B ≤ D → w.heap[D]? = some (.deferred (some [])) → w'.heap[D]? = some (.deferred (some []))) : Marks B ds w' :=
  ⟨fun d hd => by obtain ⟨D, h1, h2, h3⟩ := M.at_ d hd; exact ⟨D, h1, h2, h D h2 h3⟩, M.nodup⟩
theorem Marks.below {B : Nat} {ds : List Deferred} {w w' : World} (M : Marks B ds w) (hb : Below w.heap.size w w') : Marks B ds w' :=
  M.same fun D _ h => (hb.block D (lt_of_get h)).trans h
/-- Behind another loop over a function: D is new. -/
theorem Marks.cons {B D : Nat} {ds : List Deferred} {w : World} (M : Marks B ds w) (hB : B ≤ D) (hD : w.heap[D]? = some (.deferred (some []))) (hn : ∀ D', ({ target := .collected D', args := #[] } : Deferred) ∈ ds → D' < D) :
    Marks B ({ target := .collected D, args := #[] } :: ds) w := by
  refine ⟨fun d hd => ?_, List.nodup_cons.2 ⟨fun hm => by have := hn D hm; omega, M.nodup⟩⟩
  rcases List.mem_cons.1 hd with rfl | hd
  · exact ⟨D, rfl, hB, hD⟩
  · exact M.at_ d hd
theorem putObj_other (w : World) (D k : Nat) (o : Obj) (h : k ≠ D) (hk : k < w.heap.size) : (w.putObj D o).heap[k]? = w.heap[k]? :=
  (grownBy_putObj' w D o).block k hk (fun e => h (by injection e))
/-- Leaving with marks: each is taken over and shut; what lies below B, and every block of cells, stays. -/
theorem leaves_marks {fn : Func} {tmps : Array Value} {R : Ending → World → Prop} {n B : Nat} : ∀ (ds : List Deferred) (w : World), Marks B ds w →
    (∀ w', w'.os = w.os → w'.tape = w.tape → w'.output = w.output → w'.heap.size = w.heap.size → (∀ k, k < w.heap.size → (∀ D, ({ target := .collected D, args := #[] } : Deferred) ∈ ds → k ≠ D) → w'.heap[k]? = w.heap[k]?) → LeavesInM Fence.wide n Tryd.prog fn tmps R [] .returning w') →
    LeavesInM Fence.wide n Tryd.prog fn tmps R ds .returning w
  | [], w, M, h => h w rfl rfl rfl rfl (fun _ _ _ => rfl)
  | d :: ds, w, M, h => by
    obtain ⟨D, rfl, hB, hD⟩ := M.at_ d (List.mem_cons_self ..)
    have hDl := lt_of_get hD
    have hnd := List.nodup_cons.1 M.nodup
    refine ⟨by simp, .inl ⟨D, _, rfl, run_takeDeferred hD, ?_⟩⟩
    have hne : ∀ D', ({ target := .collected D', args := #[] } : Deferred) ∈ ds → D' ≠ D := fun D' hm e => by subst e; exact hnd.1 hm
    refine leaves_marks (B := B) ds _ ⟨fun d hd => ?_, hnd.2⟩ (fun w' h1 h2 h3 h4 h5 => ?_)
    · obtain ⟨D', rfl, hB', hD'⟩ := M.at_ d (List.mem_cons_of_mem _ hd)
      exact ⟨D', rfl, hB', (putObj_other w D D' _ (hne D' hd) (lt_of_get hD')).trans hD'⟩
    · refine h w' h1 h2 h3 (h4.trans (by simp [World.putObj])) (fun k hk hkn => ?_)
      have hkD : k ≠ D := hkn D (List.mem_cons_self ..)
      exact (h5 k (by simp [World.putObj]; exact hk) (fun D' hm => hkn D' (List.mem_cons_of_mem _ hm))).trans (putObj_other w D k _ hkD hk)
end Go.Proofs.YtpajpdjjpgbklaaDoor

namespace Go.Proofs.YtpajpdjjpgbklaaDoor
open Go.RowKit Go.Maps
attribute [local go_sem] Oper.semAt_some

theorem nodup_bound : ∀ (N : Nat) (l : List Nat), l.Nodup → (∀ x ∈ l, x < N) → l.length ≤ N
  | 0, [], _, _ => by simp
  | 0, x :: l, _, h => by have := h x (List.mem_cons_self ..); omega
  | N + 1, l, hd, h => by
    by_cases hm : N ∈ l
    · have := nodup_bound N (l.erase N) (hd.erase N) (fun x hx => by
        have h1 := (List.Nodup.mem_erase_iff hd).1 hx
        have := h x h1.2
        omega)
      rw [List.length_erase_of_mem hm] at this
      omega
    · have := nodup_bound N l hd (fun x hx => by
        have := h x hx
        have : x ≠ N := fun e => hm (e ▸ hx)
        omega)
      omega
theorem graph_bound {h : HM} (f : h.Fit) {l : List Nd} (hd : (oopsOf l).Nodup) (hi : ∀ x ∈ oopsOf l, h.isB x = true) : l.length ≤ 2097152 := by
  rw [← oopsOf_len]
  refine nodup_bound _ _ hd (fun x hx => ?_)
  have h1 := HM.isB_lt (hi x hx)
  have h2 := f.marks
  have h4 := f.room
  have h3 := f.hi
  omega
theorem isB_kind {h : HM} {o : Nat} (hi : h.isB o = true) : kindM o = 2 := by
  unfold HM.isB objB at hi
  simp at hi
  exact hi.1
/-- What the body of a loop over names does to memory, where it goes on with a graph: what lies below M, the iterator's boxes, headers stay. -/
structure KpG (M Bh Bo : Nat) (A B : World) : Prop where
  os : B.os = A.os
  tape : B.tape = A.tape
  output : B.output = A.output
  size : A.heap.size ≤ B.heap.size
  low : ∀ k, k < M → B.heap[k]? = A.heap[k]?
  bh : B.heap[Bh]? = A.heap[Bh]?
  bo : B.heap[Bo]? = A.heap[Bo]?
  hdr : ∀ g cs, Blk A g 55 cs → Blk B g 55 cs
theorem KpG.trans {M Bh Bo : Nat} {A B C : World} (h : KpG M Bh Bo A B) (k : KpG M Bh Bo B C) : KpG M Bh Bo A C :=
  ⟨k.os.trans h.os, k.tape.trans h.tape, k.output.trans h.output, Nat.le_trans h.size k.size, fun i hi => (k.low i hi).trans (h.low i hi), k.bh.trans h.bh, k.bo.trans h.bo, fun g cs b => k.hdr g cs (h.hdr g cs b)⟩
theorem KpG.book {M Bh Bo : Nat} (W : World) (l : Nat) (o o' : Obj) (h1 : M ≤ l) (h2 : Bh < l) (h3 : Bo < l) (hl : W.heap[l]? = some o) (hc : o.isCells = false) : KpG M Bh Bo W (W.putObj l o') := by
  have hg := grownBy_putObj' W l o'
  have hk : ∀ k, k ≠ l → (W.putObj l o').heap[k]? = W.heap[k]? := fun k hk => by
    rcases Nat.lt_or_ge k W.heap.size with h | h
    · exact hg.block k h (fun e => by first | exact hk (Option.some.inj e).symm | exact hk (Option.some.inj e))
    · have e1 : (W.putObj l o').heap.size = W.heap.size := by simp [World.putObj]
      rw [Array.getElem?_eq_none (by omega), Array.getElem?_eq_none (by omega)]
  exact ⟨hg.os, hg.tape, hg.output, hg.size, fun k h => hk k (by omega), hk _ (by omega), hk _ (by omega), fun g cs b => b.same (hk g (fun e => by
    subst e; have e2 := Option.some.inj (hl.symm.trans b); rw [e2] at hc; cases hc))⟩
theorem own_cells {w : World} {base : Nat} {e : TypeId} {v : Value} {n k : Nat} {xs : List Value} (h : w.ownsRow base e 1 v n xs) (hk : v.ownBlock = some k) : ∃ o : Obj, w.heap[k]? = some o ∧ o.isCells = true := by
  rcases h.2 with h1 | ⟨g', cap, cur, rfl, h2, h3, h4⟩
  · obtain ⟨ha, hb⟩ := h1
    first
      | (rw [ha] at hk; simp [Value.ownBlock] at hk)
      | (rw [hb] at hk; simp [Value.ownBlock] at hk)
  · simp [Value.ownBlock] at hk
    subst hk
    exact ⟨_, h3, rfl⟩
theorem KpG.need {W0 : World} {p : HP} {h : HM} {Bh Bo : Nat} (H : HAt W0 p h) (hs : Spares W0) : NeedK (fun A B => KpG W0.heap.size Bh Bo A B) p h Bh Bo :=
  ⟨fun k HA => HA.same fun j hj => k.low j (H.lt hj), fun k hA i hi => (World.cell?_of_block (k.low _ (World.block_lt_of_cell? _ _ (hs i hi)))).trans (hA i hi),
    fun k v hv => (World.cell?_of_block k.bh).trans hv, fun k v hv => (World.cell?_of_block k.bo).trans hv, fun k g cs b => k.hdr g cs b⟩

/-- A graph of the call's own, with the box of its pointer. -/
structure GSt (W0 : World) (gG mB bG : Nat) (hv vm vd : Value) (l : List Nd) (w : World) : Prop where
  base : Below W0.heap.size W0 w
  graph : GAt w W0.heap.size gG mB hv vm vd l
  box : Blk w bG 88 #[.pointer (some ⟨gG, 0, none⟩)]
theorem GSt.below {W0 w w' : World} {gG mB bG : Nat} {hv vm vd : Value} {l : List Nd} (S : GSt W0 gG mB bG hv vm vd l w) (hb : Below w.heap.size w w') : GSt W0 gG mB bG hv vm vd l w' :=
  ⟨below_top S.base hb, S.graph.below hb, S.box.below hb S.box.lt⟩
theorem GStep.far {w w' : World} {B gG mB : Nat} {hv vm vd vm' vd' : Value} {l : List Nd} (G : GAt w B gG mB hv vm vd l) (s : GStep w w' gG mB vm vd vm' vd') {k : Nat} (h : k < B) : w'.heap[k]? = w.heap[k]? :=
  s.block k (Nat.lt_of_lt_of_le h G.hB) (by have := G.hg; omega) (by have := G.hm; omega) (fun e => by have := (G.met.lt k e).1; omega) (fun e => by have := (G.deep.lt k e).1; omega)
/-- A block of cells of another type than the graph's own is kept. -/
theorem GStep.blk {w w' : World} {B gG mB g : Nat} {hv vm vd vm' vd' : Value} {l : List Nd} {t : TypeId} {cs : Array Value} (G : GAt w B gG mB hv vm vd l) (s : GStep w w' gG mB vm vd vm' vd') (b : Blk w g t cs)
    (h1 : 94 ≠ t) (h2 : 50 ≠ t) (h3 : 3 ≠ t) : w'.heap[g]? = w.heap[g]? :=
  s.block g b.lt (fun e => by subst e; have := G.box; unfold Blk at this b; rw [this] at b; injection b with b; injection b with _ b; exact h1 b)
    (fun e => by obtain ⟨D, _, ⟨es, clock, hb, r⟩, _⟩ := G.num; subst e; unfold Blk at b; rw [hb] at b; injection b with b; cases b) (own_ne_blk G.met b h2) (own_ne_blk G.deep b h3)
/-- A block of cells that is none of the graph's own. -/
theorem GStep.blkD {w w' : World} {B gG mB g : Nat} {hv vm vd vm' vd' : Value} {l : List Nd} {t : TypeId} {cs : Array Value} (G : GAt w B gG mB hv vm vd l) (s : GStep w w' gG mB vm vd vm' vd') (b : Blk w g t cs)
    (h1 : 94 ≠ t) (h2 : 50 ≠ t) (h3 : vd.ownBlock ≠ some g) : w'.heap[g]? = w.heap[g]? :=
  s.block g b.lt (fun e => by subst e; have := G.box; unfold Blk at this b; rw [this] at b; injection b with b; injection b with _ b; exact h1 b)
    (fun e => by obtain ⟨D, _, ⟨es, clock, hb, r⟩, _⟩ := G.num; subst e; unfold Blk at b; rw [hb] at b; injection b with b; cases b) (own_ne_blk G.met b h2) h3
theorem GSt.step {W0 w w' : World} {gG mB bG : Nat} {hv vm vd vm' vd' : Value} {l l' : List Nd} (S : GSt W0 gG mB bG hv vm vd l w) (G : GAt w' W0.heap.size gG mB hv vm' vd' l') (s : GStep w w' gG mB vm vd vm' vd') : GSt W0 gG mB bG hv vm' vd' l' w' :=
  ⟨⟨s.os.trans S.base.os, s.tape.trans S.base.tape, s.output.trans S.base.output, Nat.le_trans S.base.size s.size, fun k hk => (s.far S.graph hk).trans (S.base.block k hk)⟩, G, S.box.same (s.blk S.graph S.box (by decide) (by decide) (by decide))⟩
theorem Marks.gstep {W0 w w' : World} {gG mB : Nat} {B : Nat} {hv vm vd vm' vd' : Value} {l : List Nd} {ds : List Deferred} (M : Marks B ds w) (G : GAt w W0.heap.size gG mB hv vm vd l) (s : GStep w w' gG mB vm vd vm' vd') : Marks B ds w' :=
  M.same fun D _ h => by
    refine (s.block D (lt_of_get h) (fun e => ?_) (fun e => ?_) (fun e => ?_) (fun e => ?_)).trans h
    · subst e; have := G.box; unfold Blk at this; rw [this] at h; injection h with h; cases h
    · obtain ⟨D', _, ⟨es, clock, hb, r⟩, _⟩ := G.num; subst e; rw [hb] at h; injection h with h; cases h
    · obtain ⟨o, ho, hc⟩ := own_cells G.met e; rw [ho] at h; injection h with h; subst h; cases hc
    · obtain ⟨o, ho, hc⟩ := own_cells G.deep e; rw [ho] at h; injection h with h; subst h; cases hc

theorem fits_all {h : HM} {fr : List Nat} (hf : h.fitsB fr = true) : ∀ o ∈ fr, kindM o = 2 → h.isB o = true := by
  intro o ho hk
  unfold HM.fitsB at hf
  simp at hf
  have := hf o ho
  unfold HM.valB objB at this
  simp [hk] at this
  exact this

theorem HM.fw_lt {h : HM} (f : h.Fit) (o k : Nat) : fw h o k < 4294967296 := f.w _
theorem HM.nmAt_lt {h : HM} (f : h.Fit) (o k : Nat) : h.nmAt o k < 4294967296 := by
  unfold HM.nmAt
  split
  · exact (HM.hd_fit f _).cls
  · exact HM.fw_lt f _ _
theorem names_valB {h : HM} {ls : List Ob} (G : h.Good ls) {o : Nat} (hi : h.isB o = true) {k : Nat} (hk : k < h.nmN o) : h.valB (h.nmAt o k) = true := by
  obtain ⟨a, b, c, rfl, rfl⟩ := (G.laid.isB_iff o).1 hi
  have hmem : b ∈ a ++ b :: c := by simp
  unfold HM.nmN at hk
  unfold HM.nmAt
  rw [half_pos, G.laid.hd_at] at *
  split
  · have := G.sound.cls b hmem
    unfold HM.clsB at this
    unfold HM.valB
    by_cases h0 : b.x.cls = 0
    · rw [h0]; rfl
    · simp [h0] at this
      rw [this]; simp
  · rename_i hk0
    cases hp : b.x.ptrB
    · rw [hp] at hk; simp at hk; omega
    · rw [hp] at hk
      simp only [if_true] at hk
      have hsz := (G.laid.ok b hmem).size
      rw [G.laid.f_at (k - 1) (by omega)]
      have hlt : k - 1 < b.fs.length := by omega
      refine G.sound.flds b hmem hp _ ?_
      rw [List.getD_eq_getElem?_getD, List.getElem?_eq_getElem hlt]
      exact List.getElem_mem _
theorem names_isB {h : HM} {ls : List Ob} (G : h.Good ls) {o : Nat} (hi : h.isB o = true) {k : Nat} (hk : k < h.nmN o) (h2 : kindM (h.nmAt o k) = 2) : h.isB (h.nmAt o k) = true := by
  have := names_valB G hi hk
  unfold HM.valB objB at this
  simp [h2] at this
  exact this
theorem nmN_le {h : HM} (f : h.Fit) (o : Nat) (hi : h.hdAt (o / 2)) : h.nmN o ≤ 1048577 := by
  have h1 := hi.1
  have h3 := f.room
  have h4 := f.hi
  unfold HM.nmN
  split <;> omega

/-- Behind some of what the i-th object names. -/
def meetP (nA : Nat → Nat → Nat) (l : List Nd) (i : Nat) (pre : List Nat) : List Nd :=
  pre.foldl (fun acc k => meetN acc (nA (l.getD i default).o k) (i : Int) ((k : Int) - 1) ((l.getD i default).deep + 1)) l
theorem meetP_snoc (nA : Nat → Nat → Nat) (l : List Nd) (i : Nat) (pre : List Nat) (k : Nat) : meetP nA l i (pre ++ [k]) = meetN (meetP nA l i pre) (nA (l.getD i default).o k) (i : Int) ((k : Int) - 1) ((l.getD i default).deep + 1) := by
  unfold meetP; rw [List.foldl_append]; rfl
theorem meetP_range (nA : Nat → Nat → Nat) (l : List Nd) (i : Nat) : ∀ n, meetP nA l i (List.range n) = meetK nA l i n
  | 0 => rfl
  | n + 1 => by rw [List.range_succ, meetP_snoc, meetP_range nA l i n]; rfl
theorem meetP_kind (nA : Nat → Nat → Nat) {l : List Nd} (i : Nat) (h0 : ∀ x ∈ oopsOf l, kindM x = 2) : ∀ pre : List Nat, ∀ x ∈ oopsOf (meetP nA l i pre), kindM x = 2 := by
  intro pre
  unfold meetP
  generalize (l.getD i default).deep + 1 = d
  generalize (l.getD i default).o = o
  revert h0
  generalize l = l0
  induction pre generalizing l0 with
  | nil => exact fun h => h
  | cons k pre ih => exact fun h0 => ih _ (meetN_all h0 (fun h => h) _ _ _)
theorem meetP_pre (nA : Nat → Nat → Nat) (l : List Nd) (i : Nat) (pre : List Nat) : l <+: meetP nA l i pre := by
  unfold meetP
  generalize (l.getD i default).deep + 1 = d
  generalize (l.getD i default).o = o
  generalize l = l0
  induction pre generalizing l0 with
  | nil => exact List.prefix_refl _
  | cons k pre ih => exact (meetN_pre _ _ _ _ _).trans (ih _)
theorem meetP_len (nA : Nat → Nat → Nat) (l : List Nd) (i : Nat) (pre : List Nat) : (meetP nA l i pre).length ≤ l.length + pre.length := by
  unfold meetP
  generalize (l.getD i default).deep + 1 = d
  generalize (l.getD i default).o = o
  generalize l = l0
  induction pre generalizing l0 with
  | nil => simp
  | cons k pre ih =>
    refine Nat.le_trans (ih _) ?_
    have := (meetN_len l0 (nA o k) (i : Int) ((k : Int) - 1) d).2
    simp; omega
theorem own_slice {w : World} {base : Nat} {e : TypeId} {v : Value} {n : Nat} {xs : List Value} (h : w.ownsRow base e 1 v n xs) : ∃ A c, v = .slice A n c ∧ Reads w w.heap.size 1 A n xs := by
  rcases Nat.eq_zero_or_pos n with h0 | h0
  · have hx : xs = [] := List.eq_nil_of_length_eq_zero (by have := h.1; omega)
    subst hx
    subst h0
    rcases h.2 with ⟨h1, _⟩ | ⟨g, cap, cur, rfl, _⟩
    · exact ⟨none, 0, h1, rfl, fun hh => by omega⟩
    · exact ⟨some ⟨g, 0, none⟩, cap, rfl, rfl, fun hh => by omega⟩
  · obtain ⟨g, c, rfl, hr, hx, hb⟩ := Row.of_any h h0
    refine ⟨some ⟨g, 0, none⟩, c, rfl, ?_⟩
    rw [← hx]
    exact hr.reads (h.lt g rfl).2
section
variable {W0 w w' : World} {gG mB bG : Nat} {hv vm vd vm' vd' : Value} {l l' : List Nd}
/-- The loops over functions keep it. -/
theorem GSt.own' {B : Nat} {row : Option Nat} (S : GSt W0 gG mB bG hv vm vd l w) (hm : mB < B) (hB : W0.heap.size ≤ B) (hg : w.grownBy w' row) (hr : ∀ r, row = some r → B ≤ r ∧ ∃ o : Obj, w.heap[r]? = some o ∧ o.isCells = false) : GSt W0 gG mB bG hv vm vd l w' := by
  have hc : ∀ g cs t, Blk w g t cs → w'.heap[g]? = w.heap[g]? := fun g cs t b => hg.block g b.lt (fun e => by
    obtain ⟨_, o, ho, hc⟩ := hr g e.symm
    unfold Blk at b; rw [b] at ho; injection ho with ho; subst ho; cases hc)
  have ho : ∀ {e n xs} {v : Value}, w.ownsRow W0.heap.size e 1 v n xs → ∀ k, v.ownBlock = some k → w'.heap[k]? = w.heap[k]? := fun h k hk => hg.block k (h.lt k hk).2 (fun e => by
    obtain ⟨_, o, ho, hc⟩ := hr k e.symm
    obtain ⟨o', ho', hc'⟩ := own_cells h hk
    rw [ho'] at ho; injection ho with ho; subst ho; rw [hc'] at hc; cases hc)
  refine ⟨⟨hg.os.trans S.base.os, hg.tape.trans S.base.tape, hg.output.trans S.base.output, Nat.le_trans S.base.size hg.size, fun k hk => (hg.block k (Nat.lt_of_lt_of_le hk S.base.size) (fun e => by have := (hr k e.symm).1; omega)).trans (S.base.block k hk)⟩, ?_, S.box.same (hc _ _ _ S.box)⟩
  exact ⟨S.graph.box.same (hc _ _ _ S.graph.box), own_same S.graph.met (ho S.graph.met), own_same S.graph.deep (ho S.graph.deep), S.graph.num.same (hg.block mB S.graph.num.lt (fun e => by have := (hr mB e.symm).1; omega)), S.graph.hg, S.graph.hm, Nat.le_trans S.graph.hB hg.size⟩
theorem Marks.own' {B0 B : Nat} {row : Option Nat} {ds : List Deferred} (M : Marks B0 ds w) (hd : ∀ D, ({ target := .collected D, args := #[] } : Deferred) ∈ ds → D < B) (hg : w.grownBy w' row) (hr : ∀ r, row = some r → B ≤ r ∧ ∃ o : Obj, w.heap[r]? = some o ∧ o.isCells = false) : Marks B0 ds w' := by
  refine ⟨fun d hdm => ?_, M.nodup⟩
  obtain ⟨D, rfl, h2, h3⟩ := M.at_ d hdm
  exact ⟨D, rfl, h2, (hg.block D (lt_of_get h3) (fun e => by have := (hr D e.symm).1; have := hd D hdm; omega)).trans h3⟩
theorem blk_own' {B g : Nat} {row : Option Nat} {t : TypeId} {cs : Array Value} (b : Blk w g t cs) (hg : w.grownBy w' row) (hr : ∀ r, row = some r → B ≤ r ∧ ∃ o : Obj, w.heap[r]? = some o ∧ o.isCells = false) : Blk w' g t cs :=
  b.same (hg.block g b.lt (fun e => by
    obtain ⟨_, o, ho, hc⟩ := hr g e.symm
    unfold Blk at b; rw [b] at ho; injection ho with ho; subst ho; cases hc))
theorem GStep.keeps {B : Nat} (G : GAt w W0.heap.size gG mB hv vm vd l) (s : GStep w w' gG mB vm vd vm' vd') (hm : mB < B) : KeepsFrom B w w' := by
  refine ⟨s.size, fun k o hk ho hc => (s.block k (lt_of_get ho) (fun e => ?_) (by omega) (fun e => ?_) (fun e => ?_)).trans ho⟩
  · subst e; have := G.box; unfold Blk at this; rw [this] at ho; injection ho with ho; subst ho; cases hc
  · obtain ⟨o', ho', hc'⟩ := own_cells G.met e; rw [ho] at ho'; injection ho' with ho'; subst ho'; rw [hc] at hc'; cases hc'
  · obtain ⟨o', ho', hc'⟩ := own_cells G.deep e; rw [ho] at ho'; injection ho' with ho'; subst ho'; rw [hc] at hc'; cases hc'
theorem GStep.kpG {Bh Bo : Nat} {ch co : Array Value} (G : GAt w W0.heap.size gG mB hv vm vd l) (s : GStep w w' gG mB vm vd vm' vd') (bh : Blk w Bh 27 ch) (bo : Blk w Bo 50 co) (hne : vm.ownBlock ≠ some Bo) : KpG W0.heap.size Bh Bo w w' :=
  ⟨s.os, s.tape, s.output, s.size, fun k hk => s.far G hk, s.blk G bh (by decide) (by decide) (by decide),
    s.block Bo bo.lt (fun e => by subst e; have := G.box; unfold Blk at this bo; rw [this] at bo; injection bo with bo; injection bo with _ bo; revert bo; decide)
      (fun e => by obtain ⟨D, _, ⟨es, clock, hb, r⟩, _⟩ := G.num; subst e; unfold Blk at bo; rw [hb] at bo; injection bo with bo; cases bo) hne (own_ne_blk G.deep bo (by decide)),
    fun g cs b => b.same (s.blk G b (by decide) (by decide) (by decide))⟩
theorem KpG.of_below {M Bh Bo : Nat} (hb : Below w.heap.size w w') (hM : M ≤ w.heap.size) (h1 : Bh < w.heap.size) (h2 : Bo < w.heap.size) : KpG M Bh Bo w w' :=
  ⟨hb.os, hb.tape, hb.output, hb.size, fun k hk => hb.block k (by omega), hb.block _ h1, hb.block _ h2, fun g cs b => b.below hb b.lt⟩
theorem KeepsFrom.of_below {B : Nat} (hb : Below w.heap.size w w') : KeepsFrom B w w' := ⟨hb.size, fun k o _ ho _ => (hb.block k (lt_of_get ho)).trans ho⟩
/-- Leaving: the marks alone are shut. -/
theorem GAt.left {B : Nat} {ds : List Deferred} {B0 : Nat} (G : GAt w B gG mB hv vm vd l) (M : Marks B0 ds w) (hs : w'.heap.size = w.heap.size) (hk : ∀ k, k < w.heap.size → (∀ D, ({ target := .collected D, args := #[] } : Deferred) ∈ ds → k ≠ D) → w'.heap[k]? = w.heap[k]?) : GAt w' B gG mB hv vm vd l := by
  have hne : ∀ {k : Nat} {o : Obj}, w.heap[k]? = some o → (o.isCells = true ∨ ∃ es c, o = .map es c) → ∀ D, ({ target := .collected D, args := #[] } : Deferred) ∈ ds → k ≠ D := fun {k o} ho hc D hD e => by
    obtain ⟨D', h1, _, h3⟩ := M.at_ _ hD
    injection h1 with h1; injection h1 with h1
    subst h1; subst e
    rw [ho] at h3; injection h3 with h3; subst h3
    rcases hc with hc | ⟨es, c, hc⟩
    · cases hc
    · cases hc
  have hown : ∀ {e n xs} {v : Value}, w.ownsRow B e 1 v n xs → ∀ k, v.ownBlock = some k → w'.heap[k]? = w.heap[k]? := fun h k hk' => by
    obtain ⟨o, ho, hc⟩ := own_cells h hk'
    exact hk k (lt_of_get ho) (hne ho (.inl hc))
  refine ⟨G.box.same (hk _ G.box.lt (hne G.box (.inl rfl))), own_same G.met (hown G.met), own_same G.deep (hown G.deep), G.num.same ?_, G.hg, G.hm, by have := G.hB; omega⟩
  obtain ⟨D, _, ⟨es, clock, hb, r⟩, _⟩ := G.num
  exact hk mB (lt_of_get hb) (hne hb (.inr ⟨_, _, rfl⟩))
theorem below_left {ds : List Deferred} (hb : Below W0.heap.size W0 w) (M : Marks W0.heap.size ds w) (h1 : w'.os = w.os) (h2 : w'.tape = w.tape) (h3 : w'.output = w.output) (hs : w'.heap.size = w.heap.size)
    (hk : ∀ k, k < w.heap.size → (∀ D, ({ target := .collected D, args := #[] } : Deferred) ∈ ds → k ≠ D) → w'.heap[k]? = w.heap[k]?) : Below W0.heap.size W0 w' :=
  ⟨h1.trans hb.os, h2.trans hb.tape, h3.trans hb.output, by have := hb.size; omega, fun k hk' => (hk k (Nat.lt_of_lt_of_le hk' hb.size) (fun D hD e => by
    obtain ⟨D', e1, e2, _⟩ := M.at_ _ hD
    injection e1 with e1; injection e1 with e1
    omega)).trans (hb.block k hk')⟩
end
/-- A loop with a number that falls. -/
theorem wpIn_loop_n {F : Fence} {n : Nat} {P : Program} {Q : Exit → Act → World → Prop} {a : Act} {w : World} {c : Code} (I : Nat → Act → World → Prop) (j : Nat) (h0 : I j a w)
    (round : ∀ j a w, I j a w → c.wpIn F n P (Exit.then (fun a' w' => ∃ j', j' < j ∧ I j' a' w') Q) a w) : (Code.loop c).wpIn F n P Q a w := by
  have least : ∀ (j : Nat) (a : Act) (w : World), I j a w → ∃ j', I j' a w ∧ ∀ k, I k a w → j' ≤ k := by
    intro j
    induction j using Nat.strongRecOn with
    | _ j ih =>
      intro a w h
      by_cases hk : ∃ k, k < j ∧ I k a w
      · obtain ⟨k, h1, h2⟩ := hk
        exact ih k h1 a w h2
      · exact ⟨j, h, fun k h2 => Nat.le_of_not_lt (fun h1 => hk ⟨k, h1, h2⟩)⟩
  have least' : ∀ (a : Act) (w : World), ∃ m : Nat, (∃ j, I j a w) → I m a w ∧ ∀ k, I k a w → m ≤ k := fun a w => by
    by_cases h : ∃ j, I j a w
    · obtain ⟨j, h⟩ := h
      obtain ⟨m, h1⟩ := least j a w h
      exact ⟨m, fun _ => h1⟩
    · exact ⟨0, fun h' => absurd h' h⟩
  refine wpIn_loop (fun a w => ∃ j, I j a w) (fun a w => Classical.choose (least' a w)) ⟨j, h0⟩ (fun a w hI => ?_)
  have hm := Classical.choose_spec (least' a w) hI
  refine wpIn_mono (round _ a w hm.1) (fun e a' w' h => ?_)
  cases e with
  | normal =>
    obtain ⟨j', h1, h2⟩ := h
    have hm' := Classical.choose_spec (least' a' w') ⟨j', h2⟩
    exact ⟨⟨j', h2⟩, Nat.lt_of_le_of_lt (hm'.2 j' h2) h1⟩
  | _ => exact h
theorem names_any (g o : Nat) (w : World) : Calls Tryd.prog 47 #[ptr g, .int .u32 o] w fun e w' => e = .returned (.func (.func 78) #[] #[.pointer (some ⟨w.heap.size, 0, none⟩), .pointer (some ⟨w.heap.size + 1, 0, none⟩)]) ∧ w' = (w.alloc (.cells #[ptr g] 27)).alloc (.cells #[.int .u32 o] 50) := by
  unfold ptr
  go_enter Tryd.func47, Tryd.ntmps47
  go_wp2_with fail
  go_ret
  exact ⟨rfl, rfl⟩
end Go.Proofs.YtpajpdjjpgbklaaDoor
