/- What the steps of a pair keep: blocks of other types, marks, headers; a pair beside a growing row of oops. -/
/- compare.names again: each value that is handed out is told that its place is one of them. -/
/- The document's Names: an object's class, and the fields that are oops. -/
import Derived.Test.YtpajpdjjpgbklaaDoorJValues
import Derived.Test.YtpajpdjjpgbklaaDoorJRefQ
import Derived.Test.YtpajpdjjpgbklaaDoorJRefE
import Derived.Test.YtpajpdjjpgbklaaDoorJMem
import Derived.Test.YtpajpdjjpgbklaaDoorJMarks
import Derived.Test.YtpajpdjjpgbklaaDoorJRFollow
set_option linter.unusedVariables false
set_option linter.unusedSimpArgs false
set_option linter.unusedSectionVars false
namespace Go.Proofs.YtpajpdjjpgbklaaDoor
open Go.RowKit Go.Maps
attribute [local go_sem] Oper.semAt_some

theorem map_no_blk {w : World} {g mB : Nat} {t K : TypeId} {cs : Array Value} {n : Nat} {ff : Nat → Nat} {hs : Nat → Bool} (b : Blk w g t cs) (M : MapOk K w mB n ff hs) : mB ≠ g := fun e => blk_ne_map b M e.symm
section
variable {w w' : World} {B : Nat} {x : PA} {hvA hvB : Value} {r r' : PRows} {t0 t1 t2 : Value} {l m lw l' m' : List Nd} {ps : List Value}
theorem PAt.xLow (P : PAt w B x hvA hvB r t0 t1 t2 l m lw ps) {k : Nat} (h : x.has k) : B ≤ k := by
  rcases h with rfl | rfl | rfl | rfl | rfl
  · exact P.hP
  · exact P.ga.hg
  · exact P.ga.hm
  · exact P.gb.hg
  · exact P.gb.hm
theorem PAt.rLow (P : PAt w B x hvA hvB r t0 t1 t2 l m lw ps) {k : Nat} (h : r.has k) : B ≤ k ∧ k < w.heap.size := by
  rcases h with h | h | h | h | h
  · exact P.ga.met.lt k h
  · exact P.ga.deep.lt k h
  · exact P.gb.met.lt k h
  · exact P.gb.deep.lt k h
  · exact P.paths.lt k h
theorem PStep.low (P : PAt w B x hvA hvB r t0 t1 t2 l m lw ps) (s : PStep x r r' w w') {k : Nat} (hk : k < B) : w'.heap[k]? = w.heap[k]? :=
  s.block k (Nat.lt_of_lt_of_le hk P.ga.hB) (fun h => by have := P.xLow h; omega) (fun h => by have := (P.rLow h).1; omega)
theorem PAt.xNe (P : PAt w B x hvA hvB r t0 t1 t2 l m lw ps) {g : Nat} {t : TypeId} {cs : Array Value} (b : Blk w g t cs) (h1 : 97 ≠ t) (h2 : 94 ≠ t) : ¬ x.has g := by
  rintro (rfl | rfl | rfl | rfl | rfl)
  · exact P.box.ne_ b h1 rfl
  · exact P.ga.box.ne_ b h2 rfl
  · exact blk_ne_map b P.ga.num rfl
  · exact P.gb.box.ne_ b h2 rfl
  · exact blk_ne_map b P.gb.num rfl
theorem PAt.rNe (P : PAt w B x hvA hvB r t0 t1 t2 l m lw ps) {g : Nat} {t : TypeId} {cs : Array Value} (b : Blk w g t cs) (h1 : 50 ≠ t) (h2 : 3 ≠ t) (h3 : 33 ≠ t) : ¬ r.has g := by
  rintro (h | h | h | h | h)
  · exact own_ne_blk P.ga.met b h1 h
  · exact own_ne_blk P.ga.deep b h2 h
  · exact own_ne_blk P.gb.met b h1 h
  · exact own_ne_blk P.gb.deep b h2 h
  · exact own_ne_blk P.paths b h3 h
theorem PStep.blk (P : PAt w B x hvA hvB r t0 t1 t2 l m lw ps) (s : PStep x r r' w w') {g : Nat} {t : TypeId} {cs : Array Value} (b : Blk w g t cs) (h1 : 97 ≠ t) (h2 : 94 ≠ t) (h3 : 50 ≠ t) (h4 : 3 ≠ t) (h5 : 33 ≠ t) :
    w'.heap[g]? = w.heap[g]? := s.block g b.lt (P.xNe b h1 h2) (P.rNe b h3 h4 h5)
theorem PStep.blkD (P : PAt w B x hvA hvB r t0 t1 t2 l m lw ps) (s : PStep x r r' w w') {g : Nat} {t : TypeId} {cs : Array Value} (b : Blk w g t cs) (h1 : 97 ≠ t) (h2 : 94 ≠ t) (hn : ¬ r.has g) :
    w'.heap[g]? = w.heap[g]? := s.block g b.lt (P.xNe b h1 h2) hn
theorem PStep.no (s : PStep x r r' w w') {g : Nat} (hg : g < w.heap.size) (hn : ¬ r.has g) : ¬ r'.has g := fun h => by
  rcases s.rows g h with h | h
  · exact hn h
  · omega
/-- An object that is neither cells nor a map. -/
theorem PStep.obj (P : PAt w B x hvA hvB r t0 t1 t2 l m lw ps) (s : PStep x r r' w w') {k : Nat} {o : Obj} (ho : w.heap[k]? = some o) (hc : o.isCells = false) (hA : k ≠ x.mA) (hB : k ≠ x.mB) : w'.heap[k]? = some o := by
  have hb : ∀ g t cs, Blk w g t cs → k ≠ g := fun g t cs b e => by
    subst e; unfold Blk at b; rw [b] at ho; injection ho with ho; subst ho; cases hc
  have hr : ∀ {e n xs} {v : Value}, w.ownsRow B e 1 v n xs → v.ownBlock ≠ some k := fun h e => by
    obtain ⟨o', ho', hc'⟩ := own_cells h e; rw [ho] at ho'; injection ho' with ho'; subst ho'; rw [hc] at hc'; cases hc'
  refine (s.block k (lt_of_get ho) ?_ ?_).trans ho
  · rintro (h | h | h | h | h)
    · exact hb _ _ _ P.box h
    · exact hb _ _ _ P.ga.box h
    · exact hA h
    · exact hb _ _ _ P.gb.box h
    · exact hB h
  · rintro (h | h | h | h | h)
    · exact hr P.ga.met h
    · exact hr P.ga.deep h
    · exact hr P.gb.met h
    · exact hr P.gb.deep h
    · exact hr P.paths h
theorem PStep.marks (P : PAt w B x hvA hvB r t0 t1 t2 l m lw ps) (s : PStep x r r' w w') {B0 : Nat} {ds : List Deferred} (M : Marks B0 ds w) : Marks B0 ds w' :=
  M.same fun D _ h => s.obj P h rfl (fun e => by subst e; obtain ⟨D', _, ⟨es, clock, hb, r⟩, _⟩ := P.ga.num; rw [hb] at h; injection h with h; cases h)
    (fun e => by subst e; obtain ⟨D', _, ⟨es, clock, hb, r⟩, _⟩ := P.gb.num; rw [hb] at h; injection h with h; cases h)
theorem PStep.keeps (P : PAt w B x hvA hvB r t0 t1 t2 l m lw ps) (s : PStep x r r' w w') {B1 : Nat} (hA : x.mA < B1) (hB : x.mB < B1) : KeepsFrom B1 w w' :=
  ⟨s.size, fun k o hk ho hc => s.obj P ho hc (by omega) (by omega)⟩
theorem PStep.kpG (P : PAt w B x hvA hvB r t0 t1 t2 l m lw ps) (s : PStep x r r' w w') {Bh Bo : Nat} {ch co : Array Value} (bh : Blk w Bh 27 ch) (bo : Blk w Bo 50 co) (hn : ¬ r.has Bo) : KpG B Bh Bo w w' :=
  ⟨s.os, s.tape, s.output, s.size, fun k hk => s.low P hk, s.blk P bh (by decide) (by decide) (by decide) (by decide) (by decide), s.blkD P bo (by decide) (by decide) hn,
    fun g cs b => b.same (s.blk P b (by decide) (by decide) (by decide) (by decide) (by decide))⟩
/-- The loops over functions keep it. -/
theorem GAt.own' {B0 B1 gG mB : Nat} {hv vm vd : Value} {row : Option Nat} (G : GAt w B0 gG mB hv vm vd l) (hm : mB < B1) (hg : w.grownBy w' row) (hr : ∀ r, row = some r → B1 ≤ r ∧ ∃ o : Obj, w.heap[r]? = some o ∧ o.isCells = false) : GAt w' B0 gG mB hv vm vd l := by
  have hc : ∀ g cs t, Blk w g t cs → w'.heap[g]? = w.heap[g]? := fun g cs t b => hg.block g b.lt (fun e => by
    obtain ⟨_, o, ho, hc⟩ := hr g e.symm
    unfold Blk at b; rw [b] at ho; injection ho with ho; subst ho; cases hc)
  have ho : ∀ {e n xs} {v : Value}, w.ownsRow B0 e 1 v n xs → ∀ k, v.ownBlock = some k → w'.heap[k]? = w.heap[k]? := fun h k hk => hg.block k (h.lt k hk).2 (fun e => by
    obtain ⟨_, o, ho, hc⟩ := hr k e.symm
    obtain ⟨o', ho', hc'⟩ := own_cells h hk
    rw [ho'] at ho; injection ho with ho; subst ho; rw [hc'] at hc; cases hc)
  exact ⟨G.box.same (hc _ _ _ G.box), own_same G.met (ho G.met), own_same G.deep (ho G.deep), G.num.same (hg.block mB G.num.lt (fun e => by have := (hr mB e.symm).1; omega)), G.hg, G.hm, Nat.le_trans G.hB hg.size⟩
theorem row_own' {B1 g c : Nat} {e : TypeId} {xs : List Value} {row : Option Nat} (h : Row w g e c xs) (hg : w.grownBy w' row) (hr : ∀ r, row = some r → B1 ≤ r ∧ ∃ o : Obj, w.heap[r]? = some o ∧ o.isCells = false) : Row w' g e c xs := by
  obtain ⟨cur, b, h2⟩ := h
  exact ⟨cur, blk_own' b hg hr, h2⟩
theorem own_own' {B0 B1 n : Nat} {e : TypeId} {v : Value} {xs : List Value} {row : Option Nat} (h : w.ownsRow B0 e 1 v n xs) (hg : w.grownBy w' row) (hr : ∀ r, row = some r → B1 ≤ r ∧ ∃ o : Obj, w.heap[r]? = some o ∧ o.isCells = false) : w'.ownsRow B0 e 1 v n xs :=
  own_same h (fun k hk => hg.block k (h.lt k hk).2 (fun e => by
    obtain ⟨_, o, ho, hc⟩ := hr k e.symm
    obtain ⟨o', ho', hc'⟩ := own_cells h hk
    rw [ho'] at ho; injection ho with ho; subst ho; rw [hc'] at hc; cases hc))
theorem PAt.own' {B1 : Nat} {row : Option Nat} (P : PAt w B x hvA hvB r t0 t1 t2 l m lw ps) (hA : x.mA < B1) (hB : x.mB < B1) (hg : w.grownBy w' row) (hr : ∀ r, row = some r → B1 ≤ r ∧ ∃ o : Obj, w.heap[r]? = some o ∧ o.isCells = false) :
    PAt w' B x hvA hvB r t0 t1 t2 l m lw ps :=
  ⟨blk_own' P.box hg hr, P.ga.own' hA hg hr, P.gb.own' hB hg hr, own_own' P.paths hg hr, P.plen, fun i hi => by
    obtain ⟨g, c, h1, h2, h3⟩ := P.ways i hi
    exact ⟨g, c, h1, row_own' h2 hg hr, h3⟩, P.hP, P.neG, P.neM, P.neV, P.neD⟩
/-- Whatever grows beside it. -/
theorem PAt.beside (P : PAt w B x hvA hvB r t0 t1 t2 l m lw ps) (hz : w.heap.size ≤ w'.heap.size) (hk : ∀ k, k < w.heap.size → (x.has k ∨ r.has k ∨ ∃ cs, Blk w k 3 cs) → w'.heap[k]? = w.heap[k]?) : PAt w' B x hvA hvB r t0 t1 t2 l m lw ps := by
  refine ⟨P.box.same (hk _ P.box.lt (.inl (.inl rfl))), P.ga.keep hz (fun k h1 hc => hk k h1 ?_), P.gb.keep hz (fun k h1 hc => hk k h1 ?_), own_same P.paths (fun k h => hk k (P.paths.lt k h).2 (.inr (.inl (.inr (.inr (.inr (.inr h))))))), P.plen, fun i hi => ?_, P.hP, P.neG, P.neM, P.neV, P.neD⟩
  · rcases hc with h | h | h | h
    · exact .inl (.inr (.inl h))
    · exact .inl (.inr (.inr (.inl h)))
    · exact .inr (.inl (.inl h))
    · exact .inr (.inl (.inr (.inl h)))
  · rcases hc with h | h | h | h
    · exact .inl (.inr (.inr (.inr (.inl h))))
    · exact .inl (.inr (.inr (.inr (.inr h))))
    · exact .inr (.inl (.inr (.inr (.inl h))))
    · exact .inr (.inl (.inr (.inr (.inr (.inl h)))))
  · obtain ⟨g, c, h1, h2, h3⟩ := P.ways i hi
    obtain ⟨cur, hcur, _⟩ := id h2
    exact ⟨g, c, h1, h2.same (hk g h2.lt (.inr (.inr ⟨cur, hcur⟩))), h3⟩
end

/-- The pair, its box, since W0. -/
structure WkSt (W0 : World) (x : PA) (bP : Nat) (hvA hvB : Value) (r : PRows) (t0 t1 t2 : Value) (l m : List Nd) (ps : List Value) (w : World) : Prop where
  base : Below W0.heap.size W0 w
  pr : PAt w W0.heap.size x hvA hvB r t0 t1 t2 l m l ps
  box : Blk w bP 91 #[.pointer (some ⟨x.gP, 0, none⟩)]
section
variable {W0 w w' : World} {x : PA} {bP : Nat} {hvA hvB : Value} {r r' : PRows} {t0 t1 t2 u0 u1 u2 : Value} {l m l' m' : List Nd} {ps ps' : List Value}
theorem WkSt.below (S : WkSt W0 x bP hvA hvB r t0 t1 t2 l m ps w) (hb : Below w.heap.size w w') : WkSt W0 x bP hvA hvB r t0 t1 t2 l m ps w' :=
  ⟨below_top S.base hb, S.pr.below hb, S.box.below hb S.box.lt⟩
theorem WkSt.base' (S : WkSt W0 x bP hvA hvB r t0 t1 t2 l m ps w) (s : PStep x r r' w w') : Below W0.heap.size W0 w' :=
  ⟨s.os.trans S.base.os, s.tape.trans S.base.tape, s.output.trans S.base.output, Nat.le_trans S.base.size s.size, fun k hk => (s.low S.pr hk).trans (S.base.block k hk)⟩
theorem WkSt.step (S : WkSt W0 x bP hvA hvB r t0 t1 t2 l m ps w) (P : PAt w' W0.heap.size x hvA hvB r' u0 u1 u2 l' m' l' ps') (s : PStep x r r' w w') : WkSt W0 x bP hvA hvB r' u0 u1 u2 l' m' ps' w' :=
  ⟨S.base' s, P, S.box.same (s.blk S.pr S.box (by decide) (by decide) (by decide) (by decide) (by decide))⟩
theorem WkSt.own' {B1 : Nat} {row : Option Nat} (S : WkSt W0 x bP hvA hvB r t0 t1 t2 l m ps w) (hA : x.mA < B1) (hB : x.mB < B1) (h0 : W0.heap.size ≤ B1) (hg : w.grownBy w' row) (hr : ∀ r, row = some r → B1 ≤ r ∧ ∃ o : Obj, w.heap[r]? = some o ∧ o.isCells = false) :
    WkSt W0 x bP hvA hvB r t0 t1 t2 l m ps w' :=
  ⟨⟨hg.os.trans S.base.os, hg.tape.trans S.base.tape, hg.output.trans S.base.output, Nat.le_trans S.base.size hg.size, fun k hk => (hg.block k (Nat.lt_of_lt_of_le hk S.base.size) (fun e => by have := (hr k e.symm).1; omega)).trans (S.base.block k hk)⟩,
    S.pr.own' hA hB hg hr, blk_own' S.box hg hr⟩
/-- A row of oops of the call's own, with its box, beside the pair. -/
structure OthSt (W0 : World) (r : PRows) (bO : Nat) (vo : Value) (xs : List Nat) (w : World) : Prop where
  bo : Blk w bO 23 #[vo]
  own : w.ownsRow W0.heap.size 50 1 vo xs.length (u32s xs)
  hb : W0.heap.size ≤ bO
  far : ∀ k, vo.ownBlock = some k → ¬ r.has k
theorem OthSt.below {bO : Nat} {vo : Value} {xs : List Nat} (O : OthSt W0 r bO vo xs w) (hb : Below w.heap.size w w') : OthSt W0 r bO vo xs w' :=
  ⟨O.bo.below hb O.bo.lt, own_same O.own (fun k hk => hb.block k (O.own.lt k hk).2), O.hb, O.far⟩
theorem OthSt.own' {B1 bO : Nat} {vo : Value} {xs : List Nat} {row : Option Nat} (O : OthSt W0 r bO vo xs w) (hg : w.grownBy w' row) (hr : ∀ r, row = some r → B1 ≤ r ∧ ∃ o : Obj, w.heap[r]? = some o ∧ o.isCells = false) : OthSt W0 r bO vo xs w' :=
  ⟨blk_own' O.bo hg hr, own_own' O.own hg hr, O.hb, O.far⟩
/-- The pair's steps keep the row. -/
theorem OthSt.pstep {bO : Nat} {vo : Value} {xs : List Nat} (O : OthSt W0 r bO vo xs w) (P : PAt w W0.heap.size x hvA hvB r t0 t1 t2 l m l ps) (s : PStep x r r' w w') : OthSt W0 r' bO vo xs w' := by
  refine ⟨O.bo.same (s.blk P O.bo (by decide) (by decide) (by decide) (by decide) (by decide)), own_same O.own (fun k hk => s.block k (O.own.lt k hk).2 ?_ (O.far k hk)), O.hb, fun k hk => s.no (O.own.lt k hk).2 (O.far k hk)⟩
  rintro (rfl | rfl | rfl | rfl | rfl)
  · exact own_ne_blk O.own P.box (by decide) hk
  · exact own_ne_blk O.own P.ga.box (by decide) hk
  · exact own_ne_map O.own P.ga.num hk
  · exact own_ne_blk O.own P.gb.box (by decide) hk
  · exact own_ne_map O.own P.gb.num hk
/-- The row grows. -/
theorem OthSt.other {bO : Nat} {vo vo' : Value} {xs : List Nat} (O : OthSt W0 r bO vo xs w) (hg : Grows w w' vo vo') {k : Nat} (hk : k < w.heap.size) (h1 : vo.ownBlock ≠ some k) (h2 : k ≠ bO) (u : Value) :
    (w'.setCell ⟨bO, 0, none⟩ u).heap[k]? = w.heap[k]? :=
  (Below.heap_setCell w' ⟨bO, 0, none⟩ u k h2).trans (hg.g.block k hk (fun e => h1 e.symm))
theorem OthSt.blk {bO : Nat} {vo vo' : Value} {xs : List Nat} (O : OthSt W0 r bO vo xs w) (hg : Grows w w' vo vo') (u : Value) {g : Nat} {t : TypeId} {cs : Array Value} (b : Blk w g t cs) (h1 : 50 ≠ t) (h2 : t ≠ 23) :
    (w'.setCell ⟨bO, 0, none⟩ u).heap[g]? = w.heap[g]? := O.other hg b.lt (own_ne_blk O.own b h1) (b.ne_ O.bo h2) u
theorem OthSt.obj {bO : Nat} {vo vo' : Value} {xs : List Nat} (O : OthSt W0 r bO vo xs w) (hg : Grows w w' vo vo') (u : Value) {k : Nat} {o : Obj} (ho : w.heap[k]? = some o) (hc : o.isCells = false) : (w'.setCell ⟨bO, 0, none⟩ u).heap[k]? = some o :=
  (O.other hg (lt_of_get ho) (fun e => by
    obtain ⟨o', ho', hc'⟩ := own_cells O.own e
    rw [ho] at ho'; injection ho' with ho'; subst ho'; rw [hc] at hc'; cases hc') (fun e => by
    subst e; have := O.bo; unfold Blk at this; rw [this] at ho; injection ho with ho; subst ho; cases hc) u).trans ho
theorem OthSt.grow {bO : Nat} {vo vo' : Value} {xs ys : List Nat} (O : OthSt W0 r bO vo xs w) (S : WkSt W0 x bP hvA hvB r t0 t1 t2 l m ps w) (hown : w'.ownsRow W0.heap.size 50 1 vo' ys.length (u32s ys)) (hg : Grows w w' vo vo') :
    OthSt W0 r bO vo' ys (w'.setCell ⟨bO, 0, none⟩ vo') ∧ WkSt W0 x bP hvA hvB r t0 t1 t2 l m ps (w'.setCell ⟨bO, 0, none⟩ vo') := by
  have hsz : (w'.setCell ⟨bO, 0, none⟩ vo').heap.size = w'.heap.size := by simp [World.setCell]
  have hne : vo.ownBlock ≠ some bO := own_ne_blk O.own O.bo (by decide)
  have hne' : vo'.ownBlock ≠ some bO := fun e => by
    rcases hg.at_ _ e with e' | e'
    · exact hne e'
    · have := O.bo.lt; omega
  have hlow : ∀ k, k < W0.heap.size → (w'.setCell ⟨bO, 0, none⟩ vo').heap[k]? = w.heap[k]? := fun k hk =>
    O.other hg (Nat.lt_of_lt_of_le hk S.base.size) (fun e => by have := (O.own.lt k e).1; omega) (by have := O.hb; omega) _
  refine ⟨⟨(O.bo.same (hg.g.block bO O.bo.lt (fun e => hne e.symm))).set_ 0 _, own_same hown (fun k hk => Below.heap_setCell w' ⟨bO, 0, none⟩ _ k (fun (e : k = bO) => hne' (by rw [← e]; exact hk))), O.hb, fun k hk => ?_⟩,
    ⟨⟨hg.g.os.trans S.base.os, hg.g.tape.trans S.base.tape, hg.g.output.trans S.base.output, by rw [hsz]; exact Nat.le_trans S.base.size hg.g.size, fun k hk => (hlow k hk).trans (S.base.block k hk)⟩,
      S.pr.beside (by rw [hsz]; exact hg.g.size) (fun k hk hc => O.other hg hk ?_ ?_ _), S.box.same (O.blk hg _ S.box (by decide) (by decide))⟩⟩
  · rcases hg.at_ k hk with e | e
    · exact O.far k e
    · exact fun h => by have := (S.pr.rLow h).2; omega
  · rcases hc with h | h | ⟨cs, b⟩
    · rcases h with rfl | rfl | rfl | rfl | rfl
      · exact own_ne_blk O.own S.pr.box (by decide)
      · exact own_ne_blk O.own S.pr.ga.box (by decide)
      · exact own_ne_map O.own S.pr.ga.num
      · exact own_ne_blk O.own S.pr.gb.box (by decide)
      · exact own_ne_map O.own S.pr.gb.num
    · exact fun e => O.far k e h
    · exact own_ne_blk O.own b (by decide)
  · rcases hc with h | h | ⟨cs, b⟩
    · rintro rfl
      exact S.pr.xNe O.bo (by decide) (by decide) h
    · rintro rfl
      exact S.pr.rNe O.bo (by decide) (by decide) (by decide) h
    · exact b.ne_ O.bo (by decide)
theorem OthSt.marks {bO : Nat} {vo vo' : Value} {xs : List Nat} (O : OthSt W0 r bO vo xs w) (hg : Grows w w' vo vo') (u : Value) {B : Nat} {ds : List Deferred} (M : Marks B ds w) : Marks B ds (w'.setCell ⟨bO, 0, none⟩ u) :=
  M.same fun D _ h => O.obj hg u h rfl
theorem OthSt.keeps {bO : Nat} {vo vo' : Value} {xs : List Nat} (O : OthSt W0 r bO vo xs w) (hg : Grows w w' vo vo') (u : Value) (B : Nat) : KeepsFrom B w (w'.setCell ⟨bO, 0, none⟩ u) :=
  ⟨by simp [World.setCell]; exact hg.size, fun k o _ ho hc => O.obj hg u ho hc⟩
theorem OthSt.kpG {bO : Nat} {vo vo' : Value} {xs : List Nat} (O : OthSt W0 r bO vo xs w) (hW : W0.heap.size ≤ w.heap.size) (hg : Grows w w' vo vo') (u : Value) {Bh Bo : Nat} {ch co : Array Value} (bh : Blk w Bh 27 ch) (bo : Blk w Bo 50 co) (hn : vo.ownBlock ≠ some Bo) :
    KpG W0.heap.size Bh Bo w (w'.setCell ⟨bO, 0, none⟩ u) :=
  ⟨hg.g.os, hg.g.tape, hg.g.output, by simp [World.setCell]; exact hg.size, fun k hk => O.other hg (Nat.lt_of_lt_of_le hk hW) (fun e => by have := (O.own.lt k e).1; omega) (by have := O.hb; omega) u,
    O.blk hg u bh (by decide) (by decide), O.other hg bo.lt hn (bo.ne_ O.bo (by decide)) u, fun g cs b => b.same (O.blk hg u b (by decide) (by decide))⟩
end
/-- What the pair tells. -/
def ToldAt (w : World) (gP : Nat) (d : Df) : Prop :=
  w.cell? ⟨gP, 3, none⟩ = some (.int .i64 d.kind) ∧ (∃ A c, w.cell? ⟨gP, 4, none⟩ = some (.slice A d.path.length c) ∧ Reads w w.heap.size 1 A d.path.length (intZ d.path) ∧ (∀ ad, A = some ad → gP < ad.block) ∧ d.path.length ≤ c) ∧ w.cell? ⟨gP, 5, none⟩ = some (.int .i64 d.at_)
end Go.Proofs.YtpajpdjjpgbklaaDoor

namespace Go.Proofs.YtpajpdjjpgbklaaDoor
open Go.RowKit
attribute [local go_sem] Oper.semAt_some

theorem fin_snoc {n k : Nat} (h : k < n) : (List.finRange n).take k ++ [⟨k, h⟩] = (List.finRange n).take (k + 1) := by
  rw [List.take_add_one, List.getElem?_eq_getElem (by simpa using h)]
  simp
set_option maxRecDepth 100000 in
set_option maxHeartbeats 4000000 in
/-- Each is told that its place is one: names hands out the class, and of pointers the fields, whatever the body does that keeps what is needed. -/
theorem names_fin {w : World} {p : HP} {h : HM} {Bh Bo o : Nat} (S : NmSt w p h Bh Bo o) (f : h.Fit) (hh : h.Heads) (ho : o < 4294967296) (hi : h.isB o = true) (n : Nat) (Kp : World → World → Prop) (K : NeedK Kp p h Bh Bo) :
    SeqStopsK Fence.wide n Tryd.prog 78 #[.pointer (some ⟨Bh, 0, none⟩), .pointer (some ⟨Bo, 0, none⟩)] (fun i : Fin (h.nmN o) => nmV h o i.1) Kp (fun xs => xs = List.finRange (h.nmN o)) (fun pre => pre <+: List.finRange (h.nmN o)) (h.nmN o) w :=
  fun lp J Jx W hW hJ hJx hY h0 => by
  have SW := S.below hW
  have hd := HM.isB_hd hh hi
  have hfit := HM.hd_fit f (o / 2)
  have HHD := Lib.hid (Header_any SW.at_ f hh SW.sp o ho)
  rw [show h.headerV o = .tuple #[.agg #[.int .i64 (h.hd (o / 2)).size, .int .i64 (h.hd (o / 2)).fmt, .int .i64 (h.hd (o / 2)).spare, .int .u32 (h.hd (o / 2)).cls, .int .u32 (h.hd (o / 2)).ser], .int .i64 0] by unfold HM.headerV; rw [hi]; rfl] at HHD
  have HGT := Lib.hid (fun w' (S' : NmSt w' p h Bh Bo o) (k : Nat) (hk : k < (h.hd (o / 2)).size) (hp : (h.hd (o / 2)).ptrB = true) => show Calls Tryd.prog 48 #[ptr p.g, .int .u32 o, .int .i64 k] w' (Told (.tuple #[.int .u32 (h.nmAt o (k + 1) : Nat), .int .i64 0]) w') from by
    have hG := get_any S'.at_ f hh S'.sp o ho (k : Int)
    have hfm : (h.hd (o / 2)).fmt = 1 ∨ (h.hd (o / 2)).fmt = 4 := by unfold Hd.ptrB at hp; simpa using hp
    have hln : (h.hd (o / 2)).len = (h.hd (o / 2)).size := by unfold Hd.len; rw [if_neg (by omega)]
    have he : h.lookE o (k : Int) [1, 4] = 0 := by
      unfold HM.lookE
      rw [hi, if_neg (by decide), if_neg (by rcases hfm with e | e <;> rw [e] <;> decide), if_neg (by omega)]
    unfold HM.readV at hG
    rw [he] at hG
    exact hG)
  have HS := Lib.hid SW
  have HJ := Lib.hid (show ∀ s A B, J s A → Below A.heap.size A B → J s B from fun s A B hs hb => hJ s A B none hs ⟨hb.os, hb.tape, hb.output, hb.size, fun k hk _ => hb.block k hk⟩ (fun r e => by cases e))
  have HY := Lib.hid hY
  have HJ0 := Lib.hid h0
  have HK := Lib.hid K
  have HN := Lib.hid (show h.nmN o = if (h.hd (o / 2)).ptrB then 1 + (h.hd (o / 2)).size else 1 from rfl)
  have HP := Lib.hid (fun w' => cpointers_any (h.hd (o / 2)).fmt w')
  rw [show (decide ((h.hd (o / 2)).fmt = 1) || decide ((h.hd (o / 2)).fmt = 4)) = (h.hd (o / 2)).ptrB from rfl] at HP
  have HC0 := Lib.hid (show nmV h o 0 = #[.int .i64 (-1), .int .u32 ((h.hd (o / 2)).cls : Nat)] from rfl)
  have HCK := Lib.hid (fun k => show nmV h o (k + 1) = #[.int .i64 (k : Int), .int .u32 (h.nmAt o (k + 1) : Nat)] by unfold nmV; rw [show (((k + 1 : Nat) : Int)) - 1 = (k : Int) by omega])
  have c1 := SW.boxH
  have c2 := SW.boxO
  refine callsIn_of_wp Tryd.func78 rfl trivial ?_ rfl
  simp only [Tryd.ntmps78, List.size_toArray, List.length_cons, List.length_nil, Nat.reduceAdd, Nat.reduceSub, Array.replicate_succ, Array.replicate_zero, List.push_toArray, List.append_toArray, List.nil_append, List.cons_append]
  unfold ptr at HHD HGT
  clear hY hJ hJx h0 K S SW hd
  generalize h.hd (o / 2) = X at *
  gi_wp2_with fail
  refine ⟨trivial, fun hh => (by cases hh), (callsIn_wide.2 HHD.out).mono ?_⟩
  rintro e W1 ⟨rfl, hb1⟩
  have hb2 := hb1.alloc hb1.size (.cells #[.int .i64 X.size, .int .i64 X.fmt, .int .i64 X.spare, .int .u32 X.cls, .int .u32 X.ser] 55)
  have HS2 := Lib.hid (HS.out.below hb2)
  have HJ2 := Lib.hid (HJ.out _ _ _ HJ0.out hb2)
  have BX := Lib.hid (Blk.new W1 55 #[.int .i64 X.size, .int .i64 X.fmt, .int .i64 X.spare, .int .u32 X.cls, .int .u32 X.ser])
  have HY0 := Lib.hid (HY.out [] ⟨0, by rw [HN.out]; split <;> omega⟩ _ HJ2.out (by rw [HN.out]; split <;> simp <;> omega))
  rw [HC0.out] at HY0
  clear c1 c2 hb1 hb2 HHD
  obtain ⟨fn, tmps, assign, body, hy, hR⟩ := HY0.out
  gi_wp2_with fail
  refine ⟨fun hh => (by cases hh), hR.mono ?_⟩
  clear hy hR HY0
  have h0N : 0 < h.nmN o := by rw [HN.out]; split <;> omega
  rintro e W5 (⟨rfl, hJ5, hk5⟩ | ⟨rfl, hx5⟩)
  · have HS5 := Lib.hid (HS2.out.kept HK.out hk5)
    have BX5 := HK.out.hdr hk5 _ _ BX.out
    obtain ⟨d0, d1, d2, d3, d4⟩ := BX5.cells5
    have HJ5 := Lib.hid (show J ((List.finRange (h.nmN o)).take 1) W5 by rw [← fin_snoc h0N]; exact hJ5)
    clear hJ5 hk5 BX5 HS2 HJ2 BX HJ0 HS HC0
    gi_wp2_with fail
    refine ⟨trivial, fun hh => (by cases hh), (callsIn_wide.2 (HP.out _)).mono ?_⟩
    rintro e wz ⟨rfl, rfl⟩
    cases hp : X.ptrB
    · have HFin := Lib.hid (show ∃ xs, xs = List.finRange (h.nmN o) ∧ J xs W5 from ⟨_, rfl, by
        have h1 := HJ5.out
        have h2 : h.nmN o = 1 := by rw [HN.out, hp]; rfl
        rw [List.take_of_length_le (by rw [List.length_finRange, h2]; exact Nat.le_refl _)] at h1
        exact h1⟩)
      clear d0 d1 d2 d3 d4
      gi_wp2_with fail
      refine bodyPost_ret (results_none rfl _ _ _) rfl ?_
      exact ⟨⟨_, rfl⟩, .inl HFin.out⟩
    · have hNN := HN.out
      rw [hp] at hNN
      simp only [if_true] at hNN
      have HNN := Lib.hid hNN
      have HPT := Lib.hid hp
      clear hNN hp HN
      have hsz := hfit.size
      gi_wp2_with fail
      clear d0 d1 d2 d3 d4
      gi_loopw [28] (fun i wr => ∃ k : Nat, k ≤ X.size ∧ i = .int .i64 k ∧ NmSt wr p h Bh Bo o ∧ J ((List.finRange (h.nmN o)).take (k + 1)) wr) (fun i wr => X.size - (intOf i).toNat)
      case atStart => exact ⟨0, by omega, rfl, HS5.out, HJ5.out⟩
      case round =>
        clear HS5 HJ5
        obtain ⟨k, hk, rfl, Sk, hjk⟩ := hrel
        by_cases hlt : k < X.size
        · have HG := Lib.hid (HGT.out _ Sk k hlt HPT.out)
          have HSK := Lib.hid Sk
          have HJK := Lib.hid hjk
          have c1 := Sk.boxH
          have c2 := Sk.boxO
          clear Sk hjk
          gi_wp2_with fail
          refine ⟨trivial, fun hh => (by cases hh), (callsIn_wide.2 HG.out).mono ?_⟩
          rintro e W6 ⟨rfl, hb6⟩
          have HS6 := Lib.hid (HSK.out.below hb6)
          have HY6 := Lib.hid (HY.out ((List.finRange (h.nmN o)).take (k + 1)) ⟨k + 1, by rw [HNN.out]; omega⟩ W6 (HJ.out _ _ _ HJK.out hb6) (by rw [HNN.out, List.length_take, List.length_finRange]; omega))
          rw [HCK.out] at HY6
          clear c1 c2 hb6 HG HJK HSK
          obtain ⟨fn, tmps, assign, body, hy, hR⟩ := HY6.out
          gi_wp2_with fail
          refine ⟨fun hh => (by cases hh), hR.mono ?_⟩
          clear hy hR HY6
          rintro e W7 (⟨rfl, hJ7, hk7⟩ | ⟨rfl, hx7⟩)
          · have HS7 := Lib.hid (HS6.out.kept HK.out hk7)
            have HJ7 := Lib.hid (show J ((List.finRange (h.nmN o)).take (k + 1 + 1)) W7 by rw [← fin_snoc (by rw [HNN.out]; omega)]; exact hJ7)
            clear hJ7 hk7 HS6
            gi_wp2_with fail
            go_roundw
            case rel => exact ⟨k + 1, by omega, by go_num, HS7.out, HJ7.out⟩
            case measure => simp [intOf]; omega
          · clear HS6
            gi_wp2_with fail
            refine bodyPost_ret (results_none rfl _ _ _) rfl ?_
            exact ⟨⟨_, rfl⟩, .inr ⟨_, ⟨(List.finRange (h.nmN o)).drop (k + 1 + 1), by rw [fin_snoc (by rw [HNN.out]; omega), List.take_append_drop]⟩, hx7⟩⟩
        · obtain rfl : k = X.size := by omega
          have HFin := Lib.hid (show J (List.finRange (h.nmN o)) wr by
            have := hjk
            rw [List.take_of_length_le (by rw [HNN.out, List.length_finRange]; omega)] at this
            exact this)
          clear Sk hjk hlt hk
          gi_wp2_with fail
          go_end0
          exact ⟨⟨_, rfl⟩, .inl ⟨_, rfl, HFin.out⟩⟩
  · clear HS2 HJ2 BX HJ0 HS HC0
    gi_wp2_with fail
    refine ⟨trivial, ?_⟩
    gi_wp2_with fail
    refine bodyPost_ret (results_none rfl _ _ _) rfl ?_
    exact ⟨⟨_, rfl⟩, .inr ⟨_, ⟨(List.finRange (h.nmN o)).drop 1, by rw [show [] ++ [⟨0, h0N⟩] = (List.finRange (h.nmN o)).take 1 from fin_snoc h0N, List.take_append_drop]⟩, hx5⟩⟩
end Go.Proofs.YtpajpdjjpgbklaaDoor

namespace Go.Proofs.YtpajpdjjpgbklaaDoor
open Go.RowKit
attribute [local go_sem] Oper.semAt_some

def namesL (h : HM) (o k : Nat) : List Nat := (List.range k).map (h.nmAt o)
theorem namesL_succ (h : HM) (o k : Nat) : namesL h o (k + 1) = namesL h o k ++ [h.nmAt o k] := by unfold namesL; rw [List.range_succ, List.map_append]; rfl
theorem namesL_len (h : HM) (o k : Nat) : (namesL h o k).length = k := by simp [namesL]
theorem namesL_get {h : HM} {o k i : Nat} (hi : i < k) : (namesL h o k).getD i 0 = h.nmAt o i := by
  rw [List.getD_eq_getElem?_getD, List.getElem?_eq_getElem (by rw [namesL_len]; exact hi)]
  simp [namesL]
theorem u32s_snoc (l : List Nat) (x : Nat) : u32s (l ++ [x]) = u32s l ++ u32s [x] := by simp [u32s]
theorem u32s_snoc' (l : List Nat) (x : Nat) : u32s (l ++ [x]) = u32s l ++ [.int .u32 (x : Int)] := by simp [u32s]
def NamesP (h : HM) (o : Nat) (w : World) (e : Ending) (w' : World) : Prop :=
  ∃ v, e = .returned v ∧ w'.ownsRow w.heap.size 50 1 v (h.nmN o) (u32s (namesL h o (h.nmN o))) ∧ Below w.heap.size w w'
set_option maxRecDepth 100000 in
set_option maxHeartbeats 4000000 in
theorem rnames_any {w : World} {p : HP} {h : HM} (H : RAt w p h) (f : h.Fit) (hh : h.Heads) (o : Nat) (ho : o < 4294967296) (hi : h.isB o = true) :
    Calls Tryd.prog 42 #[ptr p.g, .int .u32 o] w (NamesP h o w) := by
  have hd := HM.isB_hd hh hi
  have hfit := HM.hd_fit f (o / 2)
  have HHD := Lib.hid (rheader_any H f o ho hd)
  have HGT := Lib.hid (fun w' (H' : RAt w' p h) (k : Nat) (hk : k < (h.hd (o / 2)).size) (hp : (h.hd (o / 2)).ptrB = true) => show Calls Tryd.prog 55 #[ptr p.g, .int .u32 o, .int .i64 k] w' (Told (.tuple #[.int .u32 (h.nmAt o (k + 1) : Nat), .int .i64 0]) w') from by
    have hG := rget_any H' f hh o ho (k : Int) (by have := hfit.size; omega)
    have hfm : (h.hd (o / 2)).fmt = 1 ∨ (h.hd (o / 2)).fmt = 4 := by unfold Hd.ptrB at hp; simpa using hp
    have hln : (h.hd (o / 2)).len = (h.hd (o / 2)).size := by unfold Hd.len; rw [if_neg (by omega)]
    have he : h.lookE o (k : Int) [1, 4] = 0 := by
      unfold HM.lookE
      rw [hi, if_neg (by decide), if_neg (by rcases hfm with e | e <;> rw [e] <;> decide), if_neg (by omega)]
    rw [show h.readN o (k : Int) [1, 4] = fw h o k by unfold HM.readN; rw [if_pos he]; simp, he] at hG
    exact hG)
  have HN := Lib.hid (show h.nmN o = if (h.hd (o / 2)).ptrB then 1 + (h.hd (o / 2)).size else 1 from rfl)
  have HPT := Lib.hid (show (h.hd (o / 2)).ptrB = (decide ((h.hd (o / 2)).fmt = 1) || decide ((h.hd (o / 2)).fmt = 4)) from rfl)
  have HC0 := Lib.hid (show namesL h o 1 = [(h.hd (o / 2)).cls] from rfl)
  have HR := Lib.hid H
  have hsz := hfit.size
  have hfld := fld3
  unfold Hd.val at HHD
  unfold ptr at HHD HGT ⊢
  unfold NamesP
  clear hd hfit hi H
  generalize h.hd (o / 2) = X at *
  go_enter Tryd.func42, Tryd.ntmps42
  go_wp2_with fail
  refine HHD.out.mono ?_
  rintro e w1 ⟨rfl, hb1⟩
  have BX := Lib.hid (Blk.new w1 55 #[.int .i64 X.size, .int .i64 X.fmt, .int .i64 X.spare, .int .u32 X.cls, .int .u32 X.ser])
  have hb2 := hb1.alloc hb1.size (.cells #[.int .i64 X.size, .int .i64 X.fmt, .int .i64 X.spare, .int .u32 X.cls, .int .u32 X.ser] 55)
  have hb3 := hb2.alloc hb2.size (.cells #[.int .u32 (X.cls : Int)] 50)
  have HO3 := Lib.hid (show ((w1.alloc (.cells #[.int .i64 X.size, .int .i64 X.fmt, .int .i64 X.spare, .int .u32 X.cls, .int .u32 X.ser] 55)).alloc (.cells #[.int .u32 (X.cls : Int)] 50)).ownsRow w.heap.size 50 1 (.slice (some ⟨w1.heap.size + 1, 0, none⟩) 1 1) 1 (u32s (namesL h o 1)) from by
    refine ⟨by rw [HC0.out]; rfl, .inr ⟨w1.heap.size + 1, 1, #[.int .u32 (X.cls : Int)], rfl, by have := hb1.size; omega, ?_, Nat.le_refl _, by simp [maxLen], rfl, by rw [HC0.out]; rfl⟩⟩
    have h := heap_alloc_new (w1.alloc (.cells #[.int .i64 X.size, .int .i64 X.fmt, .int .i64 X.spare, .int .u32 X.cls, .int .u32 X.ser] 55)) (.cells #[.int .u32 (X.cls : Int)] 50)
    rw [World.size_alloc] at h
    exact h)
  have HBX := Lib.hid (BX.out.alloc (.cells #[.int .u32 (X.cls : Int)] 50))
  have HB3 := Lib.hid hb3
  have HS1 := Lib.hid hb1.size
  clear hb2 hb3 hb1 HHD
  by_cases hp : X.ptrB = true
  · have HNN := Lib.hid (show h.nmN o = 1 + X.size by rw [HN.out, if_pos hp])
    have HGT := Lib.hid (fun w' H' k hk => HGT.out w' H' k hk hp)
    have hfm : X.fmt = 1 ∨ X.fmt = 4 := by rw [HPT.out] at hp; simpa using hp
    clear hp
    go_upto_region 3 with fail
    go_cut [23] (fun v wx => v = .bool true ∧ wx = (w1.alloc (.cells #[.int .i64 X.size, .int .i64 X.fmt, .int .i64 X.spare, .int .u32 X.cls, .int .u32 X.ser] 55)).alloc (.cells #[.int .u32 (X.cls : Int)] 50))
    case first =>
      have x1 := HBX.out.cell 1
      rcases hfm with hf | hf
      · rw [hf] at x1
        go_wp2_with fail
        go_meet
        exact ⟨rfl, by rw [hf]; rfl⟩
      · rw [hf] at x1
        go_wp2_with fail
        go_meet
        exact ⟨rfl, by rw [hf]; rfl⟩
    case rest =>
    obtain ⟨rfl, rfl⟩ := hcut
    clear hfm
    generalize hW3 : (w1.alloc (.cells #[.int .i64 X.size, .int .i64 X.fmt, .int .i64 X.spare, .int .u32 X.cls, .int .u32 X.ser] 55)).alloc (.cells #[.int .u32 (X.cls : Int)] 50) = w3 at *
    clear hW3
    go_wp2_with fail
    go_loopw [6, 7] (fun v i wr => ∃ k : Nat, k ≤ X.size ∧ i = .int .i64 k ∧ wr.ownsRow w.heap.size 50 1 v (k + 1) (u32s (namesL h o (k + 1))) ∧ Below w.heap.size w wr ∧ Blk wr w1.heap.size 55 #[.int .i64 X.size, .int .i64 X.fmt, .int .i64 X.spare, .int .u32 X.cls, .int .u32 X.ser] ∧ v.ownBlock ≠ some w1.heap.size) (fun _ i _ => X.size - (intOf i).toNat)
    case atStart => exact ⟨0, by omega, rfl, HO3.out, HB3.out, HBX.out, by simp [Value.ownBlock]⟩
    case round =>
      clear HO3 HB3 HBX
      obtain ⟨k, hk, rfl, hown, hb, hbx, hne⟩ := hrel
      have HOW := Lib.hid hown
      have HB := Lib.hid hb
      have HBX := Lib.hid hbx
      have HNE := Lib.hid hne
      have x0 := hbx.cell 0
      clear hown hb hbx hne
      by_cases hlt : k < X.size
      · have hlt2 : (k : Int) < (X.size : Int) := by omega
        have HG := Lib.hid (HGT.out _ (HR.out.below HB.out) k hlt)
        obtain ⟨i0, hi0, hz0, hz1, hz2⟩ := info_parts info_oop
        clear hlt
        generalize hy : h.nmAt o (k + 1) = y at *
        have HY := Lib.hid hy
        clear hy
        go_wp2_with fail
        refine HG.out.mono ?_
        rintro e w4 ⟨rfl, hb4⟩
        have HB4 := Lib.hid (below_top HB.out hb4)
        have HO4 := Lib.hid (own_same HOW.out (fun k hk => hb4.block k (HOW.out.lt k hk).2))
        have HX4 := Lib.hid (HBX.out.below hb4 HBX.out.lt)
        have hs4 := HB4.out.size
        clear hb4 x0
        go_wp2_with (at_builtin; refine wpList_append_any _ rfl (.tmp 37) (.tmp 39) _ rfl w.heap.size 50 i0 _ 1 4 Tryd.underlying23 hi0 hz0 hz1 hz2 rfl (by omega) u6 (k + 1) _ rfl (HO4.out.alloc _) (w4.heap.size + 1) (some ⟨w4.heap.size, 0, none⟩) 1 1 (u32s [y]) rfl ⟨rfl, fun _ => ⟨_, rfl, by simp, cell_one_new _ _ _⟩⟩ (one_u32s _) (by simp only [maxLen]; omega) (by omega) (by simp; omega) ?_; intro v1 w5 hown5 hgrow hat5)
        go_roundw
        case rel =>
          have hgl : w1.heap.size < (w4.alloc (.cells #[.int .u32 (y : Int)] 50)).heap.size := by have := HX4.out.lt; simp; omega
          refine ⟨k + 1, by omega, by go_num, ?_, ?_, HX4.out.same ((hgrow.block _ hgl (fun e => HNE.out e.symm)).trans (Below.heap_alloc w4 _ _ HX4.out.lt)), ?_⟩
          · rw [namesL_succ, HY.out, u32s_snoc]; exact hown5
          · exact below_grown (Nat.le_refl _) (HB4.out.alloc hs4 _) hgrow (fun q hq => (HOW.out.lt q hq).1)
          · rcases hat5 with e | e
            · rw [e]; exact HNE.out
            · rw [e]
              intro e2
              injection e2 with e2
              omega
        case measure => simp [intOf]; omega
      · obtain rfl : k = X.size := by omega
        go_wp2_with fail
        go_ret
        exact ⟨_, rfl, by rw [HNN.out, Nat.add_comm]; exact HOW.out, HB.out⟩
  · have HNN := Lib.hid (show h.nmN o = 1 by rw [HN.out, if_neg hp])
    have hf1 : ((X.fmt : Int) == 1) = false := by rw [HPT.out] at hp; simp at hp ⊢; omega
    have hf4 : ((X.fmt : Int) == 4) = false := by rw [HPT.out] at hp; simp at hp ⊢; omega
    have x1 := HBX.out.cell 1
    clear hp
    go_wp2_with fail
    go_ret
    exact ⟨_, rfl, by rw [HNN.out]; exact HO3.out, HB3.out⟩
end Go.Proofs.YtpajpdjjpgbklaaDoor
