/- Canonical bytes, plain; the state of the walk that writes them. -/
/- What is unlike of two objects; the canonical bytes are the same just if the graphs are alike; a difference's way can be followed. Plain data. -/
import Derived.Test.YtpajpdjjpgbklaaDoorJSeen
import Derived.Test.YtpajpdjjpgbklaaDoorJUnpB
import Derived.Test.YtpajpdjjpgbklaaDoorJLoad2
import Derived.Test.YtpajpdjjpgbklaaDoorJFollow
import Derived.Test.YtpajpdjjpgbklaaDoorJAlike
set_option linter.unusedVariables false
set_option linter.unusedSectionVars false
namespace Go.Proofs.YtpajpdjjpgbklaaDoor
open Go.RowKit Go.Maps
attribute [local go_sem] Oper.semAt_some

def refsB (l : List Nd) (f : Nat → Nat) (xs : List Nat) : List Nat := xs.flatMap fun k => cnt7 (refM l (f k))
def HM.cwB (h : HM) (o n : Nat) : List Nat := (List.range n).flatMap fun i => cnt7 (fw h o i)
def HM.bytesL (h : HM) (o : Nat) : List Nat := (bytesM (h.fields o)).take (h.hd (o / 2)).len
def HM.contB (h : HM) (o : Nat) : List Nat :=
  if (h.hd (o / 2)).fmt = 3 then h.cwB o (h.hd (o / 2)).size else if (h.hd (o / 2)).fmt = 2 then h.bytesL o else []
def HM.serB (h : HM) (ser : Bool) (o : Nat) : List Nat := if ser then cnt7 (h.hd (o / 2)).ser else []
/-- What stands ahead of the names. -/
def HM.headB (h : HM) (ser : Bool) (o : Nat) : List Nat := [(h.hd (o / 2)).fmt, (h.hd (o / 2)).spare] ++ cnt7 (h.hd (o / 2)).size ++ h.serB ser o
def HM.objC (h : HM) (ser : Bool) (l : List Nd) (o : Nat) : List Nat :=
  h.headB ser o ++ refsB l (h.nmAt o) (List.range (h.nmN o)) ++ h.contB o
def canonM (h : HM) (ser : Bool) (fr : List Nat) (l : List Nd) : List Nat := refsB l id fr ++ (oopsOf l).flatMap (h.objC ser l)

theorem flatMap_le {f : Nat → List Nat} {c : Nat} : ∀ {xs : List Nat}, (∀ x ∈ xs, (f x).length ≤ c) → (xs.flatMap f).length ≤ c * xs.length
  | [], _ => by simp
  | x :: xs, h => by
    have h1 := h x (List.mem_cons_self ..)
    have h2 := flatMap_le (fun y hy => h y (List.mem_cons_of_mem _ hy))
    rw [List.flatMap_cons, List.length_append, List.length_cons, Nat.mul_succ]
    omega
theorem flatMap_snoc' (f : Nat → List Nat) (xs : List Nat) (x : Nat) : (xs ++ [x]).flatMap f = xs.flatMap f ++ f x := by simp
theorem cnt7_len5 {x : Nat} (h : x < 34359738368) : (cnt7 x).length ≤ 5 := cnt7_len 4 x (by rw [show (128 : Nat) ^ (4 + 1) = 34359738368 by decide]; exact h)
theorem refsB_len {l : List Nd} (hl : l.length ≤ 4000000) {f : Nat → Nat} {xs : List Nat} (h : ∀ x ∈ xs, f x < 4294967296) : (refsB l f xs).length ≤ 5 * xs.length :=
  flatMap_le fun x hx => cnt7_len5 (by have := refM_lt l (f x) (h x hx) hl; omega)
theorem refsB_snoc (l : List Nd) (f : Nat → Nat) (xs : List Nat) (x : Nat) : refsB l f (xs ++ [x]) = refsB l f xs ++ cnt7 (refM l (f x)) := flatMap_snoc' _ _ _
theorem cwB_snoc (h : HM) (o n : Nat) : h.cwB o (n + 1) = h.cwB o n ++ cnt7 (fw h o n) := by unfold HM.cwB; rw [List.range_succ, flatMap_snoc']
theorem cwB_len {h : HM} (f : h.Fit) (o n : Nat) : (h.cwB o n).length ≤ 5 * n := by
  have := flatMap_le (f := fun i => cnt7 (fw h o i)) (c := 5) (xs := List.range n) (fun x _ => cnt7_len5 (by have := HM.fw_lt f o x; omega))
  rw [List.length_range] at this
  exact this
theorem hd_size_le {h : HM} (f : h.Fit) {o : Nat} (hi : h.hdAt (o / 2)) : (h.hd (o / 2)).size ≤ 1048576 := by
  have h1 := hi.1
  have h3 := f.room
  have h4 := f.hi
  omega
theorem serB_len {h : HM} (f : h.Fit) (ser : Bool) (o : Nat) : (h.serB ser o).length ≤ 5 := by
  unfold HM.serB
  split
  · exact cnt7_len5 (by have := (HM.hd_fit f (o / 2)).ser; omega)
  · simp
theorem headB_len {h : HM} (f : h.Fit) (ser : Bool) (o : Nat) : (h.headB ser o).length ≤ 12 := by
  unfold HM.headB
  have h1 := serB_len f ser o
  have h2 := cnt7_len5 (x := (h.hd (o / 2)).size) (by have := (HM.hd_fit f (o / 2)).size; omega)
  simp only [List.length_append, List.length_cons, List.length_nil]
  omega
theorem bytesL_len {h : HM} (f : h.Fit) {o : Nat} (hi : h.hdAt (o / 2)) : (h.bytesL o).length ≤ 4 * 1048576 := by
  unfold HM.bytesL
  have h1 := hd_size_le f hi
  have : (h.hd (o / 2)).len ≤ 4 * 1048576 := by unfold Hd.len; split <;> omega
  rw [List.length_take]
  omega
theorem contB_len {h : HM} (f : h.Fit) {o : Nat} (hi : h.hdAt (o / 2)) : (h.contB o).length ≤ 5 * 1048576 := by
  unfold HM.contB
  have h1 := hd_size_le f hi
  split
  · have := cwB_len f o (h.hd (o / 2)).size; omega
  · split
    · have := bytesL_len f hi; omega
    · simp
theorem objC_len {h : HM} (f : h.Fit) {o : Nat} (hi : h.hdAt (o / 2)) (ser : Bool) {l : List Nd} (hl : l.length ≤ 4000000) : (h.objC ser l o).length ≤ 11000000 := by
  unfold HM.objC
  have h1 := headB_len f ser o
  have h2 := refsB_len hl (f := h.nmAt o) (xs := List.range (h.nmN o)) (fun x _ => HM.nmAt_lt f o x)
  have h3 := contB_len f hi
  have h4 := nmN_le f o hi
  rw [List.length_range] at h2
  rw [List.length_append, List.length_append]
  omega
theorem objs_len {h : HM} (f : h.Fit) (hh : h.Heads) (ser : Bool) {l : List Nd} (hl : l.length ≤ 65536) (hi : ∀ x ∈ oopsOf l, h.isB x = true) (i : Nat) : (((oopsOf l).take i).flatMap (h.objC ser l)).length ≤ 720896000000 := by
  have h1 := flatMap_le (f := h.objC ser l) (c := 11000000) (xs := (oopsOf l).take i) (fun x hx => objC_len f (HM.isB_hd hh (hi x (List.mem_of_mem_take hx))) ser (by omega))
  have h2 : ((oopsOf l).take i).length ≤ 65536 := by rw [List.length_take, oopsOf_len]; omega
  omega
theorem flatMap_take1 (f : Nat → List Nat) {xs : List Nat} {i : Nat} (hi : i < xs.length) : (xs.take (i + 1)).flatMap f = (xs.take i).flatMap f ++ f (xs.getD i 0) := by
  rw [List.take_add_one, List.getElem?_eq_getElem hi, List.getD_eq_getElem?_getD, List.getElem?_eq_getElem hi]
  exact flatMap_snoc' f _ _
theorem refsB_take1 (l : List Nd) (f : Nat → Nat) {xs : List Nat} {i : Nat} (hi : i < xs.length) : refsB l f (xs.take (i + 1)) = refsB l f (xs.take i) ++ cnt7 (refM l (f (xs.getD i 0))) := flatMap_take1 _ hi

section
variable {W0 w w' : World} {gG mB bG bB n : Nat} {hv vm vd v v' : Value} {l : List Nd} {bs : List Nat}
/-- A graph is kept where its blocks are. -/
theorem GSt.keep (S : GSt W0 gG mB bG hv vm vd l w) (h1 : w'.os = w.os) (h2 : w'.tape = w.tape) (h3 : w'.output = w.output) (h4 : w.heap.size ≤ w'.heap.size)
    (hk : ∀ k, k < w.heap.size → (k < W0.heap.size ∨ k = gG ∨ k = mB ∨ k = bG ∨ vm.ownBlock = some k ∨ vd.ownBlock = some k) → w'.heap[k]? = w.heap[k]?) : GSt W0 gG mB bG hv vm vd l w' :=
  ⟨⟨h1.trans S.base.os, h2.trans S.base.tape, h3.trans S.base.output, Nat.le_trans S.base.size h4, fun k h => (hk k (Nat.lt_of_lt_of_le h S.base.size) (.inl h)).trans (S.base.block k h)⟩,
    ⟨S.graph.box.same (hk _ S.graph.box.lt (.inr (.inl rfl))), own_same S.graph.met (fun k h => hk k (S.graph.met.lt k h).2 (.inr (.inr (.inr (.inr (.inl h)))))),
      own_same S.graph.deep (fun k h => hk k (S.graph.deep.lt k h).2 (.inr (.inr (.inr (.inr (.inr h)))))), S.graph.num.same (hk mB S.graph.num.lt (.inr (.inr (.inl rfl)))), S.graph.hg, S.graph.hm, Nat.le_trans S.graph.hB h4⟩,
    S.box.same (hk _ S.box.lt (.inr (.inr (.inr (.inl rfl)))))⟩
/-- A graph beside a row of bytes of the call's own, with the box of its slice. -/
structure CanSt (W0 : World) (gG mB bG bB : Nat) (hv vm vd : Value) (l : List Nd) (bs : List Nat) (v : Value) (w : World) : Prop where
  gst : GSt W0 gG mB bG hv vm vd l w
  bb : Blk w bB 46 #[v]
  own : w.ownsRow W0.heap.size 5 1 v bs.length (u8c bs)
  hb : W0.heap.size ≤ bB
theorem CanSt.below (C : CanSt W0 gG mB bG bB hv vm vd l bs v w) (hb : Below w.heap.size w w') : CanSt W0 gG mB bG bB hv vm vd l bs v w' :=
  ⟨C.gst.below hb, C.bb.below hb C.bb.lt, own_same C.own (fun k hk => hb.block k (C.own.lt k hk).2), C.hb⟩
/-- What the bytes' growing leaves as it was. -/
theorem CanSt.other (C : CanSt W0 gG mB bG bB hv vm vd l bs v w) (hg : Grows w w' v v') {k : Nat} (hk : k < w.heap.size) (h1 : v.ownBlock ≠ some k) (h2 : k ≠ bB) (u : Value) :
    (w'.setCell ⟨bB, 0, none⟩ u).heap[k]? = w.heap[k]? :=
  (Below.heap_setCell w' ⟨bB, 0, none⟩ u k h2).trans (hg.g.block k hk (fun e => h1 e.symm))
theorem CanSt.blk (C : CanSt W0 gG mB bG bB hv vm vd l bs v w) (hg : Grows w w' v v') (u : Value) {g : Nat} {t : TypeId} {cs : Array Value} (b : Blk w g t cs) (h1 : 5 ≠ t) (h2 : t ≠ 46) :
    (w'.setCell ⟨bB, 0, none⟩ u).heap[g]? = w.heap[g]? :=
  C.other hg b.lt (own_ne_blk C.own b h1) (b.ne_ C.bb h2) u
theorem CanSt.obj (C : CanSt W0 gG mB bG bB hv vm vd l bs v w) (hg : Grows w w' v v') (u : Value) {k : Nat} {o : Obj} (ho : w.heap[k]? = some o) (hc : o.isCells = false) : (w'.setCell ⟨bB, 0, none⟩ u).heap[k]? = some o :=
  (C.other hg (lt_of_get ho) (fun e => by
    obtain ⟨o', ho', hc'⟩ := own_cells C.own e
    rw [ho] at ho'; injection ho' with ho'; subst ho'; rw [hc] at hc'; cases hc') (fun e => by
    subst e; have := C.bb; unfold Blk at this; rw [this] at ho; injection ho with ho; subst ho; cases hc) u).trans ho
theorem CanSt.grow (C : CanSt W0 gG mB bG bB hv vm vd l bs v w) {cs : List Nat} (hown : w'.ownsRow W0.heap.size 5 1 v' cs.length (u8c cs)) (hg : Grows w w' v v') :
    CanSt W0 gG mB bG bB hv vm vd l cs v' (w'.setCell ⟨bB, 0, none⟩ v') := by
  have hsz : (w'.setCell ⟨bB, 0, none⟩ v').heap.size = w'.heap.size := by simp [World.setCell]
  have hne : v.ownBlock ≠ some bB := own_ne_blk C.own C.bb (by decide)
  have hne' : v'.ownBlock ≠ some bB := fun e => by
    rcases hg.at_ _ e with e' | e'
    · exact hne e'
    · have := C.bb.lt; omega
  refine ⟨C.gst.keep hg.g.os hg.g.tape hg.g.output (by rw [hsz]; exact hg.size) ?_, (C.bb.same (hg.g.block bB C.bb.lt (fun e => hne e.symm))).set_ 0 _, own_same hown (fun k hk => Below.heap_setCell w' ⟨bB, 0, none⟩ _ k (fun e => by subst e; exact hne' hk)), C.hb⟩
  intro k hk hc
  refine C.other hg hk ?_ ?_ _
  · rcases hc with h | rfl | rfl | rfl | h | h
    · exact fun e => by have := (C.own.lt k e).1; omega
    · exact own_ne_blk C.own C.gst.graph.box (by decide)
    · exact own_ne_map C.own C.gst.graph.num
    · exact own_ne_blk C.own C.gst.box (by decide)
    · exact own_type C.gst.graph.met C.own (by decide) k h
    · exact own_type C.gst.graph.deep C.own (by decide) k h
  · rcases hc with h | rfl | rfl | rfl | h | h
    · have := C.hb; omega
    · exact C.gst.graph.box.ne_ C.bb (by decide)
    · rintro rfl
      obtain ⟨D, _, ⟨es, clock, hb, r⟩, _⟩ := C.gst.graph.num
      have := C.bb
      unfold Blk at this
      rw [this] at hb
      injection hb with hb
      cases hb
    · exact C.gst.box.ne_ C.bb (by decide)
    · rintro rfl; exact own_ne_blk C.gst.graph.met C.bb (by decide) h
    · rintro rfl; exact own_ne_blk C.gst.graph.deep C.bb (by decide) h
theorem CanSt.bb' (C : CanSt W0 gG mB bG bB hv vm vd l bs v w) (hg : Grows w w' v v') : Blk w' bB 46 #[v] :=
  C.bb.same (hg.g.block bB C.bb.lt (fun e => own_ne_blk C.own C.bb (by decide) e.symm))
theorem Grows.alloc_ (w : World) (v : Value) (o : Obj) (h : Grows (w.alloc o) w' v v') : Grows w w' v v' := ((Grows.refl w v).below ((Below.refl _ _).alloc (Nat.le_refl _) o)).trans h
theorem Grows.far (hg : Grows w w' v v') {k : Nat} (hk : k < w.heap.size) (hn : v.ownBlock ≠ some k) : w'.heap[k]? = w.heap[k]? := hg.g.block k hk (fun e => hn e.symm)
theorem Grows.alloc (h : Grows w w' v v') (o : Obj) : Grows w (w'.alloc o) v v' := h.below ((Below.refl _ _).alloc (Nat.le_refl _) o)
theorem Grows.append (h : Grows w w' v v') {w2 : World} {v2 : Value} (hg : w'.grownBy w2 v'.ownBlock) (ha : v2.ownBlock = v'.ownBlock ∨ v2.ownBlock = some w'.heap.size) : Grows w w2 v v2 := h.trans (.of hg ha)
theorem CanSt.marks (C : CanSt W0 gG mB bG bB hv vm vd l bs v w) (hg : Grows w w' v v') (u : Value) {B : Nat} {ds : List Deferred} (M : Marks B ds w) : Marks B ds (w'.setCell ⟨bB, 0, none⟩ u) :=
  M.same fun D _ h => C.obj hg u h rfl
theorem CanSt.kpG (C : CanSt W0 gG mB bG bB hv vm vd l bs v w) (hg : Grows w w' v v') (u : Value) {Bh Bo : Nat} {ch co : Array Value} (bh : Blk w Bh 27 ch) (bo : Blk w Bo 50 co) :
    KpG W0.heap.size Bh Bo w (w'.setCell ⟨bB, 0, none⟩ u) :=
  ⟨hg.g.os, hg.g.tape, hg.g.output, by simp [World.setCell]; exact hg.size, fun k hk => C.other hg (Nat.lt_of_lt_of_le hk C.gst.base.size) (fun e => by have := (C.own.lt k e).1; omega) (by have := C.hb; omega) u,
    C.blk hg u bh (by decide) (by decide), C.blk hg u bo (by decide) (by decide), fun g cs b => b.same (C.blk hg u b (by decide) (by decide))⟩
theorem CanSt.keeps (C : CanSt W0 gG mB bG bB hv vm vd l bs v w) (hg : Grows w w' v v') (u : Value) (B : Nat) : KeepsFrom B w (w'.setCell ⟨bB, 0, none⟩ u) :=
  ⟨by simp [World.setCell]; exact hg.size, fun k o _ ho hc => C.obj hg u ho hc⟩
/-- The loops over functions keep it. -/
theorem CanSt.own' {B : Nat} {row : Option Nat} (C : CanSt W0 gG mB bG bB hv vm vd l bs v w) (hm : mB < B) (hB : W0.heap.size ≤ B) (hg : w.grownBy w' row) (hr : ∀ r, row = some r → B ≤ r ∧ ∃ o : Obj, w.heap[r]? = some o ∧ o.isCells = false) : CanSt W0 gG mB bG bB hv vm vd l bs v w' :=
  ⟨C.gst.own' hm hB hg hr, blk_own' C.bb hg hr, own_same C.own (fun k hk => hg.block k (C.own.lt k hk).2 (fun e => by
    obtain ⟨_, o, ho, hc⟩ := hr k e.symm
    obtain ⟨o', ho', hc'⟩ := own_cells C.own hk
    rw [ho'] at ho; injection ho with ho; subst ho; rw [hc'] at hc; cases hc)), C.hb⟩
theorem CanSt.reads (C : CanSt W0 gG mB bG bB hv vm vd l bs v w) : ∃ A c, v = .slice A bs.length c ∧ Reads w w.heap.size 1 A bs.length (u8c bs) := own_slice C.own
end
theorem own_readsA {w : World} {base : Nat} {e : TypeId} {A : Option Addr} {n c : Nat} {xs : List Value} (h : w.ownsRow base e 1 (.slice A n c) n xs) : Reads w w.heap.size 1 A n xs := by
  obtain ⟨A', c', e, hr⟩ := own_slice h
  injection e with e1
  subst e1
  exact hr
theorem wrap8_mod (z : Int) : IntKind.u8.wrap z = z % 256 := by
  unfold IntKind.wrap
  simp [IntKind.signed, show IntKind.u8.bits = 8 from rfl]
/-- What an append onto a row, or another deed of that kind, keeps. -/
theorem far_append {w cur w' : World} {v : Value} (hb : Below w.heap.size w cur) (hg : cur.grownBy w' v.ownBlock) : ∀ k, k < w.heap.size → v.ownBlock ≠ some k → w'.heap[k]? = w.heap[k]? :=
  fun k hk hn => (hg.block k (Nat.lt_of_lt_of_le hk hb.size) (fun e => hn e.symm)).trans (hb.block k hk)
theorem row_two' {cur : World} {B a : Nat} {t : TypeId} {x y : Value} (h : cur.heap[a]? = some (.cells #[x, y] t (0, 0))) (hB : a < B) : Reads cur B 1 (some ⟨a, 0, none⟩) 2 [x, y] := by
  refine ⟨rfl, fun _ => ⟨_, rfl, hB, fun j u hu => ?_⟩⟩
  rw [WideShapes.add_plain, Nat.zero_add, cell_of_row cur a j #[x, y] t (0, 0) h]
  simpa using hu
theorem row_one' {cur : World} {B a : Nat} {t : TypeId} {x : Value} (h : cur.heap[a]? = some (.cells #[x] t (0, 0))) (hB : a < B) : Reads cur B 1 (some ⟨a, 0, none⟩) 1 [x] := by
  refine ⟨rfl, fun _ => ⟨_, rfl, hB, fun j u hu => ?_⟩⟩
  rw [WideShapes.add_plain, Nat.zero_add, cell_of_row cur a j #[x] t (0, 0) h]
  simpa using hu
/-- The bytes of an object, as Bytes hands them out. -/
theorem bytesP_reads {w : World} {g c len : Nat} {xs : List Nat} (hr : Row w g 5 c (u8c xs)) (hl : len ≤ xs.length) : Reads w w.heap.size 1 (some ⟨g, 0, none⟩) len (u8c (xs.take len)) := by
  refine ⟨by simp [u8c]; omega, fun _ => ⟨_, rfl, hr.lt, fun j u hu => ?_⟩⟩
  rw [WideShapes.add_plain, Nat.zero_add]
  refine hr.cell ?_
  unfold u8c at hu ⊢
  rw [List.getElem?_map] at hu ⊢
  rw [List.getElem?_take] at hu
  split at hu
  · exact hu
  · cases hu
theorem good_bytesE {h : HM} {ls : List Ob} (G : h.Good ls) {o : Nat} (hi : h.isB o = true) (h2 : (h.hd (o / 2)).fmt = 2) : h.bytesE o = 0 := by
  obtain ⟨a, b, c, rfl, rfl⟩ := (G.laid.isB_iff o).1 hi
  have L := G.laid
  unfold HM.bytesE
  rw [half_pos, L.hd_at] at *
  rw [if_neg (by simp [hi]), if_pos h2, L.fields_at]
  exact G.sound.spare b (by simp) h2
theorem bytes_room {h : HM} {ls : List Ob} (G : h.Good ls) {o : Nat} (hi : h.isB o = true) (h2 : (h.hd (o / 2)).fmt = 2) : (h.hd (o / 2)).len ≤ (bytesM (h.fields o)).length := by
  rw [bytesM_len, HM.fields_len (HM.isB_hd G.laid.heads hi)]
  unfold Hd.len
  rw [if_pos h2]
  omega
theorem word_good {w : World} {p : HP} {h : HM} (H : HAt w p h) (f : h.Fit) (hh : h.Heads) (hs : Spares w) {o : Nat} (ho : o < 4294967296) (hi : h.isB o = true) (h3 : (h.hd (o / 2)).fmt = 3) {k : Nat} (hk : k < (h.hd (o / 2)).size) :
    Calls Tryd.prog 20 #[ptr p.g, .int .u32 o, .int .i64 k] w (Told (.tuple #[.int .u32 (fw h o k : Nat), .int .i64 0]) w) := by
  have hG := word_any H f hh hs o ho (k : Int)
  have hln : (h.hd (o / 2)).len = (h.hd (o / 2)).size := by unfold Hd.len; rw [if_neg (by omega)]
  have he : h.lookE o (k : Int) [3] = 0 := by
    unfold HM.lookE
    rw [hi, if_neg (by decide), if_neg (by rw [h3]; decide), if_neg (by omega)]
  unfold HM.readV at hG
  rw [he] at hG
  exact hG
theorem row_two {w : World} {t : TypeId} {a b : Value} : Reads (w.alloc (.cells #[a, b] t)) (w.heap.size + 1) 1 (some ⟨w.heap.size, 0, none⟩) 2 [a, b] := by
  refine ⟨rfl, fun _ => ⟨_, rfl, by simp, fun j u hu => ?_⟩⟩
  rw [WideShapes.add_plain, Nat.zero_add, (Blk.new w t #[a, b]).cell j]
  simpa using hu
end Go.Proofs.YtpajpdjjpgbklaaDoor

namespace Go.Proofs.YtpajpdjjpgbklaaDoor
open Go.RowKit

/-- What is unlike of two objects ahead of what they name: its kind, a place. -/
def HM.odM (g h : HM) (ser : Bool) (o q : Nat) : Option (Nat × Nat) :=
  if (g.hd (o / 2)).fmt ≠ (h.hd (q / 2)).fmt ∨ (g.hd (o / 2)).size ≠ (h.hd (q / 2)).size ∨ (g.hd (o / 2)).spare ≠ (h.hd (q / 2)).spare then some (3, 0)
  else if ser = true ∧ (g.hd (o / 2)).ser ≠ (h.hd (q / 2)).ser then some (4, 0)
  else if (g.hd (o / 2)).ptrB = true then none
  else (firstD (g.hd (o / 2)).size (fw g o) (fw h q)).map fun k => (5, k)
theorem odM_none {g h : HM} {ser : Bool} {o q : Nat} : g.odM h ser o q = none ↔
    (g.hd (o / 2)).fmt = (h.hd (q / 2)).fmt ∧ (g.hd (o / 2)).size = (h.hd (q / 2)).size ∧ (g.hd (o / 2)).spare = (h.hd (q / 2)).spare ∧ (ser = true → (g.hd (o / 2)).ser = (h.hd (q / 2)).ser) ∧
      ((g.hd (o / 2)).ptrB = false → ∀ k, k < (g.hd (o / 2)).size → fw g o k = fw h q k) := by
  unfold HM.odM
  split
  · rename_i hc
    simp only [reduceCtorEq, false_iff]
    rintro ⟨h1, h2, h3, _⟩
    rcases hc with h | h | h <;> contradiction
  · rename_i hc
    have h1 : (g.hd (o / 2)).fmt = (h.hd (q / 2)).fmt := Decidable.byContradiction fun e => hc (.inl e)
    have h2 : (g.hd (o / 2)).size = (h.hd (q / 2)).size := Decidable.byContradiction fun e => hc (.inr (.inl e))
    have h3 : (g.hd (o / 2)).spare = (h.hd (q / 2)).spare := Decidable.byContradiction fun e => hc (.inr (.inr e))
    split
    · rename_i hs
      simp only [reduceCtorEq, false_iff]
      rintro ⟨_, _, _, h4, _⟩
      exact hs.2 (h4 hs.1)
    · rename_i hs
      have h4 : ser = true → (g.hd (o / 2)).ser = (h.hd (q / 2)).ser := fun e => Decidable.byContradiction fun e2 => hs ⟨e, e2⟩
      split
      · rename_i hp
        simp only [true_iff]
        exact ⟨h1, h2, h3, h4, fun e => by rw [hp] at e; cases e⟩
      · rename_i hp
        rw [Option.map_eq_none_iff, firstD_none]
        constructor
        · intro hf; exact ⟨h1, h2, h3, h4, fun _ => hf⟩
        · rintro ⟨_, _, _, _, hf⟩; exact hf (by simpa using hp)
theorem odM_swap (g h : HM) (ser : Bool) (o q : Nat) : h.odM g ser q o = g.odM h ser o q := by
  unfold HM.odM
  by_cases hc : (g.hd (o / 2)).fmt ≠ (h.hd (q / 2)).fmt ∨ (g.hd (o / 2)).size ≠ (h.hd (q / 2)).size ∨ (g.hd (o / 2)).spare ≠ (h.hd (q / 2)).spare
  · rw [if_pos hc, if_pos (by
      rcases hc with h | h | h
      · exact .inl (Ne.symm h)
      · exact .inr (.inl (Ne.symm h))
      · exact .inr (.inr (Ne.symm h)))]
  · have h1 : (g.hd (o / 2)).fmt = (h.hd (q / 2)).fmt := Decidable.byContradiction fun e => hc (.inl e)
    have h2 : (g.hd (o / 2)).size = (h.hd (q / 2)).size := Decidable.byContradiction fun e => hc (.inr (.inl e))
    rw [if_neg hc, if_neg (by
      rintro (h | h | h)
      · exact hc (.inl (Ne.symm h))
      · exact hc (.inr (.inl (Ne.symm h)))
      · exact hc (.inr (.inr (Ne.symm h))))]
    have hp : (h.hd (q / 2)).ptrB = (g.hd (o / 2)).ptrB := by unfold Hd.ptrB; rw [h1]
    rw [hp, h2, firstD_swap]
    by_cases hs : ser = true ∧ (g.hd (o / 2)).ser ≠ (h.hd (q / 2)).ser
    · rw [if_pos hs, if_pos ⟨hs.1, Ne.symm hs.2⟩]
    · rw [if_neg hs, if_neg (fun e => hs ⟨e.1, Ne.symm e.2⟩)]
theorem odM_self (g : HM) (ser : Bool) (o : Nat) : g.odM g ser o o = none := odM_none.2 ⟨rfl, rfl, rfl, fun _ => rfl, fun _ _ _ => rfl⟩
theorem odM_trans {g h k : HM} {ser : Bool} (o q t : Nat) (h1 : g.odM h ser o q = none) (h2 : h.odM k ser q t = none) : g.odM k ser o t = none := by
  obtain ⟨a1, a2, a3, a4, a5⟩ := odM_none.1 h1
  obtain ⟨b1, b2, b3, b4, b5⟩ := odM_none.1 h2
  refine odM_none.2 ⟨a1.trans b1, a2.trans b2, a3.trans b3, fun e => (a4 e).trans (b4 e), fun e i hi => (a5 e i hi).trans (b5 ?_ i (by omega))⟩
  unfold Hd.ptrB at e ⊢
  rw [← a1]; exact e
theorem odM_kind {g h : HM} {ser : Bool} (o q k x : Nat) (e : g.odM h ser o q = some (k, x)) : k ≠ 0 := by
  unfold HM.odM at e
  split at e
  · injection e with e; injection e with e1; omega
  · split at e
    · injection e with e; injection e with e1; omega
    · split at e
      · cases e
      · cases hf : firstD (g.hd (o / 2)).size (fw g o) (fw h q) with
        | none => rw [hf] at e; cases e
        | some j => rw [hf] at e; injection e with e; injection e with e1; omega
theorem odM_nm {g h : HM} {ser : Bool} (o q : Nat) (e : g.odM h ser o q = none) : h.nmN q = g.nmN o := by
  obtain ⟨a1, a2, _⟩ := odM_none.1 e
  unfold HM.nmN Hd.ptrB
  rw [a1, a2]

theorem oops_oAt (l : List Nd) (k : Nat) : (oopsOf l).getD k 0 = oAt l k := by
  unfold oopsOf oAt
  simp only [List.getD_eq_getElem?_getD, List.getElem?_map]
  cases l[k]? <;> rfl
theorem smallV_inj {v u : Nat} (hv : v < 4294967296) (hu : u < 4294967296) (h1 : kindM v = 1) (h2 : kindM u = 1) (h : smallV v = smallV u) : v = u := by
  have a1 : v % 2 = 1 := by unfold kindM at h1; split at h1 <;> (try split at h1) <;> omega
  have a2 : u % 2 = 1 := by unfold kindM at h2; split at h2 <;> (try split at h2) <;> omega
  unfold smallV at h
  split at h <;> split at h <;> omega
theorem zig_inj {m n : Int} (h : zig m = zig n) : m = n := by
  by_cases hm : 0 ≤ m
  · have a := zig_pos hm
    by_cases hn : 0 ≤ n
    · have b := zig_pos hn; omega
    · have b := zig_neg hn; omega
  · have a := zig_neg hm
    by_cases hn : 0 ≤ n
    · have b := zig_pos hn; omega
    · have b := zig_neg hn; omega
theorem zig_odd (m : Int) : zig m % 2 = 1 := by
  by_cases hm : 0 ≤ m
  · have a := zig_pos hm; omega
  · have a := zig_neg hm; omega
theorem kindM_cases (v : Nat) : kindM v = 0 ∨ kindM v = 1 ∨ kindM v = 2 := by unfold kindM; split <;> (try split) <;> simp
theorem refM_none {l : List Nd} {v : Nat} (h : kindM v = 0) : refM l v = 0 := by unfold refM; rw [if_pos h]
theorem refM_obj {l : List Nd} {v : Nat} (h : kindM v = 2) : refM l v = 2 * numF l v := by unfold refM; rw [if_neg (by omega), if_pos h]
theorem refM_small {l : List Nd} {v : Nat} (h : kindM v = 1) : refM l v = zig (smallV v) := by unfold refM; rw [if_neg (by omega), if_neg (by omega)]
theorem refM_pair {l m : List Nd} {v u : Nat} (hv : v < 4294967296) (hu : u < 4294967296) (hl : kindM v = 2 → v ∈ oopsOf l) (hm : kindM u = 2 → u ∈ oopsOf m) : refM l v = refM m u ↔ pairK l m v u = 0 := by
  rw [pairK_zero]
  have z1 := zig_odd (smallV v)
  have z2 := zig_odd (smallV u)
  rcases kindM_cases v with h0 | h1 | h2
  · rw [refM_none h0]
    rcases kindM_cases u with k0 | k1 | k2
    · rw [refM_none k0]; simp [h0, k0]
    · rw [refM_small k1]; constructor
      · intro e; omega
      · rintro ⟨e, _⟩; omega
    · rw [refM_obj k2]; have := numF_pos.2 (hm k2); constructor
      · intro e; omega
      · rintro ⟨e, _⟩; omega
  · rw [refM_small h1]
    rcases kindM_cases u with k0 | k1 | k2
    · rw [refM_none k0]; constructor
      · intro e; omega
      · rintro ⟨e, _⟩; omega
    · rw [refM_small k1]; constructor
      · intro e; exact ⟨by omega, fun _ => smallV_inj hv hu h1 k1 (zig_inj e), fun e2 => by omega⟩
      · rintro ⟨_, e, _⟩; rw [e h1]
    · rw [refM_obj k2]; constructor
      · intro e; omega
      · rintro ⟨e, _⟩; omega
  · rw [refM_obj h2]
    have p1 := numF_pos.2 (hl h2)
    rcases kindM_cases u with k0 | k1 | k2
    · rw [refM_none k0]; constructor
      · intro e; omega
      · rintro ⟨e, _⟩; omega
    · rw [refM_small k1]; constructor
      · intro e; omega
      · rintro ⟨e, _⟩; omega
    · rw [refM_obj k2]; constructor
      · intro e; exact ⟨by omega, fun e2 => by omega, fun _ => by omega⟩
      · rintro ⟨_, _, e⟩; rw [e h2]

/-- What an object of a good heap is. -/
theorem good_at {h : HM} {ls : List Ob} (G : h.Good ls) {o : Nat} (hi : h.isB o = true) : ∃ b ∈ ls, h.hd (o / 2) = b.x ∧ h.fields o = b.fs ∧ b.Ok ∧ ∀ j, j < b.fs.length → fw h o j = b.fs.getD j 0 := by
  obtain ⟨a, b, c, rfl, rfl⟩ := (G.laid.isB_iff o).1 hi
  have L := G.laid
  refine ⟨b, by simp, ?_, L.fields_at, L.ok_at, fun j hj => L.f_at j hj⟩
  rw [half_pos]; exact L.hd_at
theorem good_fmt {h : HM} {ls : List Ob} (G : h.Good ls) {o : Nat} (hi : h.isB o = true) : (h.hd (o / 2)).fmt = 1 ∨ (h.hd (o / 2)).fmt = 2 ∨ (h.hd (o / 2)).fmt = 3 ∨ (h.hd (o / 2)).fmt = 4 := by
  obtain ⟨b, _, e, _, ok, _⟩ := good_at G hi
  have := ok.may
  rw [e]
  unfold Hd.may at this
  simp at this
  omega
theorem headB_pre {g h : HM} {ser : Bool} {o q : Nat} {s t : List Nat} (e : g.headB ser o ++ s = h.headB ser q ++ t) :
    (g.hd (o / 2)).fmt = (h.hd (q / 2)).fmt ∧ (g.hd (o / 2)).size = (h.hd (q / 2)).size ∧ (g.hd (o / 2)).spare = (h.hd (q / 2)).spare ∧ (ser = true → (g.hd (o / 2)).ser = (h.hd (q / 2)).ser) ∧ s = t := by
  unfold HM.headB HM.serB at e
  simp only [List.cons_append, List.nil_append, List.append_assoc, List.cons.injEq] at e
  obtain ⟨e1, e2, e3⟩ := e
  obtain ⟨e4, e5⟩ := cnt7_pre _ _ _ _ e3
  cases ser
  · exact ⟨e1, e4, e2, (fun x => by cases x), by simpa using e5⟩
  · rw [if_pos rfl, if_pos rfl] at e5
    obtain ⟨e6, e7⟩ := cnt7_pre _ _ _ _ e5
    exact ⟨e1, e4, e2, fun _ => e6, e7⟩
theorem contB_pre {g h : HM} {lg lh : List Ob} (Gg : g.Good lg) (Gh : h.Good lh) {o q : Nat} (ho : g.isB o = true) (hq : h.isB q = true) (hf : (g.hd (o / 2)).fmt = (h.hd (q / 2)).fmt) (hz : (g.hd (o / 2)).size = (h.hd (q / 2)).size)
    (hp : (g.hd (o / 2)).spare = (h.hd (q / 2)).spare) {s t : List Nat} (e : g.contB o ++ s = h.contB q ++ t) : ((g.hd (o / 2)).ptrB = false → ∀ k, k < (g.hd (o / 2)).size → fw g o k = fw h q k) ∧ s = t := by
  have hfm := good_fmt Gg ho
  unfold HM.contB at e
  rw [← hf, ← hz] at e
  by_cases h3 : (g.hd (o / 2)).fmt = 3
  · rw [if_pos h3, if_pos h3] at e
    unfold HM.cwB at e
    obtain ⟨h1, h2⟩ := flat_pre (f := fw g o) (g := fw h q) rfl e
    refine ⟨fun _ k hk => ?_, h2⟩
    have := h1 k (by simpa using hk)
    rw [List.getD_eq_getElem?_getD, List.getElem?_range hk] at this
    exact this
  · rw [if_neg h3, if_neg h3] at e
    by_cases h2 : (g.hd (o / 2)).fmt = 2
    · rw [if_pos h2, if_pos h2] at e
      obtain ⟨b, hb, e1, e2, k1, e3⟩ := good_at Gg ho
      obtain ⟨c, hc, f1, f2, k2, f3⟩ := good_at Gh hq
      have r1 := bytes_room Gg ho h2
      have r2 := bytes_room Gh hq (by omega)
      have hlen : (g.hd (o / 2)).len = (h.hd (q / 2)).len := by unfold Hd.len; rw [hf, hz, hp]
      unfold HM.bytesL at e
      obtain ⟨h4, h5⟩ := List.append_inj e (by rw [List.length_take, List.length_take]; omega)
      refine ⟨fun _ k hk => ?_, h5⟩
      have hfs : b.fs = c.fs := by
        rw [e2, f2] at h4
        have s1 := Gg.sound.spare b hb (by rw [← e1]; exact h2)
        have s2 := Gh.sound.spare c hc (by rw [← f1]; omega)
        have p1 := packM_bytes s1 (by have := k1.fit.spare; omega) k1.f32
        have p2 := packM_bytes s2 (by have := k2.fit.spare; omega) k2.f32
        have l1 : (g.hd (o / 2)).len = 4 * b.fs.length - b.x.spare := by unfold Hd.len; rw [if_pos h2, e1, k1.size]
        have l2 : (h.hd (q / 2)).len = 4 * c.fs.length - c.x.spare := by unfold Hd.len; rw [if_pos (by omega), f1, k2.size]
        rw [← p1, ← p2, ← l1, ← l2, h4]
      have z1 := k1.size
      rw [e1] at hk
      rw [e3 k (by omega), f3 k (by rw [← hfs]; omega), hfs]
    · rw [if_neg h2, if_neg h2] at e
      refine ⟨fun hpf => ?_, by simpa using e⟩
      unfold Hd.ptrB at hpf
      simp at hpf
      omega
theorem contB_same {g h : HM} {lg lh : List Ob} (Gg : g.Good lg) (Gh : h.Good lh) {o q : Nat} (ho : g.isB o = true) (hq : h.isB q = true) (hf : (g.hd (o / 2)).fmt = (h.hd (q / 2)).fmt) (hz : (g.hd (o / 2)).size = (h.hd (q / 2)).size)
    (hp : (g.hd (o / 2)).spare = (h.hd (q / 2)).spare) (hc : (g.hd (o / 2)).ptrB = false → ∀ k, k < (g.hd (o / 2)).size → fw g o k = fw h q k) : g.contB o = h.contB q := by
  unfold HM.contB
  rw [← hf, ← hz]
  by_cases h3 : (g.hd (o / 2)).fmt = 3
  · rw [if_pos h3, if_pos h3]
    unfold HM.cwB
    refine flat_same (f := fw g o) (g := fw h q) rfl (fun k hk => ?_)
    have hk' : k < (g.hd (o / 2)).size := by simpa using hk
    rw [List.getD_eq_getElem?_getD, List.getElem?_range hk']
    exact hc (by unfold Hd.ptrB; simp [h3]) k hk'
  · rw [if_neg h3, if_neg h3]
    by_cases h2 : (g.hd (o / 2)).fmt = 2
    · rw [if_pos h2, if_pos h2]
      obtain ⟨b, hb, e1, e2, k1, e3⟩ := good_at Gg ho
      obtain ⟨c, hcm, f1, f2, k2, f3⟩ := good_at Gh hq
      have hlen : (g.hd (o / 2)).len = (h.hd (q / 2)).len := by unfold Hd.len; rw [hf, hz, hp]
      have z1 := k1.size
      have z2 := k2.size
      rw [e1, f1] at hz
      have hfs : b.fs = c.fs := by
        apply List.ext_getElem?
        intro k
        rcases Nat.lt_or_ge k b.fs.length with hk | hk
        · have := hc (by unfold Hd.ptrB; simp [h2]) k (by rw [e1]; omega)
          rw [e3 k hk, f3 k (by omega), List.getD_eq_getElem?_getD, List.getD_eq_getElem?_getD, List.getElem?_eq_getElem hk, List.getElem?_eq_getElem (by omega)] at this
          rw [List.getElem?_eq_getElem hk, List.getElem?_eq_getElem (by omega)]
          simpa using this
        · rw [List.getElem?_eq_none hk, List.getElem?_eq_none (by omega)]
      unfold HM.bytesL
      rw [hlen, e2, f2, hfs]
    · rw [if_neg h2, if_neg h2]

section
variable {g h : HM} {lg lh : List Ob} {ser : Bool} {a b : List Nat} {L M : List Nd}
theorem names_mem {i : Nat} (W : GWell g L) (hi : i < L.length) : g.isB (oAt L i) = true := by
  refine W.2.2.1 _ ?_
  rw [← oops_oAt, List.getD_eq_getElem?_getD, List.getElem?_eq_getElem (by rw [oopsOf_len]; exact hi)]
  exact List.getElem_mem _
theorem mem_at {x : Nat} (hx : x ∈ oopsOf L) : ∃ i, i < L.length ∧ x = oAt L i := by
  obtain ⟨i, hi, e⟩ := List.getElem_of_mem hx
  rw [oopsOf_len] at hi
  refine ⟨i, hi, ?_⟩
  rw [← oops_oAt, List.getD_eq_getElem?_getD, List.getElem?_eq_getElem (by rw [oopsOf_len]; exact hi), ← e]
  rfl
/-- The canonical bytes are the same just if the graphs are alike. -/
theorem canon_alike (Gg : g.Good lg) (Gh : h.Good lh) (hL : seenM g.nmN g.nmAt a = some L) (hM : seenM h.nmN h.nmAt b = some M) (WL : GWell g L) (WM : GWell h M) (hab : b.length = a.length)
    (ha : ∀ x ∈ a, x < 4294967296) (hb : ∀ x ∈ b, x < 4294967296) : canonM g ser a L = canonM h ser b M ↔ Alike g.nmN g.nmAt h.nmAt (g.odM h ser) L M a b := by
  have hgetA : ∀ k, k < a.length → a.getD k 0 < 4294967296 := fun k hk => ha _ (by rw [List.getD_eq_getElem?_getD, List.getElem?_eq_getElem hk]; exact List.getElem_mem _)
  have hgetB : ∀ k, k < b.length → b.getD k 0 < 4294967296 := fun k hk => hb _ (by rw [List.getD_eq_getElem?_getD, List.getElem?_eq_getElem hk]; exact List.getElem_mem _)
  have frP : ∀ k, k < a.length → (refM L (a.getD k 0) = refM M (b.getD k 0) ↔ pairK L M (a.getD k 0) (b.getD k 0) = 0) := fun k hk =>
    refM_pair (hgetA k hk) (hgetB k (by omega)) (seen_fr hL hk) (seen_fr hM (by omega))
  have nmP : ∀ i, i < L.length → i < M.length → ∀ k, k < g.nmN (oAt L i) → k < h.nmN (oAt M i) → (refM L (g.nmAt (oAt L i) k) = refM M (h.nmAt (oAt M i) k) ↔ pairK L M (g.nmAt (oAt L i) k) (h.nmAt (oAt M i) k) = 0) := fun i hi hiM k hk hkM =>
    refM_pair (HM.nmAt_lt Gg.fit _ _) (HM.nmAt_lt Gh.fit _ _) (seen_nm hL hi hk) (seen_nm hM hiM hkM)
  constructor
  · intro e
    unfold canonM refsB at e
    obtain ⟨h1, h2⟩ := flat_pre (f := fun x => refM L (id x)) (g := fun x => refM M (id x)) hab.symm e
    have h3 := objs_pre (R := fun o q => g.odM h ser o q = none ∧ ∀ k, k < g.nmN o → refM L (g.nmAt o k) = refM M (h.nmAt q k)) (F := g.objC ser L) (G := h.objC ser M)
      (fun o => by unfold HM.objC HM.headB; simp) (fun o => by unfold HM.objC HM.headB; simp) (xs := oopsOf L) (ys := oopsOf M) (fun o ho q hq s t e => by
        have io := WL.2.2.1 o ho
        have iq := WM.2.2.1 q hq
        unfold HM.objC refsB at e
        rw [List.append_assoc, List.append_assoc, List.append_assoc, List.append_assoc] at e
        obtain ⟨e1, e2, e3, e4, e5⟩ := headB_pre e
        have hnm : h.nmN q = g.nmN o := by unfold HM.nmN Hd.ptrB; rw [e1, e2]
        rw [hnm] at e5
        obtain ⟨e6, e7⟩ := flat_pre (f := fun k => refM L (g.nmAt o k)) (g := fun k => refM M (h.nmAt q k)) rfl e5
        obtain ⟨e8, e9⟩ := contB_pre Gg Gh io iq e1 e2 e3 e7
        refine ⟨⟨odM_none.2 ⟨e1, e2, e3, e4, e8⟩, fun k hk => ?_⟩, e9⟩
        have := e6 k (by simpa using hk)
        rw [List.getD_eq_getElem?_getD, List.getElem?_range hk] at this
        exact this) h2
    rw [oopsOf_len, oopsOf_len] at h3
    refine ⟨fun k hk => (frP k hk).1 (h1 k hk), h3.1, fun i hi => ?_, fun i hi k hk => ?_⟩
    · have := (h3.2 i hi).1
      rwa [oops_oAt, oops_oAt] at this
    · have := h3.2 i hi
      rw [oops_oAt, oops_oAt] at this
      exact (nmP i hi (by omega) k hk (by rw [odM_nm _ _ this.1]; exact hk)).1 (this.2 k hk)
  · intro A
    unfold canonM refsB
    rw [flat_same (f := fun x => refM L (id x)) (g := fun x => refM M (id x)) (xs := a) (ys := b) hab.symm (fun k hk => (frP k hk).2 (A.fr k hk))]
    congr 1
    refine objs_same (by rw [oopsOf_len, oopsOf_len]; exact A.len) (fun i hi => ?_)
    rw [oopsOf_len] at hi
    rw [oops_oAt, oops_oAt]
    have io := names_mem WL hi
    have iq := names_mem WM (show i < M.length by rw [A.len]; exact hi)
    obtain ⟨e1, e2, e3, e4, e5⟩ := odM_none.1 (A.od i hi)
    have hnm := odM_nm _ _ (A.od i hi)
    have hhd : g.headB ser (oAt L i) = h.headB ser (oAt M i) := by
      unfold HM.headB HM.serB
      rw [e1, e2, e3]
      cases ser
      · rfl
      · rw [e4 rfl]
    unfold HM.objC refsB
    rw [hhd, contB_same Gg Gh io iq e1 e2 e3 e5, hnm]
    congr 2
    refine flat_same (f := fun k => refM L (g.nmAt (oAt L i) k)) (g := fun k => refM M (h.nmAt (oAt M i) k)) rfl (fun k hk => ?_)
    have hk' : k < g.nmN (oAt L i) := by simpa using hk
    rw [List.getD_eq_getElem?_getD, List.getElem?_range hk']
    exact (nmP i hi (by rw [A.len]; exact hi) k hk' (by rw [hnm]; exact hk')).2 (A.nm i hi k hk')
end

/-- A way that leads can be followed. -/
theorem followS_app {h : HM} (r : List Int) : ∀ (p : List Int) (o q : Nat), h.followS o p = (q, 0) → h.followS o (p ++ r) = h.followS q r
  | [], o, q, e => by unfold HM.followS at e; injection e with e1; subst e1; rfl
  | i :: p, o, q, e => by
    rw [List.cons_append]
    by_cases hi : h.isB o = true
    · by_cases h1 : i = -1
      · subst h1
        rw [followS_cls hi] at e ⊢
        exact followS_app r p _ q e
      · by_cases he : h.lookE o i [1, 4] = 0
        · rw [followS_get hi h1 he] at e ⊢
          exact followS_app r p _ q e
        · rw [followS_err hi h1 he] at e; injection e with _ e2; exact absurd e2 he
    · rw [followS_no (by simpa using hi)] at e; injection e with _ e2; omega
theorem valB_obj {h : HM} {o : Nat} (hv : h.valB o = true) (h2 : kindM o = 2) : h.isB o = true := by
  unfold HM.valB objB at hv
  simpa [h2] using hv
theorem leads_follow {h : HM} {ls : List Ob} (G : h.Good ls) {o : Nat} (ho : h.valB o = true) {p : List Int} {q : Nat} (L : Leads h.nmN h.nmAt o p q) : h.followS o p = (q, 0) ∧ h.valB q = true := by
  induction L with
  | here => exact ⟨rfl, ho⟩
  | @step p q k _ h2 hk ih =>
    obtain ⟨e, hv⟩ := ih
    have hi := valB_obj hv h2
    obtain ⟨b, hb, e1, e2, ok, e3⟩ := good_at G hi
    rw [followS_app _ _ _ _ e]
    cases k with
    | zero =>
      have hc : h.nmAt q 0 = (h.hd (q / 2)).cls := rfl
      rw [hc, show (((0 : Nat) : Int) - 1) = -1 from rfl, followS_cls hi]
      refine ⟨rfl, ?_⟩
      have := G.sound.cls b hb
      rw [← e1] at this
      unfold HM.clsB at this
      unfold HM.valB
      simp only [Bool.or_eq_true, decide_eq_true_eq] at this
      rcases this with h0 | h0
      · rw [h0]; rfl
      · simp [h0]
    | succ j =>
      have hp : (h.hd (q / 2)).ptrB = true ∧ j < (h.hd (q / 2)).size := by
        unfold HM.nmN at hk
        split at hk
        · rename_i hp; exact ⟨hp, by omega⟩
        · omega
      have hfm : (h.hd (q / 2)).fmt = 1 ∨ (h.hd (q / 2)).fmt = 4 := by have := hp.1; unfold Hd.ptrB at this; simpa using this
      have hln : (h.hd (q / 2)).len = (h.hd (q / 2)).size := by unfold Hd.len; rw [if_neg (by omega)]
      have he : h.lookE q (j : Int) [1, 4] = 0 := by
        unfold HM.lookE
        rw [hi, if_neg (by decide), if_neg (by rcases hfm with e | e <;> rw [e] <;> decide), if_neg (by omega)]
      rw [show (((j + 1 : Nat) : Int) - 1) = (j : Int) by omega, followS_get hi (by omega) he]
      have hat : h.nmAt q (j + 1) = fw h q j := rfl
      rw [hat, show ((j : Int)).toNat = j by omega]
      refine ⟨rfl, ?_⟩
      have hz := ok.size
      have hj : j < b.fs.length := by rw [← hz, ← e1]; exact hp.2
      have := G.sound.flds b hb (by rw [← e1]; exact hp.1) (fw h q j) (by
        rw [e3 j hj, List.getD_eq_getElem?_getD, List.getElem?_eq_getElem hj]
        exact List.getElem_mem _)
      exact this
end Go.Proofs.YtpajpdjjpgbklaaDoor
