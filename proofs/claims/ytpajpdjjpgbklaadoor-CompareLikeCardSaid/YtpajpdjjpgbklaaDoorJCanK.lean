/- Canonical bytes, plain; the state of the walk that writes them. -/
import Derived.Test.YtpajpdjjpgbklaaDoorJSeen
import Derived.Test.YtpajpdjjpgbklaaDoorJBytesOf
set_option linter.unusedVariables false
namespace Go.Proofs.YtpajpdjjpgbklaaDoor
open Go.RowKit Go.Maps
attribute [local go_sem] Oper.semAt_some

def refsB (l : List Nd) (f : Nat → Nat) (xs : List Nat) : List Nat := xs.flatMap fun k => cnt7 (refM l (f k))
def HM.cwB (h : HM) (o n : Nat) : List Nat := (List.range n).flatMap fun i => cnt7 (fw h o i)
def HM.bytesL (h : HM) (o : Nat) : List Nat := (bytesM (h.fields o)).take (h.hd (o / 2)).len
def HM.contB (h : HM) (o : Nat) : List Nat :=
  if (h.hd (o / 2)).fmt = 3 then h.cwB o (h.hd (o / 2)).size else if (h.hd (o / 2)).fmt = 2 then h.bytesL o else []
def HM.serB (h : HM) (ser : Bool) (o : Nat) : List Nat := if ser then cnt7 (h.hd (o / 2)).ser else []
/-- What stands ahead of the names. -/
def HM.headB (h : HM) (ser : Bool) (o : Nat) : List Nat := [(h.hd (o / 2)).fmt, (h.hd (o / 2)).spare] ++ cnt7 (h.hd (o / 2)).size ++ h.serB ser o
def HM.objC (h : HM) (ser : Bool) (l : List Nd) (o : Nat) : List Nat :=
  h.headB ser o ++ refsB l (h.nmAt o) (List.range (h.nmN o)) ++ h.contB o
def canonM (h : HM) (ser : Bool) (fr : List Nat) (l : List Nd) : List Nat := refsB l id fr ++ (oopsOf l).flatMap (h.objC ser l)

theorem flatMap_le {f : Nat → List Nat} {c : Nat} : ∀ {xs : List Nat}, (∀ x ∈ xs, (f x).length ≤ c) → (xs.flatMap f).length ≤ c * xs.length
  | [], _ => by simp
  | x :: xs, h => by
    have h1 := h x (List.mem_cons_self ..)
    have h2 := flatMap_le (fun y hy => h y (List.mem_cons_of_mem _ hy))
    rw [List.flatMap_cons, List.length_append, List.length_cons, Nat.mul_succ]
    omega
theorem flatMap_snoc' (f : Nat → List Nat) (xs : List Nat) (x : Nat) : (xs ++ [x]).flatMap f = xs.flatMap f ++ f x := by simp
theorem cnt7_len5 {x : Nat} (h : x < 34359738368) : (cnt7 x).length ≤ 5 := cnt7_len 4 x (by rw [show (128 : Nat) ^ (4 + 1) = 34359738368 by decide]; exact h)
theorem refsB_len {l : List Nd} (hl : l.length ≤ 4000000) {f : Nat → Nat} {xs : List Nat} (h : ∀ x ∈ xs, f x < 4294967296) : (refsB l f xs).length ≤ 5 * xs.length :=
  flatMap_le fun x hx => cnt7_len5 (by have := refM_lt l (f x) (h x hx) hl; omega)
theorem refsB_snoc (l : List Nd) (f : Nat → Nat) (xs : List Nat) (x : Nat) : refsB l f (xs ++ [x]) = refsB l f xs ++ cnt7 (refM l (f x)) := flatMap_snoc' _ _ _
theorem cwB_snoc (h : HM) (o n : Nat) : h.cwB o (n + 1) = h.cwB o n ++ cnt7 (fw h o n) := by unfold HM.cwB; rw [List.range_succ, flatMap_snoc']
theorem cwB_len {h : HM} (f : h.Fit) (o n : Nat) : (h.cwB o n).length ≤ 5 * n := by
  have := flatMap_le (f := fun i => cnt7 (fw h o i)) (c := 5) (xs := List.range n) (fun x _ => cnt7_len5 (by have := HM.fw_lt f o x; omega))
  rw [List.length_range] at this
  exact this
theorem hd_size_le {h : HM} (f : h.Fit) {o : Nat} (hi : h.hdAt (o / 2)) : (h.hd (o / 2)).size ≤ 1048576 := by
  have h1 := hi.1
  have h3 := f.room
  have h4 := f.hi
  omega
theorem serB_len {h : HM} (f : h.Fit) (ser : Bool) (o : Nat) : (h.serB ser o).length ≤ 5 := by
  unfold HM.serB
  split
  · exact cnt7_len5 (by have := (HM.hd_fit f (o / 2)).ser; omega)
  · simp
theorem headB_len {h : HM} (f : h.Fit) (ser : Bool) (o : Nat) : (h.headB ser o).length ≤ 12 := by
  unfold HM.headB
  have h1 := serB_len f ser o
  have h2 := cnt7_len5 (x := (h.hd (o / 2)).size) (by have := (HM.hd_fit f (o / 2)).size; omega)
  simp only [List.length_append, List.length_cons, List.length_nil]
  omega
theorem bytesL_len {h : HM} (f : h.Fit) {o : Nat} (hi : h.hdAt (o / 2)) : (h.bytesL o).length ≤ 4 * 1048576 := by
  unfold HM.bytesL
  have h1 := hd_size_le f hi
  have : (h.hd (o / 2)).len ≤ 4 * 1048576 := by unfold Hd.len; split <;> omega
  rw [List.length_take]
  omega
theorem contB_len {h : HM} (f : h.Fit) {o : Nat} (hi : h.hdAt (o / 2)) : (h.contB o).length ≤ 5 * 1048576 := by
  unfold HM.contB
  have h1 := hd_size_le f hi
  split
  · have := cwB_len f o (h.hd (o / 2)).size; omega
  · split
    · have := bytesL_len f hi; omega
    · simp
theorem objC_len {h : HM} (f : h.Fit) {o : Nat} (hi : h.hdAt (o / 2)) (ser : Bool) {l : List Nd} (hl : l.length ≤ 4000000) : (h.objC ser l o).length ≤ 11000000 := by
  unfold HM.objC
  have h1 := headB_len f ser o
  have h2 := refsB_len hl (f := h.nmAt o) (xs := List.range (h.nmN o)) (fun x _ => HM.nmAt_lt f o x)
  have h3 := contB_len f hi
  have h4 := nmN_le f o hi
  rw [List.length_range] at h2
  rw [List.length_append, List.length_append]
  omega
theorem objs_len {h : HM} (f : h.Fit) (hh : h.Heads) (ser : Bool) {l : List Nd} (hl : l.length ≤ 65536) (hi : ∀ x ∈ oopsOf l, h.isB x = true) (i : Nat) : (((oopsOf l).take i).flatMap (h.objC ser l)).length ≤ 720896000000 := by
  have h1 := flatMap_le (f := h.objC ser l) (c := 11000000) (xs := (oopsOf l).take i) (fun x hx => objC_len f (HM.isB_hd hh (hi x (List.mem_of_mem_take hx))) ser (by omega))
  have h2 : ((oopsOf l).take i).length ≤ 65536 := by rw [List.length_take, oopsOf_len]; omega
  omega
theorem flatMap_take1 (f : Nat → List Nat) {xs : List Nat} {i : Nat} (hi : i < xs.length) : (xs.take (i + 1)).flatMap f = (xs.take i).flatMap f ++ f (xs.getD i 0) := by
  rw [List.take_add_one, List.getElem?_eq_getElem hi, List.getD_eq_getElem?_getD, List.getElem?_eq_getElem hi]
  exact flatMap_snoc' f _ _
theorem refsB_take1 (l : List Nd) (f : Nat → Nat) {xs : List Nat} {i : Nat} (hi : i < xs.length) : refsB l f (xs.take (i + 1)) = refsB l f (xs.take i) ++ cnt7 (refM l (f (xs.getD i 0))) := flatMap_take1 _ hi

section
variable {W0 w w' : World} {gG mB bG bB n : Nat} {hv vm vd v v' : Value} {l : List Nd} {bs : List Nat}
/-- A graph is kept where its blocks are. -/
theorem GSt.keep (S : GSt W0 gG mB bG hv vm vd l w) (h1 : w'.os = w.os) (h2 : w'.tape = w.tape) (h3 : w'.output = w.output) (h4 : w.heap.size ≤ w'.heap.size)
    (hk : ∀ k, k < w.heap.size → (k < W0.heap.size ∨ k = gG ∨ k = mB ∨ k = bG ∨ vm.ownBlock = some k ∨ vd.ownBlock = some k) → w'.heap[k]? = w.heap[k]?) : GSt W0 gG mB bG hv vm vd l w' :=
  ⟨⟨h1.trans S.base.os, h2.trans S.base.tape, h3.trans S.base.output, Nat.le_trans S.base.size h4, fun k h => (hk k (Nat.lt_of_lt_of_le h S.base.size) (.inl h)).trans (S.base.block k h)⟩,
    ⟨S.graph.box.same (hk _ S.graph.box.lt (.inr (.inl rfl))), own_same S.graph.met (fun k h => hk k (S.graph.met.lt k h).2 (.inr (.inr (.inr (.inr (.inl h)))))),
      own_same S.graph.deep (fun k h => hk k (S.graph.deep.lt k h).2 (.inr (.inr (.inr (.inr (.inr h)))))), S.graph.num.same (hk mB S.graph.num.lt (.inr (.inr (.inl rfl)))), S.graph.hg, S.graph.hm, Nat.le_trans S.graph.hB h4⟩,
    S.box.same (hk _ S.box.lt (.inr (.inr (.inr (.inl rfl)))))⟩
/-- A graph beside a row of bytes of the call's own, with the box of its slice. -/
structure CanSt (W0 : World) (gG mB bG bB : Nat) (hv vm vd : Value) (l : List Nd) (bs : List Nat) (v : Value) (w : World) : Prop where
  gst : GSt W0 gG mB bG hv vm vd l w
  bb : Blk w bB 46 #[v]
  own : w.ownsRow W0.heap.size 5 1 v bs.length (u8c bs)
  hb : W0.heap.size ≤ bB
theorem CanSt.below (C : CanSt W0 gG mB bG bB hv vm vd l bs v w) (hb : Below w.heap.size w w') : CanSt W0 gG mB bG bB hv vm vd l bs v w' :=
  ⟨C.gst.below hb, C.bb.below hb C.bb.lt, own_same C.own (fun k hk => hb.block k (C.own.lt k hk).2), C.hb⟩
/-- What the bytes' growing leaves as it was. -/
theorem CanSt.other (C : CanSt W0 gG mB bG bB hv vm vd l bs v w) (hg : Grows w w' v v') {k : Nat} (hk : k < w.heap.size) (h1 : v.ownBlock ≠ some k) (h2 : k ≠ bB) (u : Value) :
    (w'.setCell ⟨bB, 0, none⟩ u).heap[k]? = w.heap[k]? :=
  (Below.heap_setCell w' ⟨bB, 0, none⟩ u k h2).trans (hg.g.block k hk (fun e => h1 e.symm))
theorem CanSt.blk (C : CanSt W0 gG mB bG bB hv vm vd l bs v w) (hg : Grows w w' v v') (u : Value) {g : Nat} {t : TypeId} {cs : Array Value} (b : Blk w g t cs) (h1 : 5 ≠ t) (h2 : t ≠ 46) :
    (w'.setCell ⟨bB, 0, none⟩ u).heap[g]? = w.heap[g]? :=
  C.other hg b.lt (own_ne_blk C.own b h1) (b.ne_ C.bb h2) u
theorem CanSt.obj (C : CanSt W0 gG mB bG bB hv vm vd l bs v w) (hg : Grows w w' v v') (u : Value) {k : Nat} {o : Obj} (ho : w.heap[k]? = some o) (hc : o.isCells = false) : (w'.setCell ⟨bB, 0, none⟩ u).heap[k]? = some o :=
  (C.other hg (lt_of_get ho) (fun e => by
    obtain ⟨o', ho', hc'⟩ := own_cells C.own e
    rw [ho] at ho'; injection ho' with ho'; subst ho'; rw [hc] at hc'; cases hc') (fun e => by
    subst e; have := C.bb; unfold Blk at this; rw [this] at ho; injection ho with ho; subst ho; cases hc) u).trans ho
theorem CanSt.grow (C : CanSt W0 gG mB bG bB hv vm vd l bs v w) {cs : List Nat} (hown : w'.ownsRow W0.heap.size 5 1 v' cs.length (u8c cs)) (hg : Grows w w' v v') :
    CanSt W0 gG mB bG bB hv vm vd l cs v' (w'.setCell ⟨bB, 0, none⟩ v') := by
  have hsz : (w'.setCell ⟨bB, 0, none⟩ v').heap.size = w'.heap.size := by simp [World.setCell]
  have hne : v.ownBlock ≠ some bB := own_ne_blk C.own C.bb (by decide)
  have hne' : v'.ownBlock ≠ some bB := fun e => by
    rcases hg.at_ _ e with e' | e'
    · exact hne e'
    · have := C.bb.lt; omega
  refine ⟨C.gst.keep hg.g.os hg.g.tape hg.g.output (by rw [hsz]; exact hg.size) ?_, (C.bb.same (hg.g.block bB C.bb.lt (fun e => hne e.symm))).set_ 0 _, own_same hown (fun k hk => Below.heap_setCell w' ⟨bB, 0, none⟩ _ k (fun e => by subst e; exact hne' hk)), C.hb⟩
  intro k hk hc
  refine C.other hg hk ?_ ?_ _
  · rcases hc with h | rfl | rfl | rfl | h | h
    · exact fun e => by have := (C.own.lt k e).1; omega
    · exact own_ne_blk C.own C.gst.graph.box (by decide)
    · exact own_ne_map C.own C.gst.graph.num
    · exact own_ne_blk C.own C.gst.box (by decide)
    · exact own_type C.gst.graph.met C.own (by decide) k h
    · exact own_type C.gst.graph.deep C.own (by decide) k h
  · rcases hc with h | rfl | rfl | rfl | h | h
    · have := C.hb; omega
    · exact C.gst.graph.box.ne_ C.bb (by decide)
    · rintro rfl
      obtain ⟨D, _, ⟨es, clock, hb, r⟩, _⟩ := C.gst.graph.num
      have := C.bb
      unfold Blk at this
      rw [this] at hb
      injection hb with hb
      cases hb
    · exact C.gst.box.ne_ C.bb (by decide)
    · rintro rfl; exact own_ne_blk C.gst.graph.met C.bb (by decide) h
    · rintro rfl; exact own_ne_blk C.gst.graph.deep C.bb (by decide) h
theorem CanSt.bb' (C : CanSt W0 gG mB bG bB hv vm vd l bs v w) (hg : Grows w w' v v') : Blk w' bB 46 #[v] :=
  C.bb.same (hg.g.block bB C.bb.lt (fun e => own_ne_blk C.own C.bb (by decide) e.symm))
theorem Grows.alloc_ (w : World) (v : Value) (o : Obj) (h : Grows (w.alloc o) w' v v') : Grows w w' v v' := ((Grows.refl w v).below ((Below.refl _ _).alloc (Nat.le_refl _) o)).trans h
theorem Grows.far (hg : Grows w w' v v') {k : Nat} (hk : k < w.heap.size) (hn : v.ownBlock ≠ some k) : w'.heap[k]? = w.heap[k]? := hg.g.block k hk (fun e => hn e.symm)
theorem Grows.alloc (h : Grows w w' v v') (o : Obj) : Grows w (w'.alloc o) v v' := h.below ((Below.refl _ _).alloc (Nat.le_refl _) o)
theorem Grows.append (h : Grows w w' v v') {w2 : World} {v2 : Value} (hg : w'.grownBy w2 v'.ownBlock) (ha : v2.ownBlock = v'.ownBlock ∨ v2.ownBlock = some w'.heap.size) : Grows w w2 v v2 := h.trans (.of hg ha)
theorem CanSt.marks (C : CanSt W0 gG mB bG bB hv vm vd l bs v w) (hg : Grows w w' v v') (u : Value) {B : Nat} {ds : List Deferred} (M : Marks B ds w) : Marks B ds (w'.setCell ⟨bB, 0, none⟩ u) :=
  M.same fun D _ h => C.obj hg u h rfl
theorem CanSt.kpG (C : CanSt W0 gG mB bG bB hv vm vd l bs v w) (hg : Grows w w' v v') (u : Value) {Bh Bo : Nat} {ch co : Array Value} (bh : Blk w Bh 27 ch) (bo : Blk w Bo 50 co) :
    KpG W0.heap.size Bh Bo w (w'.setCell ⟨bB, 0, none⟩ u) :=
  ⟨hg.g.os, hg.g.tape, hg.g.output, by simp [World.setCell]; exact hg.size, fun k hk => C.other hg (Nat.lt_of_lt_of_le hk C.gst.base.size) (fun e => by have := (C.own.lt k e).1; omega) (by have := C.hb; omega) u,
    C.blk hg u bh (by decide) (by decide), C.blk hg u bo (by decide) (by decide), fun g cs b => b.same (C.blk hg u b (by decide) (by decide))⟩
theorem CanSt.keeps (C : CanSt W0 gG mB bG bB hv vm vd l bs v w) (hg : Grows w w' v v') (u : Value) (B : Nat) : KeepsFrom B w (w'.setCell ⟨bB, 0, none⟩ u) :=
  ⟨by simp [World.setCell]; exact hg.size, fun k o _ ho hc => C.obj hg u ho hc⟩
/-- The loops over functions keep it. -/
theorem CanSt.own' {B : Nat} {row : Option Nat} (C : CanSt W0 gG mB bG bB hv vm vd l bs v w) (hm : mB < B) (hB : W0.heap.size ≤ B) (hg : w.grownBy w' row) (hr : ∀ r, row = some r → B ≤ r ∧ ∃ o : Obj, w.heap[r]? = some o ∧ o.isCells = false) : CanSt W0 gG mB bG bB hv vm vd l bs v w' :=
  ⟨C.gst.own' hm hB hg hr, blk_own' C.bb hg hr, own_same C.own (fun k hk => hg.block k (C.own.lt k hk).2 (fun e => by
    obtain ⟨_, o, ho, hc⟩ := hr k e.symm
    obtain ⟨o', ho', hc'⟩ := own_cells C.own hk
    rw [ho'] at ho; injection ho with ho; subst ho; rw [hc'] at hc; cases hc)), C.hb⟩
theorem CanSt.reads (C : CanSt W0 gG mB bG bB hv vm vd l bs v w) : ∃ A c, v = .slice A bs.length c ∧ Reads w w.heap.size 1 A bs.length (u8c bs) := own_slice C.own
end
theorem own_readsA {w : World} {base : Nat} {e : TypeId} {A : Option Addr} {n c : Nat} {xs : List Value} (h : w.ownsRow base e 1 (.slice A n c) n xs) : Reads w w.heap.size 1 A n xs := by
  obtain ⟨A', c', e, hr⟩ := own_slice h
  injection e with e1
  subst e1
  exact hr
theorem wrap8_mod (z : Int) : IntKind.u8.wrap z = z % 256 := by
  unfold IntKind.wrap
  simp [IntKind.signed, show IntKind.u8.bits = 8 from rfl]
/-- What an append onto a row, or another deed of that kind, keeps. -/
theorem far_append {w cur w' : World} {v : Value} (hb : Below w.heap.size w cur) (hg : cur.grownBy w' v.ownBlock) : ∀ k, k < w.heap.size → v.ownBlock ≠ some k → w'.heap[k]? = w.heap[k]? :=
  fun k hk hn => (hg.block k (Nat.lt_of_lt_of_le hk hb.size) (fun e => hn e.symm)).trans (hb.block k hk)
theorem row_two' {cur : World} {B a : Nat} {t : TypeId} {x y : Value} (h : cur.heap[a]? = some (.cells #[x, y] t (0, 0))) (hB : a < B) : Reads cur B 1 (some ⟨a, 0, none⟩) 2 [x, y] := by
  refine ⟨rfl, fun _ => ⟨_, rfl, hB, fun j u hu => ?_⟩⟩
  rw [WideShapes.add_plain, Nat.zero_add, cell_of_row cur a j #[x, y] t (0, 0) h]
  simpa using hu
theorem row_one' {cur : World} {B a : Nat} {t : TypeId} {x : Value} (h : cur.heap[a]? = some (.cells #[x] t (0, 0))) (hB : a < B) : Reads cur B 1 (some ⟨a, 0, none⟩) 1 [x] := by
  refine ⟨rfl, fun _ => ⟨_, rfl, hB, fun j u hu => ?_⟩⟩
  rw [WideShapes.add_plain, Nat.zero_add, cell_of_row cur a j #[x] t (0, 0) h]
  simpa using hu
/-- The bytes of an object, as Bytes hands them out. -/
theorem bytesP_reads {w : World} {g c len : Nat} {xs : List Nat} (hr : Row w g 5 c (u8c xs)) (hl : len ≤ xs.length) : Reads w w.heap.size 1 (some ⟨g, 0, none⟩) len (u8c (xs.take len)) := by
  refine ⟨by simp [u8c]; omega, fun _ => ⟨_, rfl, hr.lt, fun j u hu => ?_⟩⟩
  rw [WideShapes.add_plain, Nat.zero_add]
  refine hr.cell ?_
  unfold u8c at hu ⊢
  rw [List.getElem?_map] at hu ⊢
  rw [List.getElem?_take] at hu
  split at hu
  · exact hu
  · cases hu
theorem good_bytesE {h : HM} {ls : List Ob} (G : h.Good ls) {o : Nat} (hi : h.isB o = true) (h2 : (h.hd (o / 2)).fmt = 2) : h.bytesE o = 0 := by
  obtain ⟨a, b, c, rfl, rfl⟩ := (G.laid.isB_iff o).1 hi
  have L := G.laid
  unfold HM.bytesE
  rw [half_pos, L.hd_at] at *
  rw [if_neg (by simp [hi]), if_pos h2, L.fields_at]
  exact G.sound.spare b (by simp) h2
theorem bytes_room {h : HM} {ls : List Ob} (G : h.Good ls) {o : Nat} (hi : h.isB o = true) (h2 : (h.hd (o / 2)).fmt = 2) : (h.hd (o / 2)).len ≤ (bytesM (h.fields o)).length := by
  rw [bytesM_len, HM.fields_len (HM.isB_hd G.laid.heads hi)]
  unfold Hd.len
  rw [if_pos h2]
  omega
theorem word_good {w : World} {p : HP} {h : HM} (H : HAt w p h) (f : h.Fit) (hh : h.Heads) (hs : Spares w) {o : Nat} (ho : o < 4294967296) (hi : h.isB o = true) (h3 : (h.hd (o / 2)).fmt = 3) {k : Nat} (hk : k < (h.hd (o / 2)).size) :
    Calls Tryd.prog 20 #[ptr p.g, .int .u32 o, .int .i64 k] w (Told (.tuple #[.int .u32 (fw h o k : Nat), .int .i64 0]) w) := by
  have hG := word_any H f hh hs o ho (k : Int)
  have hln : (h.hd (o / 2)).len = (h.hd (o / 2)).size := by unfold Hd.len; rw [if_neg (by omega)]
  have he : h.lookE o (k : Int) [3] = 0 := by
    unfold HM.lookE
    rw [hi, if_neg (by decide), if_neg (by rw [h3]; decide), if_neg (by omega)]
  unfold HM.readV at hG
  rw [he] at hG
  exact hG
theorem row_two {w : World} {t : TypeId} {a b : Value} : Reads (w.alloc (.cells #[a, b] t)) (w.heap.size + 1) 1 (some ⟨w.heap.size, 0, none⟩) 2 [a, b] := by
  refine ⟨rfl, fun _ => ⟨_, rfl, by simp, fun j u hu => ?_⟩⟩
  rw [WideShapes.add_plain, Nat.zero_add, (Blk.new w t #[a, b]).cell j]
  simpa using hu
end Go.Proofs.YtpajpdjjpgbklaaDoor
