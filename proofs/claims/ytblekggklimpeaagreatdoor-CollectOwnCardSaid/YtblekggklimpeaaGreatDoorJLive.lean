/- A heap of the program's, all of it new since a world W: what each call does with it. The contracts of the heap's functions with their side conditions shut. -/
/- Load and Same of a heap that is new. -/
/- A script in memory; what a call of a script keeps. -/
/- SameWords, SameOops, sameBytes: two lists are the same. -/
import Derived.Test.YtblekggklimpeaaGreatDoorJMake
import Derived.Test.YtblekggklimpeaaGreatDoorJShow
import Derived.Test.YtblekggklimpeaaGreatDoorJLoad2
import Derived.Test.YtblekggklimpeaaGreatDoorJOop
import Derived.Test.YtblekggklimpeaaGreatDoorJMem
import Derived.RegionTactic
set_option linter.unusedVariables false
set_option linter.unusedSectionVars false
namespace Go.Proofs.YtblekggklimpeaaGreatDoor
open Go.RowKit

/-- The package-level tables are as the program lays them. -/
structure Env (w : World) : Prop where
  spares : Spares w
  pow : Pow w
theorem Pow.lt {w : World} (h : Pow w) : 0 < w.heap.size := Spares.lt h
theorem Env.below {w w' : World} (E : Env w) (hb : Below w.heap.size w w') : Env w' := ⟨E.spares.below hb, E.pow.below hb⟩
theorem Env.step {p p' : HP} {w w' : World} (E : Env w) (s : Step p p' w w') (hp : Far p) : Env w' := ⟨s.spares hp E.spares, s.pow hp E.pow⟩
theorem Env.far {W : World} (E : Env W) {p : HP} (hn : ∀ k, p.has k → W.heap.size ≤ k) : Far p := fun k hk => by
  have h1 := hn k hk
  have h2 := E.spares.lt
  have h3 := E.pow.lt
  exact ⟨by omega, by omega⟩

structure Live (W w : World) (p : HP) (g : Nat) (h : HM) : Prop where
  at_ : HAt w p h
  hg : p.g = g
  good : ∃ l, h.Good l
  env : Env W
  new : ∀ k, p.has k → W.heap.size ≤ k
  below : Below W.heap.size W w

section
variable {W w w' : World} {p p' : HP} {g : Nat} {h h' : HM}
theorem Live.fit (L : Live W w p g h) : h.Fit := by obtain ⟨l, G⟩ := L.good; exact G.fit
theorem Live.heads (L : Live W w p g h) : h.Heads := by obtain ⟨l, G⟩ := L.good; exact G.laid.heads
theorem Live.far (L : Live W w p g h) : Far p := L.env.far L.new
theorem Live.envw (L : Live W w p g h) : Env w := L.env.below L.below
theorem Live.after (L : Live W w p g h) (hb : Below w.heap.size w w') : Live W w' p g h :=
  ⟨L.at_.below hb, L.hg, L.good, L.env, L.new, below_top L.below hb⟩
theorem Live.step (L : Live W w p g h) (H : HAt w' p' h') (s : Step p p' w w') (G : ∃ l, h'.Good l) : Live W w' p' g h' :=
  ⟨H, s.g.trans L.hg, G, L.env, fun k hk => (s.rows k hk).elim (L.new k) (fun hk => Nat.le_trans L.below.size hk), s.below L.below L.new⟩
/-- A row that is not the heap's stays as it is. -/
theorem Step.row {e : TypeId} {gr c : Nat} {xs : List Value} (s : Step p p' w w') (hr : Row w gr e c xs) (hn : ¬ p.has gr) : Row w' gr e c xs ∧ ¬ p'.has gr :=
  ⟨hr.same (s.block gr hr.lt hn), fun hh => by
    rcases s.rows gr hh with hh | hh
    · exact hn hh
    · have := hr.lt; omega⟩
theorem Step.reads {size n : Nat} {A : Option Addr} {xs : List Value} {B : Nat} (s : Step p p' w w') (hr : Reads w B size A n xs) (hB : B ≤ w.heap.size) (hn : ∀ k, p.has k → B ≤ k) : Reads w' B size A n xs :=
  hr.keep fun q hq => World.cell?_of_block (s.block q.block (by omega) (fun hh => by have := hn _ hh; omega))

/-- What New gives. -/
theorem Live.of_new {n : Nat} {v : Nat → Value} {d : Ending} (E : Env W) (h1 : 64 ≤ n) (h2 : n ≤ 1048576) (H : NewHeap HAt v (HM.new n) W d w') :
    ∃ p g, d = .returned (v g) ∧ Live W w' p g (HM.new n) := by
  obtain ⟨p, hd, H1, hn, hb⟩ := H
  exact ⟨p, p.g, hd, H1, rfl, ⟨[], HM.new_good h1 h2 (HM.new_fit h1 h2)⟩, E, hn, hb⟩

def HM.AllocO (h : HM) (c : Nat) (f n : Int) : Nat := if h.AllocE c f n = 0 then 2 * h.words.length else 0
def HM.makeO (h : HM) (c : Nat) (bs : List Nat) : Nat := if h.makeE c bs = 0 then 2 * h.words.length else 0
theorem HM.AllocV_eq (h : HM) (c : Nat) (f n : Int) : h.AllocV c f n = .tuple #[.int .u32 (h.AllocO c f n : Nat), .int .i64 (h.AllocE c f n : Nat)] := by
  unfold HM.AllocV HM.AllocO HM.AllocE
  by_cases hok : allocOk f n = true
  · rw [if_pos hok, if_pos hok]; rfl
  · rw [if_neg hok, if_neg hok]; rfl
theorem HM.makeV_eq (h : HM) (c : Nat) (bs : List Nat) : h.makeV c bs = .tuple #[.int .u32 (h.makeO c bs : Nat), .int .i64 (h.makeE c bs : Nat)] := rfl

/-- A deed's end at law level. -/
def Done (W : World) (p : HP) (g : Nat) (h' : HM) (v : Value) (w : World) (e : Ending) (w' : World) : Prop :=
  ∃ p', e = .returned v ∧ Live W w' p' g h' ∧ Step p p' w w'
theorem Live.of_made {v : Value} {d : Ending} (L : Live W w p g h) (G : ∃ l, h'.Good l) (H : Made p h' v w d w') : Done W p g h' v w d w' := by
  obtain ⟨p', rfl, H', s⟩ := H
  exact ⟨p', rfl, L.step H' s G, s⟩
theorem Live.of_deed {E : Nat} {d : Ending} (L : Live W w p g h) (G : ∃ l, h'.Good l) (H : Deeds p h' E w d w') : Done W p g h' (.int .i64 E) w d w' := by
  obtain ⟨rfl, H', s⟩ := H
  exact ⟨p, rfl, L.step H' s G, s⟩

theorem Live.alloc (L : Live W w p g h) (c : Nat) (hc : c < 4294967296) (t n : Int) :
    Calls Tryz.prog 23 #[.pointer (some ⟨g, 0, none⟩), .int .u32 c, .int .i64 t, .int .i64 n] w (Done W p g (h.AllocH c t n) (.tuple #[.int .u32 (h.AllocO c t n : Nat), .int .i64 (h.AllocE c t n : Nat)]) w) := by
  have hh := Alloc_any L.at_ L.fit L.envw.spares L.far c hc t n
  rw [L.hg, HM.AllocV_eq] at hh
  exact hh.mono fun _ _ H => L.of_made (by obtain ⟨l, G⟩ := L.good; exact G.AllocH c t n hc) H
theorem Live.put (L : Live W w p g h) (o : Nat) (ho : o < 4294967296) (i : Int) (v : Nat) (hv : v < 4294967296) :
    Calls Tryz.prog 24 #[.pointer (some ⟨g, 0, none⟩), .int .u32 o, .int .i64 i, .int .u32 v] w (Done W p g (h.putH o i v) (.int .i64 (h.putE o i v : Nat)) w) := by
  have hh := put_any L.at_ L.fit L.heads L.envw.spares o ho i v hv
  rw [L.hg] at hh
  exact hh.mono fun _ _ H => L.of_deed (by obtain ⟨l, G⟩ := L.good; obtain ⟨l', G', _⟩ := G.putH o i v hv; exact ⟨l', G'⟩) H
theorem Live.setClass (L : Live W w p g h) (o : Nat) (ho : o < 4294967296) (v : Nat) (hv : v < 4294967296) :
    Calls Tryz.prog 61 #[.pointer (some ⟨g, 0, none⟩), .int .u32 o, .int .u32 v] w (Done W p g (h.setClassH o v) (.int .i64 (h.setClassE o v : Nat)) w) := by
  have hh := setClass_any L.at_ L.fit L.heads o ho v hv
  rw [L.hg] at hh
  exact hh.mono fun _ _ H => L.of_deed (by obtain ⟨l, G⟩ := L.good; obtain ⟨l', G', _⟩ := G.setClassH o v hv; exact ⟨l', G'⟩) H
theorem Live.setRoot (L : Live W w p g h) (i : Int) (v : Nat) (hv : v < 4294967296) :
    Calls Tryz.prog 25 #[.pointer (some ⟨g, 0, none⟩), .int .i64 i, .int .u32 v] w (Done W p g (h.setRootH i v) (.int .i64 (h.setRootE i v : Nat)) w) := by
  have hh := setRoot_any L.at_ L.fit i v hv
  rw [L.hg] at hh
  exact hh.mono fun _ _ H => L.of_deed (by obtain ⟨l, G⟩ := L.good; exact ⟨l, G.setRootH i v hv⟩) H

/-- What only reads. -/
def Told (v : Value) (w : World) (e : Ending) (w' : World) : Prop := e = .returned v ∧ Below w.heap.size w w'
theorem Live.get (L : Live W w p g h) (o : Nat) (ho : o < 4294967296) (i : Int) :
    Calls Tryz.prog 62 #[.pointer (some ⟨g, 0, none⟩), .int .u32 o, .int .i64 i] w (Told (.tuple #[.int .u32 (h.readN o i [1, 4] : Nat), .int .i64 (h.lookE o i [1, 4] : Nat)]) w) := by
  have hh := get_any L.at_ L.fit L.heads L.envw.spares o ho i
  rw [L.hg] at hh
  exact hh
def HM.showS (h : HM) (o : Nat) : List UInt8 := if h.isB o then h.showT o else []
def HM.isE (h : HM) (o : Nat) : Nat := if h.isB o then 0 else 3
def HM.hdO (h : HM) (o : Nat) : Hd := if h.isB o then h.hd (o / 2) else ⟨0, 0, 0, 0, 0⟩
theorem HM.headerV_eq (h : HM) (o : Nat) : h.headerV o = .tuple #[(h.hdO o).val, .int .i64 (h.isE o : Nat)] := by
  unfold HM.headerV HM.hdO HM.isE; cases h.isB o <;> rfl
theorem Live.header (L : Live W w p g h) (o : Nat) (ho : o < 4294967296) :
    Calls Tryz.prog 77 #[.pointer (some ⟨g, 0, none⟩), .int .u32 o] w (Told (.tuple #[(h.hdO o).val, .int .i64 (h.isE o : Nat)]) w) := by
  have hh := Header_any L.at_ L.fit L.heads L.envw.spares o ho
  rw [L.hg, HM.headerV_eq] at hh
  exact hh
def HM.lenN (h : HM) (o : Nat) : Nat := if h.isB o then (h.hd (o / 2)).len else 0
def HM.nextN (h : HM) (o : Nat) : Nat := if h.isB o then h.nextO o else 0
theorem Live.next (L : Live W w p g h) (o : Nat) (ho : o < 4294967296) :
    Calls Tryz.prog 73 #[.pointer (some ⟨g, 0, none⟩), .int .u32 o] w (Told (.tuple #[.int .u32 (h.nextN o : Nat), .int .i64 (h.isE o : Nat)]) w) := by
  have hh := next_any L.at_ L.fit L.heads L.envw.spares o ho
  rw [L.hg, show h.nextV o = .tuple #[.int .u32 (h.nextN o : Nat), .int .i64 (h.isE o : Nat)] by
    unfold HM.nextV HM.nextN HM.isE; cases h.isB o <;> rfl] at hh
  exact hh
/-- What reads and makes nothing. -/
def Said (v : Value) (w : World) (e : Ending) (w' : World) : Prop := e = .returned v ∧ w = w'
theorem Live.is (L : Live W w p g h) (o : Nat) (ho : o < 4294967296) :
    Calls Tryz.prog 39 #[.pointer (some ⟨g, 0, none⟩), .int .u32 o] w (Said (.bool (h.isB o)) w) := by
  have hh := is_any L.at_ L.fit o ho
  rw [L.hg] at hh
  exact hh
theorem Live.size (L : Live W w p g h) : Calls Tryz.prog 33 #[.pointer (some ⟨g, 0, none⟩)] w (Said (.int .i64 (h.size : Nat)) w) := by
  have hh := size_any L.at_ L.fit
  rw [L.hg] at hh
  exact hh
theorem Live.top (L : Live W w p g h) : Calls Tryz.prog 27 #[.pointer (some ⟨g, 0, none⟩)] w (Said (.int .i64 (h.words.length : Nat)) w) := by
  have hh := top_any L.at_ L.fit
  rw [L.hg] at hh
  exact hh
theorem Live.last (L : Live W w p g h) : Calls Tryz.prog 34 #[.pointer (some ⟨g, 0, none⟩)] w (Said (.int .u32 (h.last : Nat)) w) := by
  have hh := last_any L.at_ L.fit
  rw [L.hg] at hh
  exact hh
theorem Live.first (L : Live W w p g h) : Calls Tryz.prog 72 #[.pointer (some ⟨g, 0, none⟩)] w (Said (.int .u32 (h.objM 1 : Nat)) w) := by
  have hh := first_any L.at_ L.fit
  rw [L.hg] at hh
  exact hh
def HM.rootN (h : HM) (i : Int) : Nat := if rootOk i then h.roots.getD i.toNat 0 else 0
def rootE (i : Int) : Nat := if rootOk i then 0 else 1
theorem Live.root (L : Live W w p g h) (i : Int) : Calls Tryz.prog 26 #[.pointer (some ⟨g, 0, none⟩), .int .i64 i] w (Said (.tuple #[.int .u32 (h.rootN i : Nat), .int .i64 (rootE i : Nat)]) w) := by
  have hh := root_any L.at_ L.fit i
  rw [L.hg, show h.rootV i = .tuple #[.int .u32 (h.rootN i : Nat), .int .i64 (rootE i : Nat)] by
    unfold HM.rootV HM.rootN rootE; cases rootOk i <;> rfl] at hh
  exact hh
theorem Live.words (L : Live W w p g h) : Calls Tryz.prog 32 #[.pointer (some ⟨g, 0, none⟩)] w (NewRow 24 (u32s h.words) w) := by
  have hh := words_any L.at_ L.fit
  rw [L.hg] at hh
  exact hh
theorem Live.roots (L : Live W w p g h) : Calls Tryz.prog 35 #[.pointer (some ⟨g, 0, none⟩)] w (NewRow 43 (u32s h.roots) w) := by
  have hh := roots_any L.at_ L.fit
  rw [L.hg] at hh
  exact hh
end
end Go.Proofs.YtblekggklimpeaaGreatDoor

namespace Go.Proofs.YtblekggklimpeaaGreatDoor
open Go.RowKit

theorem Live.load {W w : World} {p : HP} {g : Nat} {h : HM} (L : Live W w p g h) (A : Option Addr) (n c : Nat) (ws : List Nat) (hn : n ≤ 9223372036854775807) (hr : Reads w w.heap.size 1 A n (u32s ws)) (h32 : ∀ x ∈ ws, x < 4294967296)
    (A' : Option Addr) (n' c' : Nat) (rs : List Nat) (hn' : n' ≤ 9223372036854775807) (hr' : Reads w w.heap.size 1 A' n' (u32s rs)) (h32' : ∀ x ∈ rs, x < 4294967296) (last : Nat) (hl : last < 4294967296) :
    Calls Tryz.prog 22 #[.pointer (some ⟨g, 0, none⟩), .slice A n c, .slice A' n' c', .int .u32 last] w (Done W p g (h.loadH ws rs last) (.int .i64 (loadE h.size ws rs last : Nat)) w) := by
  have hh := Load_any L.at_ L.fit L.envw.spares (fun k hk => by
    have h1 := L.envw.spares.lt
    have h2 := L.envw.pow.lt
    exact ⟨by omega, by omega⟩) A n c ws hn hr h32 A' n' c' rs hn' hr' h32' last hl
  rw [L.hg] at hh
  refine hh.mono fun _ _ H => L.of_made ?_ H
  unfold HM.loadH
  by_cases he : loadE h.size ws rs last = 0
  · rw [if_pos he]
    unfold loadE at he
    split at he
    · omega
    · rename_i hb
      split at he
      · rename_i hok
        obtain ⟨l, hp, S⟩ := hok
        have f := L.fit
        exact ⟨l, HM.ofWords_good f.lo f.hi h32 h32' (by omega) hl (by omega) hp S⟩
      · omega
  · rw [if_neg he]; exact L.good
theorem HM.Good.load_self {h h0 : HM} {l : List Ob} (G : h.Good l) (hs : h0.size = h.size) : loadE h0.size h.words h.roots h.last = 0 ∧ h0.loadH h.words h.roots h.last = h := by
  have e := loadE_ok (size := h0.size) (ws := h.words) (rs := h.roots) (last := h.last) (by
    have := G.fit.one; have := G.fit.room; have := G.fit.roots
    omega) (by rw [hs]; exact G.loadOk)
  refine ⟨e, ?_⟩
  unfold HM.loadH
  rw [if_pos e, hs]
  exact G.ofWords.1

end Go.Proofs.YtblekggklimpeaaGreatDoor

namespace Go.Proofs.YtblekggklimpeaaGreatDoor
open Go.RowKit

def Dd.val (d : Dd) (A : Option Addr) (n c : Nat) : Value :=
  .agg #[.int .i64 d.k, .int .u32 (d.o : Nat), .int .u32 (d.v : Nat), .int .i64 d.f, .int .i64 d.i, .int .i64 d.n, .int .u32 (d.w : Nat), .slice A n c]

def Dd.vals (d : Dd) (A : Option Addr) (n c : Nat) : List Value :=
  [.int .i64 d.k, .int .u32 (d.o : Nat), .int .u32 (d.v : Nat), .int .i64 d.f, .int .i64 d.i, .int .i64 d.n, .int .u32 (d.w : Nat), .slice A n c]
/-- A script lies in memory, below block B. -/
def DeedsAt (w : World) (B : Nat) (A : Option Addr) (ds : List Dd) : Prop :=
  ∀ i d, ds[i]? = some d → d.Fit ∧ ∃ ad Ab nb cb, A = some ad ∧ ad.block < B ∧ nb ≤ 9223372036854775807 ∧ Reads w B 1 Ab nb (u8c d.b) ∧ ∀ j v, (d.vals Ab nb cb)[j]? = some v → w.cell? (ad.add (i * 8 + j)) = some v
section
variable {w w' : World} {p p' : HP} {B : Nat} {A : Option Addr} {ds : List Dd}
theorem DeedsAt.keep (h : DeedsAt w B A ds) (hk : ∀ q : Addr, q.block < B → w'.cell? q = w.cell? q) : DeedsAt w' B A ds := by
  intro i d hd
  obtain ⟨f, ad, Ab, nb, cb, h1, h2, h3, h4, h5⟩ := h i d hd
  exact ⟨f, ad, Ab, nb, cb, h1, h2, h3, h4.keep hk, fun j v hv => (hk _ (by rw [block_of_add]; exact h2)).trans (h5 j v hv)⟩
theorem DeedsAt.below (h : DeedsAt w B A ds) (hb : Below B w w') : DeedsAt w' B A ds := h.keep fun _ hq => hb.cell hq
theorem DeedsAt.fit (h : DeedsAt w B A ds) : ∀ d ∈ ds, d.Fit := fun d hd => by
  obtain ⟨i, hi⟩ := List.getElem?_of_mem hd
  exact (h i d hi).1
theorem cell_add {a : Addr} {j : Nat} {v : Value} (h : w.cell? (a.add j) = some v) (hj : 0 < j) : w.cell? ⟨a.block, a.off + j, none⟩ = some v := by
  unfold Addr.add at h
  rw [if_neg (by omega)] at h
  exact h
theorem DeedsAt.load (h : DeedsAt w B A ds) {i : Nat} {d : Dd} (hd : ds[i]? = some d) :
    ∃ ad Ab nb cb, A = some ad ∧ ad.block < B ∧ nb ≤ 9223372036854775807 ∧ Reads w B 1 Ab nb (u8c d.b) ∧
      w.cell? (ad.add (i * 8)) = some (.int .i64 d.k) ∧ w.cell? ⟨(ad.add (i * 8)).block, (ad.add (i * 8)).off + 1, none⟩ = some (.int .u32 (d.o : Nat)) ∧
      w.cell? ⟨(ad.add (i * 8)).block, (ad.add (i * 8)).off + 2, none⟩ = some (.int .u32 (d.v : Nat)) ∧ w.cell? ⟨(ad.add (i * 8)).block, (ad.add (i * 8)).off + 3, none⟩ = some (.int .i64 d.f) ∧
      w.cell? ⟨(ad.add (i * 8)).block, (ad.add (i * 8)).off + 4, none⟩ = some (.int .i64 d.i) ∧ w.cell? ⟨(ad.add (i * 8)).block, (ad.add (i * 8)).off + 5, none⟩ = some (.int .i64 d.n) ∧
      w.cell? ⟨(ad.add (i * 8)).block, (ad.add (i * 8)).off + 6, none⟩ = some (.int .u32 (d.w : Nat)) ∧ w.cell? ⟨(ad.add (i * 8)).block, (ad.add (i * 8)).off + 7, none⟩ = some (.slice Ab nb cb) := by
  obtain ⟨f, ad, Ab, nb, cb, h1, h2, h3, h4, h5⟩ := h i d hd
  have h6 : ∀ j v, 0 < j → (d.vals Ab nb cb)[j]? = some v → w.cell? ⟨(ad.add (i * 8)).block, (ad.add (i * 8)).off + j, none⟩ = some v := fun j v hj hv =>
    cell_add (by rw [add_of_add]; exact h5 j v hv) hj
  exact ⟨ad, Ab, nb, cb, h1, h2, h3, h4, h5 0 _ rfl, h6 1 _ (by omega) rfl, h6 2 _ (by omega) rfl, h6 3 _ (by omega) rfl, h6 4 _ (by omega) rfl, h6 5 _ (by omega) rfl, h6 6 _ (by omega) rfl, h6 7 _ (by omega) rfl⟩
end

theorem own_step {W w w' : World} {p p' : HP} {base n : Nat} {e : TypeId} {v : Value} {xs : List Value} (s : Step p p' w w') (h : w.ownsRow base e 1 v n xs) (ha : ∀ k, v.ownBlock = some k → ¬ p.has k) :
    w'.ownsRow base e 1 v n xs ∧ ∀ k, v.ownBlock = some k → ¬ p'.has k := by
  have hlt := h.lt
  refine ⟨⟨h.1, ?_⟩, fun k hk hh => ?_⟩
  · rcases h.2 with h2 | ⟨g, cap, cur, rfl, hb, hh, r⟩
    · exact .inl h2
    · exact .inr ⟨g, cap, cur, rfl, hb, (s.block g (hlt g rfl).2 (ha g rfl)).trans hh, r⟩
  · rcases s.rows k hh with hh | hh
    · exact ha k hk hh
    · have := (hlt k hk).2; omega
theorem Live.grown {W w w' : World} {p : HP} {g : Nat} {h : HM} {row : Option Nat} (L : Live W w p g h) (hg : w.grownBy w' row) (hr : ∀ k, row = some k → ¬ p.has k ∧ W.heap.size ≤ k) : Live W w' p g h :=
  ⟨L.at_.same fun k hk => hg.block k (L.at_.lt hk) (fun e => (hr k e.symm).1 hk), L.hg, L.good, L.env, L.new,
    ⟨hg.os.trans L.below.os, hg.tape.trans L.below.tape, hg.output.trans L.below.output, Nat.le_trans L.below.size hg.size, fun k hk =>
      (hg.block k (by have := L.below.size; omega) (fun e => by have := (hr k e.symm).2; omega)).trans (L.below.block k hk)⟩⟩
theorem HM.new_scr {n : Nat} (h1 : 64 ≤ n) (h2 : n ≤ 1048576) : (HM.new n).Scr [] := ⟨HM.new_good h1 h2 (HM.new_fit h1 h2), rfl⟩
theorem runM_len {n : Nat} (h1 : 64 ≤ n) (h2 : n ≤ 1048576) (ds : List Dd) (fd : ∀ d ∈ ds, d.Fit) : ((HM.new n).runM ds).length < 349526 := by
  obtain ⟨l, s, _, _, hl, _⟩ := (HM.new_scr h1 h2).run ds fd
  have := s.len
  have := s.last_lt
  simp at hl
  omega
theorem take_snoc {α : Type} {ds : List α} {k : Nat} {d : α} (hd : ds[k]? = some d) : ds.take (k + 1) = ds.take k ++ [d] := by
  rw [List.take_add_one, hd]; rfl

theorem ret_bool {a : Bool} (h : a = true) : Ending.returned (.bool a) = .returned (.bool true) := by rw [h]
end Go.Proofs.YtblekggklimpeaaGreatDoor

namespace Go.Proofs.YtblekggklimpeaaGreatDoor
open Go.RowKit

theorem u8c_lenS (l : List Nat) : (u8c l).length = l.length := by simp [u8c]
theorem u8c_get {l : List Nat} {i : Nat} (h : i < l.length) : (u8c l)[i]? = some (.int .u8 ((l.getD i 0 : Nat) : Int)) := by
  simp [u8c, List.getD, h]

end Go.Proofs.YtblekggklimpeaaGreatDoor
