/- A heap of the program's, all of it new since a world W: what each call does with it. The contracts of the heap's functions with their side conditions shut. -/
import Derived.Test.YtkpjkbkglnabiaaGreatDoorJLaid
import Derived.Test.YtkpjkbkglnabiaaGreatDoorShow
set_option linter.unusedVariables false
namespace Go.Proofs.YtkpjkbkglnabiaaGreatDoor
open Go.RowKit

/-- The package-level tables are as the program lays them. -/
structure Env (w : World) : Prop where
  spares : Spares w
  pow : Pow w
theorem Pow.lt {w : World} (h : Pow w) : 1 < w.heap.size := by
  have c := Lib.TabIs.cell h pow_named 0 (by decide)
  exact World.block_lt_of_cell? _ _ c
theorem Env.below {w w' : World} (E : Env w) (hb : Below w.heap.size w w') : Env w' := ⟨E.spares.below hb, E.pow.below hb⟩
theorem Env.step {p p' : HP} {w w' : World} (E : Env w) (s : Step p p' w w') (hp : Far p) : Env w' := ⟨s.spares hp E.spares, s.pow hp E.pow⟩
theorem Env.far {W : World} (E : Env W) {p : HP} (hn : ∀ k, p.has k → W.heap.size ≤ k) : Far p := fun k hk => by
  have h1 := hn k hk
  have h2 := E.spares.lt
  have h3 := E.pow.lt
  exact ⟨by omega, by omega⟩

structure Live (W w : World) (p : HP) (g : Nat) (h : HM) : Prop where
  at_ : HAt w p h
  hg : p.g = g
  good : ∃ l, h.Good l
  env : Env W
  new : ∀ k, p.has k → W.heap.size ≤ k
  below : Below W.heap.size W w

section
variable {W w w' : World} {p p' : HP} {g : Nat} {h h' : HM}
theorem Live.fit (L : Live W w p g h) : h.Fit := by obtain ⟨l, G⟩ := L.good; exact G.fit
theorem Live.heads (L : Live W w p g h) : h.Heads := by obtain ⟨l, G⟩ := L.good; exact G.laid.heads
theorem Live.far (L : Live W w p g h) : Far p := L.env.far L.new
theorem Live.envw (L : Live W w p g h) : Env w := L.env.below L.below
theorem Live.after (L : Live W w p g h) (hb : Below w.heap.size w w') : Live W w' p g h :=
  ⟨L.at_.below hb, L.hg, L.good, L.env, L.new, below_top L.below hb⟩
theorem Live.step (L : Live W w p g h) (H : HAt w' p' h') (s : Step p p' w w') (G : ∃ l, h'.Good l) : Live W w' p' g h' :=
  ⟨H, s.g.trans L.hg, G, L.env, fun k hk => (s.rows k hk).elim (L.new k) (fun hk => Nat.le_trans L.below.size hk), s.below L.below L.new⟩
/-- A row that is not the heap's stays as it is. -/
theorem Step.row {e : TypeId} {gr c : Nat} {xs : List Value} (s : Step p p' w w') (hr : Row w gr e c xs) (hn : ¬ p.has gr) : Row w' gr e c xs ∧ ¬ p'.has gr :=
  ⟨hr.same (s.block gr hr.lt hn), fun hh => by
    rcases s.rows gr hh with hh | hh
    · exact hn hh
    · have := hr.lt; omega⟩
theorem Step.reads {size n : Nat} {A : Option Addr} {xs : List Value} {B : Nat} (s : Step p p' w w') (hr : Reads w B size A n xs) (hB : B ≤ w.heap.size) (hn : ∀ k, p.has k → B ≤ k) : Reads w' B size A n xs :=
  hr.keep fun q hq => World.cell?_of_block (s.block q.block (by omega) (fun hh => by have := hn _ hh; omega))

/-- What New gives. -/
theorem Live.of_new {n : Nat} {v : Nat → Value} {d : Ending} (E : Env W) (h1 : 64 ≤ n) (h2 : n ≤ 1048576) (H : NewHeap HAt v (HM.new n) W d w') :
    ∃ p g, d = .returned (v g) ∧ Live W w' p g (HM.new n) := by
  obtain ⟨p, hd, H1, hn, hb⟩ := H
  exact ⟨p, p.g, hd, H1, rfl, ⟨[], HM.new_good h1 h2 (HM.new_fit h1 h2)⟩, E, hn, hb⟩

def HM.AllocO (h : HM) (c : Nat) (f n : Int) : Nat := if h.AllocE c f n = 0 then 2 * h.words.length else 0
def HM.makeO (h : HM) (c : Nat) (bs : List Nat) : Nat := if h.makeE c bs = 0 then 2 * h.words.length else 0
theorem HM.AllocV_eq (h : HM) (c : Nat) (f n : Int) : h.AllocV c f n = .tuple #[.int .u32 (h.AllocO c f n : Nat), .int .i64 (h.AllocE c f n : Nat)] := by
  unfold HM.AllocV HM.AllocO HM.AllocE
  by_cases hok : allocOk f n = true
  · rw [if_pos hok, if_pos hok]; rfl
  · rw [if_neg hok, if_neg hok]; rfl
theorem HM.makeV_eq (h : HM) (c : Nat) (bs : List Nat) : h.makeV c bs = .tuple #[.int .u32 (h.makeO c bs : Nat), .int .i64 (h.makeE c bs : Nat)] := rfl

/-- A deed's end at law level. -/
def Done (W : World) (p : HP) (g : Nat) (h' : HM) (v : Value) (w : World) (e : Ending) (w' : World) : Prop :=
  ∃ p', e = .returned v ∧ Live W w' p' g h' ∧ Step p p' w w'
theorem Live.of_made {v : Value} {d : Ending} (L : Live W w p g h) (G : ∃ l, h'.Good l) (H : Made p h' v w d w') : Done W p g h' v w d w' := by
  obtain ⟨p', rfl, H', s⟩ := H
  exact ⟨p', rfl, L.step H' s G, s⟩
theorem Live.of_deed {E : Nat} {d : Ending} (L : Live W w p g h) (G : ∃ l, h'.Good l) (H : Deeds p h' E w d w') : Done W p g h' (.int .i64 E) w d w' := by
  obtain ⟨rfl, H', s⟩ := H
  exact ⟨p, rfl, L.step H' s G, s⟩

theorem Live.alloc (L : Live W w p g h) (c : Nat) (hc : c < 4294967296) (t n : Int) :
    Calls Tryz.prog 23 #[.pointer (some ⟨g, 0, none⟩), .int .u32 c, .int .i64 t, .int .i64 n] w (Done W p g (h.AllocH c t n) (.tuple #[.int .u32 (h.AllocO c t n : Nat), .int .i64 (h.AllocE c t n : Nat)]) w) := by
  have hh := Alloc_any L.at_ L.fit L.envw.spares L.far c hc t n
  rw [L.hg, HM.AllocV_eq] at hh
  exact hh.mono fun _ _ H => L.of_made (by obtain ⟨l, G⟩ := L.good; exact G.AllocH c t n hc) H
theorem Live.make (L : Live W w p g h) (c : Nat) (hc : c < 4294967296) (A : Option Addr) (n cap : Nat) (bs : List Nat) (hn : n ≤ 9223372036854775807) (hr : Reads w w.heap.size 1 A n (u8c bs)) (hb : ∀ x ∈ bs, x < 256) :
    Calls Tryz.prog 24 #[.pointer (some ⟨g, 0, none⟩), .int .u32 c, .slice A n cap] w (Done W p g (h.makeH c bs) (.tuple #[.int .u32 (h.makeO c bs : Nat), .int .i64 (h.makeE c bs : Nat)]) w) := by
  have hh := Make_any L.at_ L.fit L.envw.spares L.far c hc A n cap _ bs hn hr (Nat.le_refl _) hb
  rw [L.hg, HM.makeV_eq] at hh
  exact hh.mono fun _ _ H => L.of_made (by obtain ⟨l, G⟩ := L.good; exact G.MakeH c bs hc hb) H
theorem Live.put (L : Live W w p g h) (o : Nat) (ho : o < 4294967296) (i : Int) (v : Nat) (hv : v < 4294967296) :
    Calls Tryz.prog 28 #[.pointer (some ⟨g, 0, none⟩), .int .u32 o, .int .i64 i, .int .u32 v] w (Done W p g (h.putH o i v) (.int .i64 (h.putE o i v : Nat)) w) := by
  have hh := put_any L.at_ L.fit L.heads L.envw.spares o ho i v hv
  rw [L.hg] at hh
  exact hh.mono fun _ _ H => L.of_deed (by obtain ⟨l, G⟩ := L.good; obtain ⟨l', G', _⟩ := G.putH o i v hv; exact ⟨l', G'⟩) H
theorem Live.setWord (L : Live W w p g h) (o : Nat) (ho : o < 4294967296) (i : Int) (v : Nat) (hv : v < 4294967296) :
    Calls Tryz.prog 36 #[.pointer (some ⟨g, 0, none⟩), .int .u32 o, .int .i64 i, .int .u32 v] w (Done W p g (h.setWordH o i v) (.int .i64 (h.lookE o i [3] : Nat)) w) := by
  have hh := setWord_any L.at_ L.fit L.heads L.envw.spares o ho i v hv
  rw [L.hg] at hh
  exact hh.mono fun _ _ H => L.of_deed (by obtain ⟨l, G⟩ := L.good; obtain ⟨l', G', _⟩ := G.setWordH o i v hv; exact ⟨l', G'⟩) H
theorem Live.setByte (L : Live W w p g h) (o : Nat) (ho : o < 4294967296) (i : Int) (v : Nat) (hv : v < 256) :
    Calls Tryz.prog 40 #[.pointer (some ⟨g, 0, none⟩), .int .u32 o, .int .i64 i, .int .u8 v] w (Done W p g (h.setByteH o i v) (.int .i64 (h.lookE o i [2] : Nat)) w) := by
  have hh := setByte_any L.at_ L.fit L.heads L.envw.spares o ho i v hv
  rw [L.hg] at hh
  exact hh.mono fun _ _ H => L.of_deed (by obtain ⟨l, G⟩ := L.good; obtain ⟨l', G', _⟩ := G.setByteH o i v hv; exact ⟨l', G'⟩) H
theorem Live.setClass (L : Live W w p g h) (o : Nat) (ho : o < 4294967296) (v : Nat) (hv : v < 4294967296) :
    Calls Tryz.prog 44 #[.pointer (some ⟨g, 0, none⟩), .int .u32 o, .int .u32 v] w (Done W p g (h.setClassH o v) (.int .i64 (h.setClassE o v : Nat)) w) := by
  have hh := setClass_any L.at_ L.fit L.heads o ho v hv
  rw [L.hg] at hh
  exact hh.mono fun _ _ H => L.of_deed (by obtain ⟨l, G⟩ := L.good; obtain ⟨l', G', _⟩ := G.setClassH o v hv; exact ⟨l', G'⟩) H
theorem Live.setRoot (L : Live W w p g h) (i : Int) (v : Nat) (hv : v < 4294967296) :
    Calls Tryz.prog 25 #[.pointer (some ⟨g, 0, none⟩), .int .i64 i, .int .u32 v] w (Done W p g (h.setRootH i v) (.int .i64 (h.setRootE i v : Nat)) w) := by
  have hh := setRoot_any L.at_ L.fit i v hv
  rw [L.hg] at hh
  exact hh.mono fun _ _ H => L.of_deed (by obtain ⟨l, G⟩ := L.good; exact ⟨l, G.setRootH i v hv⟩) H

/-- What only reads. -/
def Told (v : Value) (w : World) (e : Ending) (w' : World) : Prop := e = .returned v ∧ Below w.heap.size w w'
theorem Live.get (L : Live W w p g h) (o : Nat) (ho : o < 4294967296) (i : Int) :
    Calls Tryz.prog 26 #[.pointer (some ⟨g, 0, none⟩), .int .u32 o, .int .i64 i] w (Told (.tuple #[.int .u32 (h.readN o i [1, 4] : Nat), .int .i64 (h.lookE o i [1, 4] : Nat)]) w) := by
  have hh := get_any L.at_ L.fit L.heads L.envw.spares o ho i
  rw [L.hg] at hh
  exact hh
theorem Live.word (L : Live W w p g h) (o : Nat) (ho : o < 4294967296) (i : Int) :
    Calls Tryz.prog 34 #[.pointer (some ⟨g, 0, none⟩), .int .u32 o, .int .i64 i] w (Told (.tuple #[.int .u32 (h.readN o i [3] : Nat), .int .i64 (h.lookE o i [3] : Nat)]) w) := by
  have hh := word_any L.at_ L.fit L.heads L.envw.spares o ho i
  rw [L.hg] at hh
  exact hh
theorem Live.byte (L : Live W w p g h) (o : Nat) (ho : o < 4294967296) (i : Int) :
    Calls Tryz.prog 38 #[.pointer (some ⟨g, 0, none⟩), .int .u32 o, .int .i64 i] w (Told (.tuple #[.int .u8 (h.byteN o i : Nat), .int .i64 (h.lookE o i [2] : Nat)]) w) := by
  have hh := byte_any L.at_ L.fit L.heads L.envw.spares o ho i
  rw [L.hg] at hh
  exact hh
def HM.showS (h : HM) (o : Nat) : List UInt8 := if h.isB o then h.showT o else []
def HM.isE (h : HM) (o : Nat) : Nat := if h.isB o then 0 else 3
theorem Live.show (L : Live W w p g h) (o : Nat) (ho : o < 4294967296) :
    Calls Tryz.prog 27 #[.pointer (some ⟨g, 0, none⟩), .int .u32 o] w (Told (.tuple #[.string ⟨(h.showS o).toArray⟩, .int .i64 (h.isE o : Nat)]) w) := by
  have hh := show_any L.at_ L.fit L.heads L.envw.spares L.envw.pow o ho
  rw [L.hg, show h.showV o = .tuple #[.string ⟨(h.showS o).toArray⟩, .int .i64 (h.isE o : Nat)] by
    unfold HM.showV HM.showS HM.isE; cases h.isB o <;> rfl] at hh
  exact hh
def HM.hdO (h : HM) (o : Nat) : Hd := if h.isB o then h.hd (o / 2) else ⟨0, 0, 0, 0, 0⟩
theorem HM.headerV_eq (h : HM) (o : Nat) : h.headerV o = .tuple #[(h.hdO o).val, .int .i64 (h.isE o : Nat)] := by
  unfold HM.headerV HM.hdO HM.isE; cases h.isB o <;> rfl
theorem Live.header (L : Live W w p g h) (o : Nat) (ho : o < 4294967296) :
    Calls Tryz.prog 67 #[.pointer (some ⟨g, 0, none⟩), .int .u32 o] w (Told (.tuple #[(h.hdO o).val, .int .i64 (h.isE o : Nat)]) w) := by
  have hh := Header_any L.at_ L.fit L.heads L.envw.spares o ho
  rw [L.hg, HM.headerV_eq] at hh
  exact hh
def HM.lenN (h : HM) (o : Nat) : Nat := if h.isB o then (h.hd (o / 2)).len else 0
theorem Live.length (L : Live W w p g h) (o : Nat) (ho : o < 4294967296) :
    Calls Tryz.prog 89 #[.pointer (some ⟨g, 0, none⟩), .int .u32 o] w (Told (.tuple #[.int .i64 (h.lenN o : Nat), .int .i64 (h.isE o : Nat)]) w) := by
  have hh := Length_any L.at_ L.fit L.heads L.envw.spares o ho
  rw [L.hg] at hh
  exact hh
def HM.nextN (h : HM) (o : Nat) : Nat := if h.isB o then h.nextO o else 0
theorem Live.next (L : Live W w p g h) (o : Nat) (ho : o < 4294967296) :
    Calls Tryz.prog 90 #[.pointer (some ⟨g, 0, none⟩), .int .u32 o] w (Told (.tuple #[.int .u32 (h.nextN o : Nat), .int .i64 (h.isE o : Nat)]) w) := by
  have hh := next_any L.at_ L.fit L.heads L.envw.spares o ho
  rw [L.hg, show h.nextV o = .tuple #[.int .u32 (h.nextN o : Nat), .int .i64 (h.isE o : Nat)] by
    unfold HM.nextV HM.nextN HM.isE; cases h.isB o <;> rfl] at hh
  exact hh
theorem Live.bytes (L : Live W w p g h) (o : Nat) (ho : o < 4294967296) :
    Calls Tryz.prog 42 #[.pointer (some ⟨g, 0, none⟩), .int .u32 o] w (BytesP h o w) := by
  have hh := bytes_any L.at_ L.fit L.heads L.envw.spares o ho
  rw [L.hg] at hh
  exact hh
/-- What reads and makes nothing. -/
def Said (v : Value) (w : World) (e : Ending) (w' : World) : Prop := e = .returned v ∧ w = w'
theorem Live.is (L : Live W w p g h) (o : Nat) (ho : o < 4294967296) :
    Calls Tryz.prog 83 #[.pointer (some ⟨g, 0, none⟩), .int .u32 o] w (Said (.bool (h.isB o)) w) := by
  have hh := is_any L.at_ L.fit o ho
  rw [L.hg] at hh
  exact hh
theorem Live.size (L : Live W w p g h) : Calls Tryz.prog 49 #[.pointer (some ⟨g, 0, none⟩)] w (Said (.int .i64 (h.size : Nat)) w) := by
  have hh := size_any L.at_ L.fit
  rw [L.hg] at hh
  exact hh
theorem Live.top (L : Live W w p g h) : Calls Tryz.prog 9 #[.pointer (some ⟨g, 0, none⟩)] w (Said (.int .i64 (h.words.length : Nat)) w) := by
  have hh := top_any L.at_ L.fit
  rw [L.hg] at hh
  exact hh
theorem Live.last (L : Live W w p g h) : Calls Tryz.prog 50 #[.pointer (some ⟨g, 0, none⟩)] w (Said (.int .u32 (h.last : Nat)) w) := by
  have hh := last_any L.at_ L.fit
  rw [L.hg] at hh
  exact hh
theorem Live.first (L : Live W w p g h) : Calls Tryz.prog 85 #[.pointer (some ⟨g, 0, none⟩)] w (Said (.int .u32 (h.objM 1 : Nat)) w) := by
  have hh := first_any L.at_ L.fit
  rw [L.hg] at hh
  exact hh
def HM.rootN (h : HM) (i : Int) : Nat := if rootOk i then h.roots.getD i.toNat 0 else 0
def rootE (i : Int) : Nat := if rootOk i then 0 else 1
theorem Live.root (L : Live W w p g h) (i : Int) : Calls Tryz.prog 93 #[.pointer (some ⟨g, 0, none⟩), .int .i64 i] w (Said (.tuple #[.int .u32 (h.rootN i : Nat), .int .i64 (rootE i : Nat)]) w) := by
  have hh := root_any L.at_ L.fit i
  rw [L.hg, show h.rootV i = .tuple #[.int .u32 (h.rootN i : Nat), .int .i64 (rootE i : Nat)] by
    unfold HM.rootV HM.rootN rootE; cases rootOk i <;> rfl] at hh
  exact hh
theorem Live.words (L : Live W w p g h) : Calls Tryz.prog 51 #[.pointer (some ⟨g, 0, none⟩)] w (NewRow 29 (u32s h.words) w) := by
  have hh := words_any L.at_ L.fit
  rw [L.hg] at hh
  exact hh
theorem Live.roots (L : Live W w p g h) : Calls Tryz.prog 52 #[.pointer (some ⟨g, 0, none⟩)] w (NewRow 30 (u32s h.roots) w) := by
  have hh := roots_any L.at_ L.fit
  rw [L.hg] at hh
  exact hh
end
end Go.Proofs.YtkpjkbkglnabiaaGreatDoor
