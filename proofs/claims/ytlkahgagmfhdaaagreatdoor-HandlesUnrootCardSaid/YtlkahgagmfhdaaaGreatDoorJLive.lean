/- A heap of the program's, all of it new since a world W: what each call does with it. The contracts of the heap's functions with their side conditions shut. -/
/- Load and Same of a heap that is new. -/
/- The document's oops and headers: Kind, Value, May, Pack, Unpack. -/
/- The document's Length, PackBytes, Digits, Decimal, Show. -/
/- The document's PackBytes. -/
/- The document's heap: what only reads. -/
/- The document's heap: lengths, places. -/
/- The document's heap: elements read, elements written. -/
/- The document's heap: elements, classes, roots written. -/
import Derived.Test.YtlkahgagmfhdaaaGreatDoorJMake
import Derived.Test.YtlkahgagmfhdaaaGreatDoorJShow
import Derived.Test.YtlkahgagmfhdaaaGreatDoorJSound
import Derived.Test.YtlkahgagmfhdaaaGreatDoorJOop
import Derived.Test.YtlkahgagmfhdaaaGreatDoorJText
import Derived.Test.YtlkahgagmfhdaaaGreatDoorJMay
import Derived.Test.YtlkahgagmfhdaaaGreatDoorJAlloc
import Derived.StillTailTactics
set_option linter.unusedVariables false
set_option linter.unusedSectionVars false
namespace Go.Proofs.YtlkahgagmfhdaaaGreatDoor
open Go.RowKit

/-- The package-level tables are as the program lays them. -/
structure Env (w : World) : Prop where
  spares : Spares w
  pow : Pow w
theorem Pow.lt {w : World} (h : Pow w) : 0 < w.heap.size := Spares.lt h
theorem Env.below {w w' : World} (E : Env w) (hb : Below w.heap.size w w') : Env w' := ⟨E.spares.below hb, E.pow.below hb⟩
theorem Env.step {p p' : HP} {w w' : World} (E : Env w) (s : Step p p' w w') (hp : Far p) : Env w' := ⟨s.spares hp E.spares, s.pow hp E.pow⟩
theorem Env.far {W : World} (E : Env W) {p : HP} (hn : ∀ k, p.has k → W.heap.size ≤ k) : Far p := fun k hk => by
  have h1 := hn k hk
  have h2 := E.spares.lt
  have h3 := E.pow.lt
  exact ⟨by omega, by omega⟩

structure Live (W w : World) (p : HP) (g : Nat) (h : HM) : Prop where
  at_ : HAt w p h
  hg : p.g = g
  good : ∃ l, h.Good l
  env : Env W
  new : ∀ k, p.has k → W.heap.size ≤ k
  below : Below W.heap.size W w

section
variable {W w w' : World} {p p' : HP} {g : Nat} {h h' : HM}
theorem Live.fit (L : Live W w p g h) : h.Fit := by obtain ⟨l, G⟩ := L.good; exact G.fit
theorem Live.heads (L : Live W w p g h) : h.Heads := by obtain ⟨l, G⟩ := L.good; exact G.laid.heads
theorem Live.far (L : Live W w p g h) : Far p := L.env.far L.new
theorem Live.envw (L : Live W w p g h) : Env w := L.env.below L.below
theorem Live.after (L : Live W w p g h) (hb : Below w.heap.size w w') : Live W w' p g h :=
  ⟨L.at_.below hb, L.hg, L.good, L.env, L.new, below_top L.below hb⟩
theorem Live.step (L : Live W w p g h) (H : HAt w' p' h') (s : Step p p' w w') (G : ∃ l, h'.Good l) : Live W w' p' g h' :=
  ⟨H, s.g.trans L.hg, G, L.env, fun k hk => (s.rows k hk).elim (L.new k) (fun hk => Nat.le_trans L.below.size hk), s.below L.below L.new⟩
/-- A row that is not the heap's stays as it is. -/
theorem Step.row {e : TypeId} {gr c : Nat} {xs : List Value} (s : Step p p' w w') (hr : Row w gr e c xs) (hn : ¬ p.has gr) : Row w' gr e c xs ∧ ¬ p'.has gr :=
  ⟨hr.same (s.block gr hr.lt hn), fun hh => by
    rcases s.rows gr hh with hh | hh
    · exact hn hh
    · have := hr.lt; omega⟩
theorem Step.reads {size n : Nat} {A : Option Addr} {xs : List Value} {B : Nat} (s : Step p p' w w') (hr : Reads w B size A n xs) (hB : B ≤ w.heap.size) (hn : ∀ k, p.has k → B ≤ k) : Reads w' B size A n xs :=
  hr.keep fun q hq => World.cell?_of_block (s.block q.block (by omega) (fun hh => by have := hn _ hh; omega))

/-- What New gives. -/
theorem Live.of_new {n : Nat} {v : Nat → Value} {d : Ending} (E : Env W) (h1 : 64 ≤ n) (h2 : n ≤ 1048576) (H : NewHeap HAt v (HM.new n) W d w') :
    ∃ p g, d = .returned (v g) ∧ Live W w' p g (HM.new n) := by
  obtain ⟨p, hd, H1, hn, hb⟩ := H
  exact ⟨p, p.g, hd, H1, rfl, ⟨[], HM.new_good h1 h2 (HM.new_fit h1 h2)⟩, E, hn, hb⟩

def HM.AllocO (h : HM) (c : Nat) (f n : Int) : Nat := if h.AllocE c f n = 0 then 2 * h.words.length else 0
def HM.makeO (h : HM) (c : Nat) (bs : List Nat) : Nat := if h.makeE c bs = 0 then 2 * h.words.length else 0
theorem HM.AllocV_eq (h : HM) (c : Nat) (f n : Int) : h.AllocV c f n = .tuple #[.int .u32 (h.AllocO c f n : Nat), .int .i64 (h.AllocE c f n : Nat)] := by
  unfold HM.AllocV HM.AllocO HM.AllocE
  by_cases hok : allocOk f n = true
  · rw [if_pos hok, if_pos hok]; rfl
  · rw [if_neg hok, if_neg hok]; rfl
theorem HM.makeV_eq (h : HM) (c : Nat) (bs : List Nat) : h.makeV c bs = .tuple #[.int .u32 (h.makeO c bs : Nat), .int .i64 (h.makeE c bs : Nat)] := rfl

/-- A deed's end at law level. -/
def Done (W : World) (p : HP) (g : Nat) (h' : HM) (v : Value) (w : World) (e : Ending) (w' : World) : Prop :=
  ∃ p', e = .returned v ∧ Live W w' p' g h' ∧ Step p p' w w'
theorem Live.of_made {v : Value} {d : Ending} (L : Live W w p g h) (G : ∃ l, h'.Good l) (H : Made p h' v w d w') : Done W p g h' v w d w' := by
  obtain ⟨p', rfl, H', s⟩ := H
  exact ⟨p', rfl, L.step H' s G, s⟩
theorem Live.of_deed {E : Nat} {d : Ending} (L : Live W w p g h) (G : ∃ l, h'.Good l) (H : Deeds p h' E w d w') : Done W p g h' (.int .i64 E) w d w' := by
  obtain ⟨rfl, H', s⟩ := H
  exact ⟨p, rfl, L.step H' s G, s⟩

theorem Live.alloc (L : Live W w p g h) (c : Nat) (hc : c < 4294967296) (t n : Int) :
    Calls Tryz.prog 75 #[.pointer (some ⟨g, 0, none⟩), .int .u32 c, .int .i64 t, .int .i64 n] w (Done W p g (h.AllocH c t n) (.tuple #[.int .u32 (h.AllocO c t n : Nat), .int .i64 (h.AllocE c t n : Nat)]) w) := by
  have hh := Alloc_any L.at_ L.fit L.envw.spares L.far c hc t n
  rw [L.hg, HM.AllocV_eq] at hh
  exact hh.mono fun _ _ H => L.of_made (by obtain ⟨l, G⟩ := L.good; exact G.AllocH c t n hc) H
theorem Live.make (L : Live W w p g h) (c : Nat) (hc : c < 4294967296) (A : Option Addr) (n cap : Nat) (bs : List Nat) (hn : n ≤ 9223372036854775807) (hr : Reads w w.heap.size 1 A n (u8c bs)) (hb : ∀ x ∈ bs, x < 256) :
    Calls Tryz.prog 104 #[.pointer (some ⟨g, 0, none⟩), .int .u32 c, .slice A n cap] w (Done W p g (h.makeH c bs) (.tuple #[.int .u32 (h.makeO c bs : Nat), .int .i64 (h.makeE c bs : Nat)]) w) := by
  have hh := Make_any L.at_ L.fit L.envw.spares L.far c hc A n cap _ bs hn hr (Nat.le_refl _) hb
  rw [L.hg, HM.makeV_eq] at hh
  exact hh.mono fun _ _ H => L.of_made (by obtain ⟨l, G⟩ := L.good; exact G.MakeH c bs hc hb) H
theorem Live.put (L : Live W w p g h) (o : Nat) (ho : o < 4294967296) (i : Int) (v : Nat) (hv : v < 4294967296) :
    Calls Tryz.prog 105 #[.pointer (some ⟨g, 0, none⟩), .int .u32 o, .int .i64 i, .int .u32 v] w (Done W p g (h.putH o i v) (.int .i64 (h.putE o i v : Nat)) w) := by
  have hh := put_any L.at_ L.fit L.heads L.envw.spares o ho i v hv
  rw [L.hg] at hh
  exact hh.mono fun _ _ H => L.of_deed (by obtain ⟨l, G⟩ := L.good; obtain ⟨l', G', _⟩ := G.putH o i v hv; exact ⟨l', G'⟩) H
theorem Live.setRoot (L : Live W w p g h) (i : Int) (v : Nat) (hv : v < 4294967296) :
    Calls Tryz.prog 77 #[.pointer (some ⟨g, 0, none⟩), .int .i64 i, .int .u32 v] w (Done W p g (h.setRootH i v) (.int .i64 (h.setRootE i v : Nat)) w) := by
  have hh := setRoot_any L.at_ L.fit i v hv
  rw [L.hg] at hh
  exact hh.mono fun _ _ H => L.of_deed (by obtain ⟨l, G⟩ := L.good; exact ⟨l, G.setRootH i v hv⟩) H

/-- What only reads. -/
def Told (v : Value) (w : World) (e : Ending) (w' : World) : Prop := e = .returned v ∧ Below w.heap.size w w'
theorem Live.get (L : Live W w p g h) (o : Nat) (ho : o < 4294967296) (i : Int) :
    Calls Tryz.prog 175 #[.pointer (some ⟨g, 0, none⟩), .int .u32 o, .int .i64 i] w (Told (.tuple #[.int .u32 (h.readN o i [1, 4] : Nat), .int .i64 (h.lookE o i [1, 4] : Nat)]) w) := by
  have hh := get_any L.at_ L.fit L.heads L.envw.spares o ho i
  rw [L.hg] at hh
  exact hh
theorem Live.word (L : Live W w p g h) (o : Nat) (ho : o < 4294967296) (i : Int) :
    Calls Tryz.prog 136 #[.pointer (some ⟨g, 0, none⟩), .int .u32 o, .int .i64 i] w (Told (.tuple #[.int .u32 (h.readN o i [3] : Nat), .int .i64 (h.lookE o i [3] : Nat)]) w) := by
  have hh := word_any L.at_ L.fit L.heads L.envw.spares o ho i
  rw [L.hg] at hh
  exact hh
def HM.showS (h : HM) (o : Nat) : List UInt8 := if h.isB o then h.showT o else []
def HM.isE (h : HM) (o : Nat) : Nat := if h.isB o then 0 else 3
def HM.hdO (h : HM) (o : Nat) : Hd := if h.isB o then h.hd (o / 2) else ⟨0, 0, 0, 0, 0⟩
theorem HM.headerV_eq (h : HM) (o : Nat) : h.headerV o = .tuple #[(h.hdO o).val, .int .i64 (h.isE o : Nat)] := by
  unfold HM.headerV HM.hdO HM.isE; cases h.isB o <;> rfl
theorem Live.header (L : Live W w p g h) (o : Nat) (ho : o < 4294967296) :
    Calls Tryz.prog 32 #[.pointer (some ⟨g, 0, none⟩), .int .u32 o] w (Told (.tuple #[(h.hdO o).val, .int .i64 (h.isE o : Nat)]) w) := by
  have hh := Header_any L.at_ L.fit L.heads L.envw.spares o ho
  rw [L.hg, HM.headerV_eq] at hh
  exact hh
def HM.lenN (h : HM) (o : Nat) : Nat := if h.isB o then (h.hd (o / 2)).len else 0
def HM.nextN (h : HM) (o : Nat) : Nat := if h.isB o then h.nextO o else 0
theorem Live.next (L : Live W w p g h) (o : Nat) (ho : o < 4294967296) :
    Calls Tryz.prog 130 #[.pointer (some ⟨g, 0, none⟩), .int .u32 o] w (Told (.tuple #[.int .u32 (h.nextN o : Nat), .int .i64 (h.isE o : Nat)]) w) := by
  have hh := next_any L.at_ L.fit L.heads L.envw.spares o ho
  rw [L.hg, show h.nextV o = .tuple #[.int .u32 (h.nextN o : Nat), .int .i64 (h.isE o : Nat)] by
    unfold HM.nextV HM.nextN HM.isE; cases h.isB o <;> rfl] at hh
  exact hh
theorem Live.bytes (L : Live W w p g h) (o : Nat) (ho : o < 4294967296) :
    Calls Tryz.prog 137 #[.pointer (some ⟨g, 0, none⟩), .int .u32 o] w (BytesP h o w) := by
  have hh := bytes_any L.at_ L.fit L.heads L.envw.spares o ho
  rw [L.hg] at hh
  exact hh
/-- What reads and makes nothing. -/
def Said (v : Value) (w : World) (e : Ending) (w' : World) : Prop := e = .returned v ∧ w = w'
theorem Live.is (L : Live W w p g h) (o : Nat) (ho : o < 4294967296) :
    Calls Tryz.prog 85 #[.pointer (some ⟨g, 0, none⟩), .int .u32 o] w (Said (.bool (h.isB o)) w) := by
  have hh := is_any L.at_ L.fit o ho
  rw [L.hg] at hh
  exact hh
theorem Live.size (L : Live W w p g h) : Calls Tryz.prog 59 #[.pointer (some ⟨g, 0, none⟩)] w (Said (.int .i64 (h.size : Nat)) w) := by
  have hh := size_any L.at_ L.fit
  rw [L.hg] at hh
  exact hh
theorem Live.top (L : Live W w p g h) : Calls Tryz.prog 60 #[.pointer (some ⟨g, 0, none⟩)] w (Said (.int .i64 (h.words.length : Nat)) w) := by
  have hh := top_any L.at_ L.fit
  rw [L.hg] at hh
  exact hh
theorem Live.last (L : Live W w p g h) : Calls Tryz.prog 62 #[.pointer (some ⟨g, 0, none⟩)] w (Said (.int .u32 (h.last : Nat)) w) := by
  have hh := last_any L.at_ L.fit
  rw [L.hg] at hh
  exact hh
theorem Live.first (L : Live W w p g h) : Calls Tryz.prog 78 #[.pointer (some ⟨g, 0, none⟩)] w (Said (.int .u32 (h.objM 1 : Nat)) w) := by
  have hh := first_any L.at_ L.fit
  rw [L.hg] at hh
  exact hh
def HM.rootN (h : HM) (i : Int) : Nat := if rootOk i then h.roots.getD i.toNat 0 else 0
def rootE (i : Int) : Nat := if rootOk i then 0 else 1
theorem Live.root (L : Live W w p g h) (i : Int) : Calls Tryz.prog 81 #[.pointer (some ⟨g, 0, none⟩), .int .i64 i] w (Said (.tuple #[.int .u32 (h.rootN i : Nat), .int .i64 (rootE i : Nat)]) w) := by
  have hh := root_any L.at_ L.fit i
  rw [L.hg, show h.rootV i = .tuple #[.int .u32 (h.rootN i : Nat), .int .i64 (rootE i : Nat)] by
    unfold HM.rootV HM.rootN rootE; cases rootOk i <;> rfl] at hh
  exact hh
theorem Live.words (L : Live W w p g h) : Calls Tryz.prog 35 #[.pointer (some ⟨g, 0, none⟩)] w (NewRow 32 (u32s h.words) w) := by
  have hh := words_any L.at_ L.fit
  rw [L.hg] at hh
  exact hh
theorem Live.roots (L : Live W w p g h) : Calls Tryz.prog 54 #[.pointer (some ⟨g, 0, none⟩)] w (NewRow 54 (u32s h.roots) w) := by
  have hh := roots_any L.at_ L.fit
  rw [L.hg] at hh
  exact hh
end
end Go.Proofs.YtlkahgagmfhdaaaGreatDoor

namespace Go.Proofs.YtlkahgagmfhdaaaGreatDoor
open Go.RowKit

theorem Live.load {W w : World} {p : HP} {g : Nat} {h : HM} (L : Live W w p g h) (A : Option Addr) (n c : Nat) (ws : List Nat) (hn : n ≤ 9223372036854775807) (hr : Reads w w.heap.size 1 A n (u32s ws)) (h32 : ∀ x ∈ ws, x < 4294967296)
    (A' : Option Addr) (n' c' : Nat) (rs : List Nat) (hn' : n' ≤ 9223372036854775807) (hr' : Reads w w.heap.size 1 A' n' (u32s rs)) (h32' : ∀ x ∈ rs, x < 4294967296) (last : Nat) (hl : last < 4294967296) :
    Calls Tryz.prog 94 #[.pointer (some ⟨g, 0, none⟩), .slice A n c, .slice A' n' c', .int .u32 last] w (Done W p g (h.loadH ws rs last) (.int .i64 (loadE h.size ws rs last : Nat)) w) := by
  have hh := Load_any L.at_ L.fit L.envw.spares (fun k hk => by
    have h1 := L.envw.spares.lt
    have h2 := L.envw.pow.lt
    exact ⟨by omega, by omega⟩) A n c ws hn hr h32 A' n' c' rs hn' hr' h32' last hl
  rw [L.hg] at hh
  refine hh.mono fun _ _ H => L.of_made ?_ H
  unfold HM.loadH
  by_cases he : loadE h.size ws rs last = 0
  · rw [if_pos he]
    unfold loadE at he
    split at he
    · omega
    · rename_i hb
      split at he
      · rename_i hok
        obtain ⟨l, hp, S⟩ := hok
        have f := L.fit
        exact ⟨l, HM.ofWords_good f.lo f.hi h32 h32' (by omega) hl (by omega) hp S⟩
      · omega
  · rw [if_neg he]; exact L.good
theorem Live.same {W w W2 : World} {p q : HP} {g k : Nat} {a b : HM} (La : Live W w p g a) (Lb : Live W2 w q k b) :
    Calls Tryz.prog 46 #[.pointer (some ⟨g, 0, none⟩), .pointer (some ⟨k, 0, none⟩)] w (Told (.bool (sameH a b)) w) := by
  have hh := Same_any La.at_ Lb.at_ La.fit Lb.fit
  rw [La.hg, Lb.hg] at hh
  exact hh.mono fun e w' ⟨he, m, hm⟩ => ⟨he, hm ▸ below_drewN (Below.refl _ _) m⟩
theorem HM.Good.load_self {h h0 : HM} {l : List Ob} (G : h.Good l) (hs : h0.size = h.size) : loadE h0.size h.words h.roots h.last = 0 ∧ h0.loadH h.words h.roots h.last = h := by
  have e := loadE_ok (size := h0.size) (ws := h.words) (rs := h.roots) (last := h.last) (by
    have := G.fit.one; have := G.fit.room; have := G.fit.roots
    omega) (by rw [hs]; exact G.loadOk)
  refine ⟨e, ?_⟩
  unfold HM.loadH
  rw [if_pos e, hs]
  exact G.ofWords.1

end Go.Proofs.YtlkahgagmfhdaaaGreatDoor

namespace Go.Proofs.YtlkahgagmfhdaaaGreatDoor
open Go.RowKit

theorem rkind_any (o : Nat) (ho : o < 4294967296) (w : World) :
    Calls Tryz.prog 243 #[.int .u32 o] w fun e w' => e = .returned (.int .i64 (kindM o)) ∧ w = w' := by
  by_cases h0 : o = 0
  · subst h0
    go_enter Tryz.func243, Tryz.ntmps243
    go_wp2_with fail
    go_ret
    exact ⟨rfl, rfl⟩
  · have hb : ((o : Int) == 0) = false := by simpa using h0
    by_cases h2 : o % 2 = 1
    · have h1 : (((o : Int) % 2) == 1) = true := by simp; omega
      have HK := Lib.hid (show kindM o = 1 by simp [kindM, h0, h2]); clear h2 h0
      go_enter Tryz.func243, Tryz.ntmps243
      go_wp2_with fail
      go_ret
      exact ⟨by rw [HK.out]; rfl, rfl⟩
    · have h1 : (((o : Int) % 2) == 1) = false := by simp; omega
      have HK := Lib.hid (show kindM o = 2 by simp [kindM, h0, h2]); clear h2 h0
      go_enter Tryz.func243, Tryz.ntmps243
      go_wp2_with fail
      go_ret
      exact ⟨by rw [HK.out]; rfl, rfl⟩

theorem tdiv2 (x : Int) (h : x % 2 = 0) : x.tdiv 2 = x / 2 := Int.tdiv_eq_ediv_of_dvd (Int.dvd_of_emod_eq_zero h)
theorem rvalue_any (o : Nat) (ho : o < 4294967296) (h1 : o % 2 = 1) (w : World) :
    Calls Tryz.prog 157 #[.int .u32 o] w fun e w' => e = .returned (.int .i64 (smallV o)) ∧ w = w' := by
  have hp : 0 < (o : Int) := by omega
  by_cases h : o < 2147483648
  · have HF := Lib.hid (show smallV o = ((o : Int) - 1) / 2 by unfold smallV; rw [if_pos h]; omega)
    have hd : decide ((2147483648 : Int) ≤ (o : Int)) = false := by simp; omega
    clear h1 h
    go_enter Tryz.func157, Tryz.ntmps157
    go_wp2_with fail
    go_ret
    exact ⟨by rw [HF.out]; rfl, rfl⟩
  · have HF := Lib.hid (show smallV o = ((o : Int) - 4294967296 - 1).tdiv 2 by rw [tdiv2 _ (by omega)]; unfold smallV; rw [if_neg h]; omega)
    have hd : decide ((2147483648 : Int) ≤ (o : Int)) = true := by simp; omega
    clear h1 h
    go_enter Tryz.func157, Tryz.ntmps157
    go_wp2_with fail
    go_ret
    exact ⟨by rw [HF.out]; rfl, rfl⟩

set_option maxHeartbeats 2000000 in
theorem rmay_any (x : Hd) (f : x.Fit) (w : World) :
    Calls Tryz.prog 201 #[x.val] w fun e w' => e = .returned (.bool x.may) ∧ Below w.heap.size w w' := by
  obtain ⟨n, t, s, c, r⟩ := x
  obtain ⟨f1, f2, f3, f4, f5⟩ := f
  simp only at f1 f2 f3 f4 f5
  unfold Hd.val
  by_cases h1 : 65535 < n
  · have HF := Lib.hid (show Hd.may ⟨n, t, s, c, r⟩ = false by simp [Hd.may]; omega)
    go_enter Tryz.func201, Tryz.ntmps201
    go_wp2_with fail
    go_ret
    exact ⟨by rw [HF.out]; rfl, (Below.refl _ _).alloc (Nat.le_refl _) _⟩
  by_cases h2 : t < 1
  · have HF := Lib.hid (show Hd.may ⟨n, t, s, c, r⟩ = false by simp [Hd.may]; omega)
    go_enter Tryz.func201, Tryz.ntmps201
    go_wp2_with fail
    go_ret
    exact ⟨by rw [HF.out]; rfl, (Below.refl _ _).alloc (Nat.le_refl _) _⟩
  by_cases h3 : 4 < t
  · have HF := Lib.hid (show Hd.may ⟨n, t, s, c, r⟩ = false by simp [Hd.may]; omega)
    go_enter Tryz.func201, Tryz.ntmps201
    go_wp2_with fail
    go_ret
    exact ⟨by rw [HF.out]; rfl, (Below.refl _ _).alloc (Nat.le_refl _) _⟩
  by_cases h4 : s = 0
  · subst h4
    have HF := Lib.hid (show Hd.may ⟨n, t, 0, c, r⟩ = true by simp [Hd.may]; omega)
    go_enter Tryz.func201, Tryz.ntmps201
    go_wp2_with fail
    go_ret
    exact ⟨by rw [HF.out]; rfl, (Below.refl _ _).alloc (Nat.le_refl _) _⟩
  have h4' : ((s : Int) == 0) = false := by simpa using h4
  by_cases h5 : t = 2
  · subst h5
    by_cases h6 : n = 0
    · subst h6
      have HF := Lib.hid (show Hd.may ⟨0, 2, s, c, r⟩ = false by simp [Hd.may, h4])
      clear h4
      go_enter Tryz.func201, Tryz.ntmps201
      go_wp2_with fail
      go_ret
      exact ⟨by rw [HF.out]; rfl, (Below.refl _ _).alloc (Nat.le_refl _) _⟩
    · have HF := Lib.hid (show Hd.may ⟨n, 2, s, c, r⟩ = true by simp [Hd.may]; omega)
      have h7 : (0 : Int) < n := by omega
      clear h4 h6
      go_enter Tryz.func201, Tryz.ntmps201
      go_wp2_with fail
      go_ret
      exact ⟨by rw [HF.out]; simp; omega, (Below.refl _ _).alloc (Nat.le_refl _) _⟩
  · have HF := Lib.hid (show Hd.may ⟨n, t, s, c, r⟩ = false by simp [Hd.may]; omega)
    have h5' : ((t : Int) == 2) = false := by simp; omega
    clear h4 h5
    go_enter Tryz.func201, Tryz.ntmps201
    go_wp2_with fail
    go_ret
    exact ⟨by rw [HF.out]; rfl, (Below.refl _ _).alloc (Nat.le_refl _) _⟩

set_option maxHeartbeats 1000000 in
theorem rpack_any (x : Hd) (f : x.Fit) (w : World) :
    Calls Tryz.prog 146 #[x.val] w fun e w' => e = .returned x.packed ∧ Below w.heap.size w w' := by
  obtain ⟨n, t, s, c, r⟩ := x
  obtain ⟨f1, f2, f3, f4, f5⟩ := f
  simp only at f1 f2 f3 f4 f5
  have HF := Lib.hid (show Hd.packed ⟨n, t, s, c, r⟩ = .agg #[.int .u32 ((n : Int) + (t : Int) * 16777216 + (s : Int) * 134217728), .int .u32 c, .int .u32 r] by simp [Hd.packed, Hd.w0])
  unfold Hd.val
  go_enter Tryz.func146, Tryz.ntmps146
  go_wp2_with fail
  refine bodyPost_ret (v := .agg #[.int .u32 ((n : Int) + (t : Int) * 16777216 + (s : Int) * 134217728), .int .u32 c, .int .u32 r]) (by simp [results, Tryz.results146, go_sem]) rfl ⟨by rw [HF.out], ?_⟩
  exact ((Below.refl _ _).alloc (Nat.le_refl _) _).alloc (by simp) _

/-- What Unpack answers. -/
def unpackV (a b c : Nat) : Value := .tuple #[if okhd a b c then (unhd a b c).val else .agg #[.int .i64 0, .int .i64 0, .int .i64 0, .int .u32 0, .int .u32 0], .bool (okhd a b c)]
set_option maxHeartbeats 2000000 in
theorem runpack_any (a b c : Nat) (ha : a < 4294967296) (hb : b < 4294967296) (hc : c < 4294967296) (w : World) :
    Calls Tryz.prog 148 #[.agg #[.int .u32 a, .int .u32 b, .int .u32 c]] w (Told (unpackV a b c) w) := by
  have hx : (unhd a b c).val = .agg #[.int .i64 ((a : Int) % 16777216), .int .i64 ((a : Int) / 16777216 % 8), .int .i64 ((a : Int) / 134217728 % 4), .int .u32 b, .int .u32 c] := rfl
  have HX := Lib.hid hx
  have HF := Lib.hid (unhd_fit a b c hb hc)
  by_cases hlt : a < 536870912
  · have hd : (((a : Int) / 536870912) != 0) = false := by simp; omega
    cases hok : (unhd a b c).may
    · have HV := Lib.hid (show unpackV a b c = .tuple #[.agg #[.int .i64 0, .int .i64 0, .int .i64 0, .int .u32 0, .int .u32 0], .bool false] by simp [unpackV, okhd, hok])
      have HM := Lib.hid (fun w => (rmay_any _ HF.out w))
      rw [HX.out, hok] at HM
      clear hok hx hlt
      go_enter Tryz.func148, Tryz.ntmps148
      go_wp2_with fail
      generalize hW : ((w.alloc _).alloc _).alloc _ = W
      have hbW : Below w.heap.size w W := by rw [← hW]; exact (((Below.refl _ _).alloc (Nat.le_refl _) _).alloc (by simp) _).alloc (by simp; omega) _
      have B1 : Blk W (w.heap.size + 1) 75 #[.int .i64 0, .int .i64 0, .int .i64 0, .int .u32 0, .int .u32 0] := by
        rw [← hW]
        have := (Blk.new (w.alloc (.cells #[.int .u32 a, .int .u32 b, .int .u32 c] 248)) 75 #[.int .i64 0, .int .i64 0, .int .i64 0, .int .u32 0, .int .u32 0]).alloc (.cells #[.int .i64 ((a : Int) % 16777216), .int .i64 ((a : Int) / 16777216 % 8), .int .i64 ((a : Int) / 134217728 % 4), .int .u32 b, .int .u32 c] 75)
        rw [World.size_alloc] at this
        exact this
      have B2 : Blk W (w.heap.size + 1 + 1) 75 #[.int .i64 ((a : Int) % 16777216), .int .i64 ((a : Int) / 16777216 % 8), .int .i64 ((a : Int) / 134217728 % 4), .int .u32 b, .int .u32 c] := by
        rw [← hW]
        have := Blk.new ((w.alloc (.cells #[.int .u32 a, .int .u32 b, .int .u32 c] 248)).alloc (.cells #[.int .i64 0, .int .i64 0, .int .i64 0, .int .u32 0, .int .u32 0] 75)) 75 #[.int .i64 ((a : Int) % 16777216), .int .i64 ((a : Int) / 16777216 % 8), .int .i64 ((a : Int) / 134217728 % 4), .int .u32 b, .int .u32 c]
        rw [World.size_alloc, World.size_alloc] at this
        exact this
      clear hW
      refine (HM.out _).mono ?_
      rintro e w1 ⟨rfl, hb1⟩
      replace B1 := B1.below hb1 B1.lt
      replace B2 := B2.below hb1 B2.lt
      have hb := below_top hbW hb1
      clear hb1 hbW
      obtain ⟨a0, a1, a2, a3, a4⟩ := B2.cells5
      obtain ⟨d0, d1, d2, d3, d4⟩ := B1.cells5
      have z1 := B1.fz
      have hz1 := B1.lt
      go_wp2_with fail
      refine bodyPost_ret (v := .tuple #[.agg #[.int .i64 0, .int .i64 0, .int .i64 0, .int .u32 0, .int .u32 0], .bool false]) (by simp [results, Tryz.results148, go_sem, d0, d1, d2, d3, d4]) rfl ⟨by rw [HV.out], ?_⟩
      exact ((((hb.setCell (by simp) _).setCell (by simp) _).setCell (by simp) _).setCell (by simp) _).setCell (by simp) _
    · have HV := Lib.hid (show unpackV a b c = .tuple #[(unhd a b c).val, .bool true] by simp [unpackV, okhd, hok, hlt])
      have HM := Lib.hid (fun w => (rmay_any _ HF.out w))
      rw [HX.out, hok] at HM
      clear hok hx hlt
      go_enter Tryz.func148, Tryz.ntmps148
      go_wp2_with fail
      generalize hW : ((w.alloc _).alloc _).alloc _ = W
      have hbW : Below w.heap.size w W := by rw [← hW]; exact (((Below.refl _ _).alloc (Nat.le_refl _) _).alloc (by simp) _).alloc (by simp; omega) _
      have B1 : Blk W (w.heap.size + 1) 75 #[.int .i64 0, .int .i64 0, .int .i64 0, .int .u32 0, .int .u32 0] := by
        rw [← hW]
        have := (Blk.new (w.alloc (.cells #[.int .u32 a, .int .u32 b, .int .u32 c] 248)) 75 #[.int .i64 0, .int .i64 0, .int .i64 0, .int .u32 0, .int .u32 0]).alloc (.cells #[.int .i64 ((a : Int) % 16777216), .int .i64 ((a : Int) / 16777216 % 8), .int .i64 ((a : Int) / 134217728 % 4), .int .u32 b, .int .u32 c] 75)
        rw [World.size_alloc] at this
        exact this
      have B2 : Blk W (w.heap.size + 1 + 1) 75 #[.int .i64 ((a : Int) % 16777216), .int .i64 ((a : Int) / 16777216 % 8), .int .i64 ((a : Int) / 134217728 % 4), .int .u32 b, .int .u32 c] := by
        rw [← hW]
        have := Blk.new ((w.alloc (.cells #[.int .u32 a, .int .u32 b, .int .u32 c] 248)).alloc (.cells #[.int .i64 0, .int .i64 0, .int .i64 0, .int .u32 0, .int .u32 0] 75)) 75 #[.int .i64 ((a : Int) % 16777216), .int .i64 ((a : Int) / 16777216 % 8), .int .i64 ((a : Int) / 134217728 % 4), .int .u32 b, .int .u32 c]
        rw [World.size_alloc, World.size_alloc] at this
        exact this
      clear hW
      refine (HM.out _).mono ?_
      rintro e w1 ⟨rfl, hb1⟩
      replace B1 := B1.below hb1 B1.lt
      replace B2 := B2.below hb1 B2.lt
      have hb := below_top hbW hb1
      clear hb1 hbW
      obtain ⟨a0, a1, a2, a3, a4⟩ := B2.cells5
      obtain ⟨d0, d1, d2, d3, d4⟩ := B1.cells5
      have z1 := B1.fz
      have hz1 := B1.lt
      go_wp2_with fail
      refine bodyPost_ret (v := .tuple #[.agg #[.int .i64 ((a : Int) % 16777216), .int .i64 ((a : Int) / 16777216 % 8), .int .i64 ((a : Int) / 134217728 % 4), .int .u32 b, .int .u32 c], .bool true]) (by simp [results, Tryz.results148, go_sem, d0, d1, d2, d3, d4]) rfl ⟨by rw [HV.out]; rw [HX.out], ?_⟩
      exact ((((hb.setCell (by simp) _).setCell (by simp) _).setCell (by simp) _).setCell (by simp) _).setCell (by simp) _
  · have hd : (((a : Int) / 536870912) != 0) = true := by simp; omega
    have HV := Lib.hid (show unpackV a b c = .tuple #[.agg #[.int .i64 0, .int .i64 0, .int .i64 0, .int .u32 0, .int .u32 0], .bool false] by simp [unpackV, okhd, hlt])
    clear hx hlt
    go_enter Tryz.func148, Tryz.ntmps148
    go_wp2_with fail
    refine bodyPost_ret (v := .tuple #[.agg #[.int .i64 0, .int .i64 0, .int .i64 0, .int .u32 0, .int .u32 0], .bool false]) (by simp [results, Tryz.results148, go_sem]) rfl ⟨by rw [HV.out], ?_⟩
    exact (((Below.refl _ _).alloc (Nat.le_refl _) _).alloc (by simp) _).alloc (by simp; omega) _
end Go.Proofs.YtlkahgagmfhdaaaGreatDoor

namespace Go.Proofs.YtlkahgagmfhdaaaGreatDoor
open Go.RowKit

theorem rlength_any (n : Nat) (hn : n ≤ 1000000) (w : World) :
    Calls Tryz.prog 254 #[.int .i64 n] w fun e w' => e = .returned (.tuple #[.int .i64 ((n + 3) / 4 : Nat), .int .i64 (4 * ((n + 3) / 4) - n : Nat)]) ∧ w = w' := by
  go_enter Tryz.func254, Tryz.ntmps254
  go_wp2_with fail
  go_loop [4] (fun v => ∃ k : Nat, v = .int .i64 k ∧ 4 * k < n + 4) (fun v => n - (intOf v).toNat)
  case atStart => exact ⟨0, rfl, by omega⟩
  case round =>
    obtain ⟨k, rfl, hk⟩ := hrel
    by_cases hlt : 4 * k < n
    · have hl : (4 : Int) * k < n := by omega
      go_wp2_with fail
      go_round
      case rel => exact ⟨k + 1, by go_num, by omega⟩
      case measure => simp [intOf]; omega
    · have hl : ¬ (4 : Int) * k < n := by omega
      have HE := Lib.hid (show ((n : Int) + 3) / 4 = k by omega)
      have HEN := Lib.hid (show (n + 3) / 4 = k by omega)
      have HE2 := Lib.hid (show ((4 * k - n : Nat) : Int) = (4 : Int) * k - n by omega)
      go_wp2_with fail
      go_ret2
      exact ⟨by rw [HE.out, HEN.out, HE2.out]; rfl, rfl⟩

theorem conv1 (w : World) (n : Nat) (hn : n < 256) : (convert 22 9 (.slice (some ⟨w.heap.size, 0, none⟩) 1 1)).run Tryz.prog (w.alloc (.cells #[.int .u8 (n : Int)] 5)) = .ok (.string ⟨#[UInt8.ofNat n]⟩) (w.alloc (.cells #[.int .u8 (n : Int)] 5)) := by
  have h := run_convert_bytes_back (P := Tryz.prog) (w.alloc (.cells #[.int .u8 (n : Int)] 5)) 22 9 5 ⟨w.heap.size, 0, none⟩ 1 [UInt8.ofNat n] Tryz.underlying22 Tryz.underlying5 Tryz.underlying9 (by
    intro j hj
    have hj0 : j = 0 := by simpa using hj
    subst hj0
    have := (Blk.new w 5 #[.int .u8 (n : Int)]).cell 0
    rw [show (⟨w.heap.size, 0, none⟩ : Addr).add 0 = ⟨w.heap.size, 0, none⟩ from rfl, this]
    simp [Nat.mod_eq_of_lt hn])
  exact h
theorem str_one (d : UInt8) (acc : List UInt8) : Value.string ((⟨#[d]⟩ : ByteArray) ++ ⟨acc.toArray⟩) = str (d :: acc) := str_app [d] acc
theorem dec_small {m : Nat} (h : m < 10) : Lib.decDigits m = [UInt8.ofNat (48 + m % 10)] := by
  rw [Lib.decDigits, dif_pos h, Nat.mod_eq_of_lt h]
theorem dec_big {m : Nat} (h : ¬ m < 10) : Lib.decDigits m = Lib.decDigits (m / 10) ++ [UInt8.ofNat (48 + m % 10)] := by
  rw [Lib.decDigits, dif_neg h]
theorem dec_len (n : Nat) (hn : n ≤ 4294967296) : (Lib.decDigits n).length ≤ 21 := by
  have h := Lib.itoa_length_le (n : Int) (by omega) (by omega)
  unfold Lib.itoa at h
  rw [if_neg (by omega)] at h
  simpa using h

end Go.Proofs.YtlkahgagmfhdaaaGreatDoor

namespace Go.Proofs.YtlkahgagmfhdaaaGreatDoor
open Go.RowKit

theorem wordAt_low (bs : List Nat) (h : ∀ x ∈ bs, x < 256) (k : Nat) : wordAt (bs.take k) (k / 4) < 2 ^ (8 * (k % 4)) := by
  have h0 := getD_lt bs h (4 * (k / 4))
  have h1 := getD_lt bs h (4 * (k / 4) + 1)
  have h2 := getD_lt bs h (4 * (k / 4) + 2)
  unfold wordAt
  simp only [take_getD]
  rcases (by omega : k % 4 = 0 ∨ k % 4 = 1 ∨ k % 4 = 2 ∨ k % 4 = 3) with r | r | r | r <;> rw [r]
  · rw [if_neg (by omega), if_neg (by omega), if_neg (by omega), if_neg (by omega)]; omega
  · rw [if_pos (by omega), if_neg (by omega), if_neg (by omega), if_neg (by omega)]; omega
  · rw [if_pos (by omega), if_pos (by omega), if_neg (by omega), if_neg (by omega)]; omega
  · rw [if_pos (by omega), if_pos (by omega), if_pos (by omega), if_neg (by omega)]; omega
theorem wordAt_sum (bs : List Nat) (h : ∀ x ∈ bs, x < 256) (k : Nat) : wordAt (bs.take k) (k / 4) ||| (bs.getD k 0 * 2 ^ (8 * (k % 4))) = wordAt (bs.take k) (k / 4) + bs.getD k 0 * 256 ^ (k % 4) := by
  rw [Nat.or_comm, nat_join (8 * (k % 4)) _ _ (by simp) (wordAt_low bs h k), Nat.add_comm, Nat.pow_mul]
theorem pow256_le (j : Nat) (h : j < 3) : 256 ^ j ≤ 65536 := by
  rcases (by omega : j = 0 ∨ j = 1 ∨ j = 2) with rfl | rfl | rfl <;> decide

/-- What the document's PackBytes answers. -/
def RPackB (bs : List Nat) (w : World) (d : Ending) (w' : World) : Prop :=
  ∃ g, d = .returned (.slice (some ⟨g, 0, none⟩) (packM bs).length (packM bs).length) ∧ Row w' g 32 (packM bs).length (u32s (packM bs)) ∧ w.heap.size ≤ g ∧ Below w.heap.size w w'

set_option maxHeartbeats 4000000 in
theorem rpackBytes_any {w : World} (A : Option Addr) (n c B : Nat) (bs : List Nat) (hn : n ≤ 262140) (hr : Reads w B 1 A n (u8c bs)) (hB : B ≤ w.heap.size) (hb : ∀ x ∈ bs, x < 256) :
    Calls Tryz.prog 202 #[.slice A n c] w (RPackB bs w) := by
  have hl : bs.length = n := by have := hr.1; simpa [u8c] using this
  subst hl
  have HL := Lib.hid (rlength_any bs.length (by omega) w)
  have HRD := Lib.hid hr
  have HBB := Lib.hid hb
  have hmk := make_u32 ((bs.length + 3) / 4) (by omega)
  have HPL := Lib.hid (packM_len bs)
  have hpk : packM bs = packK ((bs.length + 3) / 4) bs bs.length := rfl
  have HPK := Lib.hid hpk
  clear hr hb hpk
  have hF : bs.length ≤ 4 * ((bs.length + 3) / 4) := by omega
  have hF2 : (bs.length + 3) / 4 ≤ 65535 := by omega
  generalize hFe : (bs.length + 3) / 4 = F at *
  have HFE := Lib.hid hFe
  clear hFe
  generalize hN : bs.length = N at *
  have HN := Lib.hid hN
  clear hN
  generalize 4 * F - N = sp at *
  go_enter Tryz.func202, Tryz.ntmps202
  go_wp2_with fail
  refine HL.out.mono ?_
  rintro e w1 ⟨rfl, rfl⟩
  go_wp2_with fail
  have HS := Lib.hid (show Row (w.alloc (.cells (zcells (.int .u32 0) F) 32)) w.heap.size 32 F (u32s (packK F bs 0)) from by rw [packK_zero]; exact zcells_row w _ F 0 (by simp only [maxLen]; omega))
  have HB0 := Lib.hid (show Below w.heap.size w (w.alloc (.cells (zcells (.int .u32 0) F) 32)) from (Below.refl _ _).alloc (Nat.le_refl _) _)
  clear hmk
  go_loopw [6] (fun i wr => ∃ k : Nat, k ≤ N ∧ i = .int .i64 k ∧ Row wr w.heap.size 32 F (u32s (packK F bs k)) ∧ Below w.heap.size w wr) (fun i _ => N - (intOf i).toNat)
  case atStart => exact ⟨0, by omega, rfl, HS.out, HB0.out⟩
  case round =>
    clear HS HB0
    obtain ⟨k, hk, rfl, hrow, hbel⟩ := hrel
    by_cases hlt : k < N
    · obtain ⟨ad, u0, hA, _, hx, hcell0⟩ := (HRD.out.below (hbel.mono hB)).at_ hlt
      obtain ⟨x, hxe, rfl⟩ := u8c_at hx
      have hx8 := HBB.out x (List.mem_of_getElem? hxe)
      have hkF : k / 4 < F := by omega
      have hcw := hrow.cell (i := k / 4) (u := .int .u32 ((wordAt (bs.take k) (k / 4) : Nat) : Int)) (by simp [u32s, packK_get F bs k _ hkF])
      have hcf := hrow.frozen (k / 4)
      have hold := wordAt_low bs HBB.out k
      have hstep := packK_step F bs HBB.out k hkF
      have hsum := wordAt_sum bs HBB.out k
      have hxg : bs.getD k 0 = x := by simp [List.getD, hxe]
      rw [hsum, hxg] at hstep
      have hset := hrow.set (k / 4) (.int .u32 ((wordAt (bs.take k) (k / 4) + x * 256 ^ (k % 4) : Nat) : Int))
      rw [show (u32s (packK F bs k)).set (k / 4) (.int .u32 ((wordAt (bs.take k) (k / 4) + x * 256 ^ (k % 4) : Nat) : Int)) = u32s (packK F bs (k + 1)) by rw [← hstep]; simp [u32s]] at hset
      have hbig : wordAt (bs.take k) (k / 4) + x * 256 ^ (k % 4) ≤ 4294967295 := by
        rcases (by omega : k % 4 = 0 ∨ k % 4 = 1 ∨ k % 4 = 2 ∨ k % 4 = 3) with r | r | r | r <;> rw [r] at hold ⊢ <;> omega
      have HSET := Lib.hid hset
      clear hset hstep hxg hxe hx hrow hsum hold
      generalize wordAt (bs.take k) (k / 4) = old at *
      obtain ⟨j, hj⟩ : ∃ j, k / 4 = j := ⟨_, rfl⟩
      have hdiv : (k : Int) / 4 = (j : Int) := by omega
      rw [hj] at hcw hcf HSET hkF
      clear hj
      have HBEL := Lib.hid hbel
      clear hbel
      have hjF : (j : Int) < (F : Int) := by omega
      have hj0 : (0 : Int) ≤ (j : Int) := by omega
      subst hA
      have hr4 : k % 4 ≤ 3 := by omega
      have hmod : (k : Int) % 4 = ((k % 4 : Nat) : Int) := by omega
      generalize k % 4 = r at *
      have hbigI : (old : Int) + ((x * 256 ^ r : Nat) : Int) ≤ 4294967295 := by omega
      have HBIG := Lib.hid hbigI
      clear hbig hbigI
      obtain ⟨wo, hwo⟩ : ∃ wo : World, wo = wr := ⟨_, rfl⟩
      subst hwo
      go_wp2_with fail
      go_loop [7, 8] (fun v i => ∃ q : Nat, q ≤ r ∧ i = .int .i64 q ∧ v = .int .u32 ((x * 256 ^ q : Nat) : Int)) (fun _ i => r - (intOf i).toNat)
      case atStart => exact ⟨0, by omega, rfl, by simp⟩
      case round =>
        obtain ⟨q, hq, rfl, rfl⟩ := hrel
        by_cases hql : q < r
        · have hy : x * 256 ^ q ≤ 16777215 := Nat.le_trans (Nat.mul_le_mul (by omega : x ≤ 255) (pow256_le q (by omega))) (by omega)
          have HY := Lib.hid (show x * 256 ^ (q + 1) = x * 256 ^ q * 256 by rw [Nat.pow_succ, Nat.mul_assoc])
          generalize x * 256 ^ q = y at *
          go_wp2_with fail
          go_round
          case rel => exact ⟨q + 1, by omega, by go_num, by rw [HY.out]; go_num⟩
          case measure => simp [intOf]; omega
        · obtain rfl : q = r := by omega
          have hbigI := HBIG.out
          generalize x * 256 ^ q = y at *
          clear HBIG
          go_wp2_with fail
          go_roundw
          case rel => exact ⟨k + 1, by omega, by go_num, HSET.out, (HBEL.out.setCell (by simp) _)⟩
          case measure => simp [intOf]; omega
    · obtain rfl : k = N := by omega
      have HR := Lib.hid hrow
      have HBEL := Lib.hid hbel
      clear hrow hbel
      go_wp2_with fail
      go_ret
      refine ⟨w.heap.size, ?_, ?_, Nat.le_refl _, HBEL.out⟩
      · rw [HPL.out]; rfl
      · rw [HPL.out, HPK.out]
        exact HR.out
end Go.Proofs.YtlkahgagmfhdaaaGreatDoor

namespace Go.Proofs.YtlkahgagmfhdaaaGreatDoor
open Go.RowKit

theorem below_alloc1 {W w : World} {o : Obj} (h : Below W.heap.size W w) : Below W.heap.size W (w.alloc o) := h.alloc h.size o
theorem below_set5 {W w : World} {a b c d e : Value} {g : Nat} (h : Below W.heap.size W w) (hg : W.heap.size ≤ g := by simp) : Below W.heap.size W (((((w.setCell ⟨g, 0, none⟩ a).setCell ⟨g, 1, none⟩ b).setCell ⟨g, 2, none⟩ c).setCell ⟨g, 3, none⟩ d).setCell ⟨g, 4, none⟩ e) :=
  ((((h.setCell (p := ⟨g, 0, none⟩) hg _).setCell (p := ⟨g, 1, none⟩) hg _).setCell (p := ⟨g, 2, none⟩) hg _).setCell (p := ⟨g, 3, none⟩) hg _).setCell (p := ⟨g, 4, none⟩) hg _
theorem begin_one (b : Bool) : (((if b = true then 1 else 0 : Int)) == 1) = b := by cases b <;> rfl
section
variable {w : World} {p : HP} {h : HM} (R : RAt w p h) (f : h.Fit)
include R f
theorem ris_any (o : Nat) (ho : o < 4294967296) :
    Calls Tryz.prog 182 #[ptr p.g, .int .u32 o] w (Said (.bool (h.isB o)) w) := by
  have c4 := R.c4
  have hlen := f.marks
  have hroom := f.room
  have hhi := f.hi
  unfold ptr
  by_cases h0 : o = 0
  · subst h0
    have HF := Lib.hid (show h.isB 0 = false by simp [HM.isB, objB, kindM])
    go_enter Tryz.func182, Tryz.ntmps182
    go_wp2_with fail
    go_ret
    exact ⟨by rw [HF.out]; rfl, rfl⟩
  have hb : ((o : Int) != 0) = true := by simpa using h0
  by_cases h1 : o % 2 = 1
  · have HF := Lib.hid (show h.isB o = false by simp [HM.isB, objB, kindM, h0, h1])
    have hb2 : ((o : Int) % 2 == 0) = false := by simp; omega
    clear h0 h1
    go_enter Tryz.func182, Tryz.ntmps182
    go_wp2_with fail
    go_ret
    exact ⟨by rw [HF.out]; rfl, rfl⟩
  have hb2 : ((o : Int) % 2 == 0) = true := by simp; omega
  have hk : objB o = true := (objB_iff o).2 ⟨h0, by omega⟩
  by_cases hl : o / 2 < h.starts.length
  · have hcell := R.mark hl
    have HF := Lib.hid (show h.isB o = h.starts.getD (o / 2) false by simp [HM.isB, hk])
    generalize h.starts.getD (o / 2) false = b at *
    have hq : ((o : Int) / 2) = ((o / 2 : Nat) : Int) := by omega
    generalize o / 2 = q at *
    have hlt : (q : Int) < (h.starts.length : Int) := by omega
    have h1b := begin_one b
    clear hk h0 h1
    cases b
    all_goals
      go_enter Tryz.func182, Tryz.ntmps182
      go_wp2_with fail
      go_ret
      exact ⟨by rw [HF.out]; rfl, rfl⟩
  · have HF := Lib.hid (show h.isB o = false by rw [HM.isB, List.getD_eq_getElem?_getD, List.getElem?_eq_none (by omega)]; simp)
    have hq : ((o : Int) / 2) = ((o / 2 : Nat) : Int) := by omega
    generalize o / 2 = q at *
    have hlt : (h.starts.length : Int) ≤ (q : Int) := by omega
    clear hk h0 h1
    go_enter Tryz.func182, Tryz.ntmps182
    go_wp2_with fail
    go_ret
    exact ⟨by rw [HF.out]; rfl, rfl⟩
theorem risclass_any (o : Nat) (ho : o < 4294967296) :
    Calls Tryz.prog 159 #[ptr p.g, .int .u32 o] w (Said (.bool (h.clsB o)) w) := by
  have HI := Lib.hid (ris_any R f o ho)
  unfold ptr at HI ⊢
  by_cases h0 : o = 0
  · have HF := Lib.hid (show h.clsB o = true by simp [HM.clsB, h0])
    have hb : ((o : Int) == 0) = true := by simp; omega
    clear h0
    go_enter Tryz.func159, Tryz.ntmps159
    go_wp2_with fail
    go_ret
    exact ⟨by rw [HF.out]; rfl, rfl⟩
  · have HF := Lib.hid (show h.clsB o = h.isB o by simp [HM.clsB, h0])
    have hb : ((o : Int) == 0) = false := by simp; omega
    generalize h.isB o = b at *
    clear h0
    go_enter Tryz.func159, Tryz.ntmps159
    go_wp2_with fail
    refine HI.out.mono ?_
    rintro e w1 ⟨rfl, rfl⟩
    go_wp2_with fail
    go_ret
    exact ⟨by rw [HF.out]; rfl, rfl⟩
theorem rvalb_any (o : Nat) (ho : o < 4294967296) :
    Calls Tryz.prog 163 #[ptr p.g, .int .u32 o] w (Said (.bool (h.valB o)) w) := by
  have HI := Lib.hid (ris_any R f o ho)
  unfold ptr at HI ⊢
  by_cases h0 : o = 0
  · have HF := Lib.hid (show h.valB o = true by simp [HM.valB, objB, kindM, h0])
    have hb : ((o : Int) == 0) = true := by simp; omega
    clear h0
    go_enter Tryz.func163, Tryz.ntmps163
    go_wp2_with fail
    go_ret
    exact ⟨by rw [HF.out]; rfl, rfl⟩
  have hb : ((o : Int) == 0) = false := by simp; omega
  by_cases h1 : o % 2 = 1
  · have HF := Lib.hid (show h.valB o = true by simp [HM.valB, objB, kindM, h0, h1])
    have hb2 : ((o : Int) % 2 == 1) = true := by simp; omega
    clear h0 h1
    go_enter Tryz.func163, Tryz.ntmps163
    go_wp2_with fail
    go_ret
    exact ⟨by rw [HF.out]; rfl, rfl⟩
  · have HF := Lib.hid (show h.valB o = h.isB o by simp [HM.valB, objB, kindM, h0, h1])
    have hb2 : ((o : Int) % 2 == 1) = false := by simp; omega
    generalize h.isB o = b at *
    clear h0 h1
    go_enter Tryz.func163, Tryz.ntmps163
    go_wp2_with fail
    refine HI.out.mono ?_
    rintro e w1 ⟨rfl, rfl⟩
    go_wp2_with fail
    go_ret
    exact ⟨by rw [HF.out]; rfl, rfl⟩
set_option maxHeartbeats 2000000 in
set_option maxRecDepth 100000 in
theorem rheader_any (o : Nat) (ho : o < 4294967296) (hd : h.hdAt (o / 2)) :
    Calls Tryz.prog 152 #[ptr p.g, .int .u32 o] w (Told (h.hd (o / 2)).val w) := by
  have hb0 : ∀ o, Below w.heap.size w (w.alloc o) := fun o => (Below.refl _ _).alloc (Nat.le_refl _) _
  have B0 := R.1.alloc (.cells #[.int .i64 0, .int .i64 0, .int .i64 0, .int .u32 0, .int .u32 0] 75)
  have R' := R.below (hb0 (.cells #[.int .i64 0, .int .i64 0, .int .i64 0, .int .u32 0, .int .u32 0] 75))
  have c1 := R'.c1
  have hroom := f.room
  have hhi := f.hi
  have hd1 := hd.1
  have hd2 := hd.2
  have hw0 := R'.word (i := o / 2) (by omega)
  have hw1 := R'.word (i := o / 2 + 1) (by omega)
  have hw2 := R'.word (i := o / 2 + 2) (by omega)
  have HU := Lib.hid (fun w => runpack_any (h.w (o / 2)) (h.w (o / 2 + 1)) (h.w (o / 2 + 2)) (f.word _) (f.word _) (f.word _) w)
  have HV := Lib.hid (show unpackV (h.w (o / 2)) (h.w (o / 2 + 1)) (h.w (o / 2 + 2)) = .tuple #[(h.hd (o / 2)).val, .bool true] by unfold unpackV; rw [hd2]; rfl)
  rw [HV.out] at HU
  change _ = some (Value.int .u32 ((h.w (o / 2) : Nat) : Int)) at hw0
  change _ = some (Value.int .u32 ((h.w (o / 2 + 1) : Nat) : Int)) at hw1
  change _ = some (Value.int .u32 ((h.w (o / 2 + 2) : Nat) : Int)) at hw2
  have hq : ((o : Int) / 2) = ((o / 2 : Nat) : Int) := by omega
  have HX := Lib.hid (show (h.hd (o / 2)).val = .agg #[.int .i64 (h.hd (o / 2)).size, .int .i64 (h.hd (o / 2)).fmt, .int .i64 (h.hd (o / 2)).spare, .int .u32 (h.hd (o / 2)).cls, .int .u32 (h.hd (o / 2)).ser] from rfl)
  generalize o / 2 = q at *
  generalize h.w q = x0 at *
  generalize h.w (q + 1) = x1 at *
  generalize h.w (q + 2) = x2 at *
  have hlt0 : (q : Int) < (h.words.length : Int) := by omega
  have hlt1 : (q : Int) + 1 < (h.words.length : Int) := by omega
  have hlt2 : (q : Int) + 2 < (h.words.length : Int) := by omega
  have e1 : IntKind.i64.wrap ((q : Int) + 1) = (q : Int) + 1 := IntWalk.i64_in _ (by omega)
  have e2 : IntKind.i64.wrap ((q : Int) + 2) = (q : Int) + 2 := IntWalk.i64_in _ (by omega)
  have p1 : 0 ≤ (q : Int) + 1 := by omega
  have p2 : 0 ≤ (q : Int) + 2 := by omega
  have t1 : ((q : Int) + 1).toNat = q + 1 := by omega
  have t2 : ((q : Int) + 2).toNat = q + 2 := by omega
  have hg0 := R.1.lt
  clear R R' hd hd1 hd2 hb0 HV
  generalize h.hd q = x at *
  unfold ptr
  go_enter Tryz.func152, Tryz.ntmps152
  go_wp2_with fail
  generalize hW : w.alloc _ = W
  rw [hW] at c1 hw0 hw1 hw2 B0
  have hbW : Below w.heap.size w W := by rw [← hW]; exact (Below.refl _ _).alloc (Nat.le_refl _) _
  have BR : Blk W w.heap.size 75 #[.int .i64 0, .int .i64 0, .int .i64 0, .int .u32 0, .int .u32 0] := by rw [← hW]; exact Blk.new _ _ _
  clear hW B0
  have KC := Lib.hid (show ∀ W', Below W.heap.size W W' → W'.cell? ⟨p.g, 1, none⟩ = some (.slice (some ⟨p.gw, 0, none⟩) h.words.length p.cw) ∧ W'.cell? ⟨p.gw, q, none⟩ = some (.int .u32 (x0 : Int)) ∧ W'.cell? ⟨p.gw, q + 1, none⟩ = some (.int .u32 (x1 : Int)) ∧ W'.cell? ⟨p.gw, q + 2, none⟩ = some (.int .u32 (x2 : Int)) from fun W' hb =>
    ⟨(hb.cell (World.block_lt_of_cell? _ _ c1)).trans c1, (hb.cell (World.block_lt_of_cell? _ _ hw0)).trans hw0, (hb.cell (World.block_lt_of_cell? _ _ hw1)).trans hw1, (hb.cell (World.block_lt_of_cell? _ _ hw2)).trans hw2⟩)
  have HUA := Lib.hid (show Calls Tryz.prog 148 #[.agg #[.int .u32 x0, .int .u32 x1, .int .u32 x2]] W.drew fun e w1 => e = .returned (.tuple #[.agg #[.int .i64 x.size, .int .i64 x.fmt, .int .i64 x.spare, .int .u32 x.cls, .int .u32 x.ser], .bool true]) ∧ Below W.heap.size W w1 from
    by rw [← HX.out]; exact (HU.out _).mono fun _ _ ⟨h1, h2⟩ => ⟨h1, below_top (below_drew (Below.refl _ _)) h2⟩)
  have HUB := Lib.hid (show Calls Tryz.prog 148 #[.agg #[.int .u32 x0, .int .u32 x1, .int .u32 x2]] (W.alloc (.cells #[.int .i64 0, .int .i64 0, .int .i64 0, .int .u32 0, .int .u32 0] 75)).drew fun e w1 => e = .returned (.tuple #[.agg #[.int .i64 x.size, .int .i64 x.fmt, .int .i64 x.spare, .int .u32 x.cls, .int .u32 x.ser], .bool true]) ∧ Below W.heap.size W w1 ∧ Blk w1 W.heap.size 75 #[.int .i64 0, .int .i64 0, .int .i64 0, .int .u32 0, .int .u32 0] from
    by rw [← HX.out]; exact (HU.out _).mono fun _ _ ⟨h1, h2⟩ => ⟨h1, below_top (below_drew (below_alloc1 (Below.refl _ _))) h2, ((Blk.new W _ _).drew).below h2 (by simp [World.drew])⟩)
  have hb0 := Below.refl W.heap.size W
  have hn1 : W.heap.size ≠ p.gw := by have := World.block_lt_of_cell? _ _ hw0; simp only at this; omega
  have hn2 : W.heap.size ≠ p.g := by have := World.block_lt_of_cell? _ _ c1; simp only at this; omega
  go_cut [6] (fun v wx => ∃ g, v = ptr g ∧ Below W.heap.size W wx ∧ Blk wx g 75 #[.int .i64 x.size, .int .i64 x.fmt, .int .i64 x.spare, .int .u32 x.cls, .int .u32 x.ser] ∧ W.heap.size ≤ g)
  case first =>
    go_region_held3 (fun w' => w'.cell? ⟨p.g, 1, none⟩ = some (.slice (some ⟨p.gw, 0, none⟩) h.words.length p.cw) ∧ w'.cell? ⟨p.gw, q, none⟩ = some (.int .u32 (x0 : Int)) ∧ w'.cell? ⟨p.gw, q + 1, none⟩ = some (.int .u32 (x1 : Int)) ∧ w'.cell? ⟨p.gw, q + 2, none⟩ = some (.int .u32 (x2 : Int)))
      (first | with_reducible exact KC.out _ hb0 | with_reducible exact KC.out _ (Below.drew hb0) | with_reducible exact KC.out _ (below_alloc1 hb0) | with_reducible exact KC.out _ (Below.drew (below_alloc1 hb0)) | with_reducible exact KC.out _ hk | with_reducible exact KC.out _ (below_alloc1 hk) | with_reducible exact KC.out _ (below_set5 hk (Nat.le_refl _)))
      (first
        | (go_at_call 148; (with_reducible refine HUA.out.mono ?_); rintro e w1 ⟨rfl, hk⟩)
        | (go_at_call 148; (with_reducible refine HUB.out.mono ?_); rintro e w1 ⟨rfl, hk, hB6⟩; obtain ⟨g0, g1, g2, g3, g4⟩ := hB6.cells5; have hgz := hB6.fz; have hgl := hB6.lt))
    all_goals go_wp2_with fail
    all_goals go_meet
    · exact ⟨_, rfl, below_alloc1 hk, Blk.new _ _ _, hk.size⟩
    · exact ⟨_, rfl, below_set5 hk (Nat.le_refl _), hB6.setAll5 _ _ _ _ _, Nat.le_refl _⟩
  case rest =>
    obtain ⟨gx, rfl, hbc, BX, hgx⟩ := hcut
    have BR' := BR.below hbc BR.lt
    have hb := hbW.trans (hbc.mono hbW.size)
    clear KC HUA HUB hb0 hbc HU hw0 hw1 hw2 c1 BR
    obtain ⟨d0, d1, d2, d3, d4⟩ := BR'.cells5
    obtain ⟨b0, b1, b2, b3, b4⟩ := BX.cells5
    have z1 := BR'.fz
    have hz := BR'.lt
    unfold ptr
    go_wp2_with fail
    refine bodyPost_ret (v := .agg #[.int .i64 x.size, .int .i64 x.fmt, .int .i64 x.spare, .int .u32 x.cls, .int .u32 x.ser]) (by simp [results, Tryz.results152, go_sem, d0, d1, d2, d3, d4]) rfl ⟨by rw [HX.out], ?_⟩
    exact (((((hb.setCell (by simp) _).setCell (by simp) _).setCell (by simp) _).setCell (by simp) _).setCell (by simp) _)
end
end Go.Proofs.YtlkahgagmfhdaaaGreatDoor

namespace Go.Proofs.YtlkahgagmfhdaaaGreatDoor
open Go.RowKit

/-- What place answers, for elements of format F (fs: the formats that are looked at so). -/
def HM.placeV (h : HM) (o : Nat) (i : Int) (F : Nat) (fs : List Nat) : Value :=
  .tuple #[.int .i64 ((if h.lookE o i fs = 0 then o / 2 + 3 + (if F = 2 then i.toNat / 4 else i.toNat) else 0 : Nat) : Int), .int .i64 (h.lookE o i fs)]
theorem fld1 : ∀ (a b c d e : Value) (w : World), (Instr.field 75 (.agg #[a, b, c, d, e]) 1).run Tryz.prog w = .ok b w := fun a b c d e w => by kernel_rfl
theorem fld0 : ∀ (a b c d e : Value) (w : World), (Instr.field 75 (.agg #[a, b, c, d, e]) 0).run Tryz.prog w = .ok a w := fun a b c d e w => by kernel_rfl
theorem fld4 : ∀ (a b c d e : Value) (w : World), (Instr.field 75 (.agg #[a, b, c, d, e]) 4).run Tryz.prog w = .ok e w := fun a b c d e w => by kernel_rfl
theorem contains_cases {F t : Nat} {fs : List Nat} (hf : (F = 1 ∧ fs = [1, 4]) ∨ (F = 2 ∧ fs = [2]) ∨ (F = 3 ∧ fs = [3])) :
    (fs.contains t = true ∧ t = F) ∨ (fs.contains t = true ∧ t ≠ F ∧ t = 4 ∧ F = 1) ∨ (fs.contains t = false ∧ t ≠ F ∧ t ≠ 4) ∨ (fs.contains t = false ∧ t ≠ F ∧ t = 4 ∧ F ≠ 1) := by
  rcases hf with ⟨rfl, rfl⟩ | ⟨rfl, rfl⟩ | ⟨rfl, rfl⟩
  · by_cases h1 : t = 1
    · subst h1; exact .inl ⟨by decide, rfl⟩
    · by_cases h4 : t = 4
      · subst h4; exact .inr (.inl ⟨by decide, by decide, rfl, rfl⟩)
      · exact .inr (.inr (.inl ⟨by simp [h1, h4], h1, h4⟩))
  · by_cases h1 : t = 2
    · subst h1; exact .inl ⟨by decide, rfl⟩
    · by_cases h4 : t = 4
      · subst h4; exact .inr (.inr (.inr ⟨by decide, by decide, rfl, by decide⟩))
      · exact .inr (.inr (.inl ⟨by simp [h1], h1, h4⟩))
  · by_cases h1 : t = 3
    · subst h1; exact .inl ⟨by decide, rfl⟩
    · by_cases h4 : t = 4
      · subst h4; exact .inr (.inr (.inr ⟨by decide, by decide, rfl, by decide⟩))
      · exact .inr (.inr (.inl ⟨by simp [h1], h1, h4⟩))
theorem hd_parts {h : HM} (f : h.Fit) (i : Nat) (hi : h.hdAt i) : (h.hd i).len < 4294967296 ∧ ((h.hd i).fmt = 2 → (h.hd i).spare ≤ 4 * (h.hd i).size) ∧ (h.hd i).size < 16777216 ∧ (h.hd i).fmt < 8 ∧ (h.hd i).spare < 4 := by
  have hx := HM.hd_fit f i
  refine ⟨?_, hi.sane, hx.size, hx.fmt, hx.spare⟩
  have := hx.size
  unfold Hd.len
  split <;> omega

section
variable {w : World} {p : HP} {h : HM} (R : RAt w p h) (f : h.Fit) (o : Nat) (ho : o < 4294967296)
include R f ho
theorem rlen_any (hd : h.hdAt (o / 2)) : Calls Tryz.prog 153 #[ptr p.g, .int .u32 o] w (Told (.int .i64 (h.hd (o / 2)).len) w) := by
  have HH := Lib.hid (rheader_any R f o ho hd)
  obtain ⟨h1, h2, h3, h4, h5⟩ := hd_parts f _ hd
  have HX := Lib.hid (show (h.hd (o / 2)).val = .agg #[.int .i64 (h.hd (o / 2)).size, .int .i64 (h.hd (o / 2)).fmt, .int .i64 (h.hd (o / 2)).spare, .int .u32 (h.hd (o / 2)).cls, .int .u32 (h.hd (o / 2)).ser] from rfl)
  clear hd
  generalize h.hd (o / 2) = x at *
  unfold ptr at HH ⊢
  by_cases hf : x.fmt = 2
  · have HL := Lib.hid (show ((x.len : Nat) : Int) = 4 * (x.size : Int) - x.spare by have := h2 hf; unfold Hd.len; rw [if_pos hf]; omega)
    have hq : ((x.fmt : Int) == 2) = true := by simp; omega
    clear h2 hf h1
    go_enter Tryz.func153, Tryz.ntmps153
    go_wp2_with fail
    refine HH.out.mono ?_
    rintro e w1 ⟨rfl, hb1⟩
    rw [HX.out]
    go_wp2_with fail
    go_ret
    exact ⟨by rw [HL.out]; rfl, hb1.alloc hb1.size _⟩
  · have HL := Lib.hid (show x.len = x.size by unfold Hd.len; rw [if_neg hf])
    have hq : ((x.fmt : Int) == 2) = false := by simp; omega
    clear h2 hf h1
    go_enter Tryz.func153, Tryz.ntmps153
    go_wp2_with fail
    refine HH.out.mono ?_
    rintro e w1 ⟨rfl, hb1⟩
    rw [HX.out]
    go_wp2_with fail
    go_ret
    exact ⟨by rw [HL.out]; rfl, hb1.alloc hb1.size _⟩

set_option maxRecDepth 100000 in
set_option maxHeartbeats 2000000 in
theorem rplace_any (hh : h.Heads) (i : Int) (F : Nat) (fs : List Nat) (hF : (F = 1 ∧ fs = [1, 4]) ∨ (F = 2 ∧ fs = [2]) ∨ (F = 3 ∧ fs = [3])) (hi1 : i ≤ 9223372036854775807) :
    Calls Tryz.prog 186 #[ptr p.g, .int .u32 o, .int .i64 F, .int .i64 i] w (Told (h.placeV o i F fs) w) := by
  have HI := Lib.hid (ris_any R f o ho)
  have hfl := fld1
  cases hi : h.isB o
  · have HV := Lib.hid (show h.placeV o i F fs = .tuple #[.int .i64 0, .int .i64 3] by simp [HM.placeV, HM.lookE, hi])
    rw [hi] at HI
    clear hi hF
    unfold ptr at HI ⊢
    go_enter Tryz.func186, Tryz.ntmps186
    go_wp2_with fail
    refine HI.out.mono ?_
    rintro e w1 ⟨rfl, rfl⟩
    go_wp2_with fail
    go_ret2
    exact ⟨by rw [HV.out]; rfl, Below.refl _ _⟩
  · have hd := HM.isB_hd hh hi
    have HH := Lib.hid (rheader_any R f o ho hd)
    have HL := Lib.hid (fun w' (hb : Below w.heap.size w w') => rlen_any (R.below hb) f o ho hd)
    obtain ⟨g1, g2, g3, g4, g5⟩ := hd_parts f _ hd
    have HE := Lib.hid (show h.lookE o i fs = if fs.contains (h.hd (o / 2)).fmt = false then 21 else if i < 0 ∨ ((h.hd (o / 2)).len : Int) ≤ i then 1 else 0 by simp [HM.lookE, hi])
    have HV := Lib.hid (show h.placeV o i F fs = .tuple #[.int .i64 ((if h.lookE o i fs = 0 then o / 2 + 3 + (if F = 2 then i.toNat / 4 else i.toNat) else 0 : Nat) : Int), .int .i64 (h.lookE o i fs)] from rfl)
    rw [HE.out] at HV
    rw [hi] at HI
    have HX := Lib.hid (show (h.hd (o / 2)).val = .agg #[.int .i64 (h.hd (o / 2)).size, .int .i64 (h.hd (o / 2)).fmt, .int .i64 (h.hd (o / 2)).spare, .int .u32 (h.hd (o / 2)).cls, .int .u32 (h.hd (o / 2)).ser] from rfl)
    have hcc := contains_cases (t := (h.hd (o / 2)).fmt) hF
    have hF3 : F ≤ 3 := by omega
    clear hd hi HE g2 hF hh
    have hq : ((o : Int) / 2) = ((o / 2 : Nat) : Int) := by omega
    have hq2 : o / 2 < 2147483648 := by omega
    generalize h.hd (o / 2) = x at *
    generalize o / 2 = q at *
    unfold ptr at HI HH HL ⊢
    rw [HX.out] at HH
    have bad : ∀ (t4 : Prop), (fs.contains x.fmt = false ∧ x.fmt ≠ F ∧ t4) → Hid (h.placeV o i F fs = .tuple #[.int .i64 0, .int .i64 21]) := fun _ ⟨hc, _, _⟩ => Lib.hid (by rw [HV.out, hc]; simp)
    have good : fs.contains x.fmt = true → Hid (h.placeV o i F fs = .tuple #[.int .i64 ((if (if i < 0 ∨ (x.len : Int) ≤ i then 1 else 0) = 0 then q + 3 + (if F = 2 then i.toNat / 4 else i.toNat) else 0 : Nat) : Int), .int .i64 ((if i < 0 ∨ (x.len : Int) ≤ i then 1 else 0 : Nat) : Int)]) := fun hc => Lib.hid (by rw [HV.out, hc]; simp)
    have fin : fs.contains x.fmt = true → ((((x.fmt : Int) != F) = false) ∨ (((x.fmt : Int) != F) = true ∧ ((x.fmt : Int) != 4) = false ∧ ((F : Int) != 1) = false)) →
        Calls Tryz.prog 186 #[.pointer (some ⟨p.g, 0, none⟩), .int .u32 o, .int .i64 F, .int .i64 i] w (Told (h.placeV o i F fs) w) := by
      intro hc ht
      have HG := good hc
      clear good bad HV hcc hc
      by_cases hneg : i < 0
      · have HP := Lib.hid (show h.placeV o i F fs = .tuple #[.int .i64 0, .int .i64 1] by rw [HG.out, show (if i < 0 ∨ (x.len : Int) ≤ i then 1 else 0) = 1 from if_pos (Or.inl hneg)]; simp)
        clear HG
        have hd : decide (i < 0) = true := by simpa using hneg
        rcases ht with ht | ⟨ht, ht2, ht3⟩
        all_goals
          go_enter Tryz.func186, Tryz.ntmps186
          go_wp2_with fail
          refine HI.out.mono ?_
          rintro e w1 ⟨rfl, rfl⟩
          go_wp2_with fail
          refine HH.out.mono ?_
          rintro e w1 ⟨rfl, hb1⟩
          go_wp2_with fail
          go_ret2
          exact ⟨by rw [HP.out]; rfl, hb1⟩
      · have hd : decide (i < 0) = false := by simpa using hneg
        by_cases hge : (x.len : Int) ≤ i
        · have HP := Lib.hid (show h.placeV o i F fs = .tuple #[.int .i64 0, .int .i64 1] by rw [HG.out, show (if i < 0 ∨ (x.len : Int) ≤ i then 1 else 0) = 1 from if_pos (Or.inr hge)]; simp)
          clear HG
          have hd2 : decide ((x.len : Int) ≤ i) = true := by simpa using hge
          rcases ht with ht | ⟨ht, ht2, ht3⟩
          all_goals
            go_enter Tryz.func186, Tryz.ntmps186
            go_wp2_with fail
            refine HI.out.mono ?_
            rintro e w1 ⟨rfl, rfl⟩
            go_wp2_with fail
            refine HH.out.mono ?_
            rintro e w1 ⟨rfl, hb1⟩
            go_wp2_with fail
            refine (HL.out _ hb1).mono ?_
            rintro e w2 ⟨rfl, hb2⟩
            go_wp2_with fail
            go_ret2
            exact ⟨by rw [HP.out]; rfl, below_top hb1 hb2⟩
        · have hd2 : decide ((x.len : Int) ≤ i) = false := by simpa using hge
          obtain ⟨k, rfl⟩ := Int.eq_ofNat_of_zero_le (by omega : 0 ≤ i)
          have HP := Lib.hid (show h.placeV o k F fs = .tuple #[.int .i64 ((q + 3 + (if F = 2 then k / 4 else k) : Nat) : Int), .int .i64 0] by rw [HG.out, show (if (k : Int) < 0 ∨ (x.len : Int) ≤ (k : Int) then 1 else 0) = 0 from if_neg (by omega)]; simp)
          have hk : k < 4294967296 := by omega
          clear HG
          by_cases h2 : F = 2
          · have hp2 : ((F : Int) == 2) = true := by simp; omega
            rw [if_pos h2] at HP
            clear h2
            rcases ht with ht | ⟨ht, ht2, ht3⟩
            all_goals
              go_enter Tryz.func186, Tryz.ntmps186
              go_wp2_with fail
              refine HI.out.mono ?_
              rintro e w1 ⟨rfl, rfl⟩
              go_wp2_with fail
              refine HH.out.mono ?_
              rintro e w1 ⟨rfl, hb1⟩
              go_wp2_with fail
              refine (HL.out _ hb1).mono ?_
              rintro e w2 ⟨rfl, hb2⟩
              go_wp2_with fail
              go_ret2
              exact ⟨by rw [HP.out]; simp, below_top hb1 hb2⟩
          · have hp2 : ((F : Int) == 2) = false := by simp; omega
            rw [if_neg h2] at HP
            clear h2
            rcases ht with ht | ⟨ht, ht2, ht3⟩
            all_goals
              go_enter Tryz.func186, Tryz.ntmps186
              go_wp2_with fail
              refine HI.out.mono ?_
              rintro e w1 ⟨rfl, rfl⟩
              go_wp2_with fail
              refine HH.out.mono ?_
              rintro e w1 ⟨rfl, hb1⟩
              go_wp2_with fail
              refine (HL.out _ hb1).mono ?_
              rintro e w2 ⟨rfl, hb2⟩
              go_wp2_with fail
              go_ret2
              exact ⟨by rw [HP.out]; simp, below_top hb1 hb2⟩
    rcases hcc with ⟨hc, he⟩ | ⟨hc, h1, h4, hF1⟩ | ⟨hc, h1, h4⟩ | ⟨hc, h1, h4, hF1⟩
    · exact fin hc (.inl (by simp [he]))
    · exact fin hc (.inr ⟨by simp; omega, by simp; omega, by simp; omega⟩)
    · have HB := bad _ ⟨hc, h1, h4⟩
      have ht : ((x.fmt : Int) != F) = true := by simp; omega
      have ht2 : ((x.fmt : Int) != 4) = true := by simp; omega
      clear bad good fin HV hc h1 h4
      go_enter Tryz.func186, Tryz.ntmps186
      go_wp2_with fail
      refine HI.out.mono ?_
      rintro e w1 ⟨rfl, rfl⟩
      go_wp2_with fail
      refine HH.out.mono ?_
      rintro e w1 ⟨rfl, hb1⟩
      go_wp2_with fail
      go_ret2
      exact ⟨by rw [HB.out]; rfl, hb1⟩
    · have HB := bad _ ⟨hc, h1, trivial⟩
      have ht : ((x.fmt : Int) != F) = true := by simp; omega
      have ht2 : ((x.fmt : Int) != 4) = false := by simp; omega
      have ht3 : ((F : Int) != 1) = true := by simp; omega
      clear bad good fin HV hc h1 h4 hF1
      go_enter Tryz.func186, Tryz.ntmps186
      go_wp2_with fail
      refine HI.out.mono ?_
      rintro e w1 ⟨rfl, rfl⟩
      go_wp2_with fail
      refine HH.out.mono ?_
      rintro e w1 ⟨rfl, hb1⟩
      go_wp2_with fail
      go_ret2
      exact ⟨by rw [HB.out]; rfl, hb1⟩
end
end Go.Proofs.YtlkahgagmfhdaaaGreatDoor

namespace Go.Proofs.YtlkahgagmfhdaaaGreatDoor
open Go.RowKit

theorem look_at {h : HM} (hh : h.Heads) {o : Nat} {i : Int} {F : Nat} {fs : List Nat} (hF : (F = 1 ∧ fs = [1, 4]) ∨ (F = 2 ∧ fs = [2]) ∨ (F = 3 ∧ fs = [3])) (he : h.lookE o i fs = 0) :
    ∃ k : Nat, i = k ∧ o / 2 + 3 + (if F = 2 then k / 4 else k) < h.words.length := by
  obtain ⟨hi, hc, h0, hlt⟩ := HM.look_ok he
  have hd := (HM.isB_hd hh hi).1
  obtain ⟨k, rfl⟩ := Int.eq_ofNat_of_zero_le h0
  refine ⟨k, rfl, ?_⟩
  unfold Hd.len at hlt
  rcases hF with ⟨rfl, rfl⟩ | ⟨rfl, rfl⟩ | ⟨rfl, rfl⟩
  · rw [if_neg (fun e => by rw [e] at hc; simp at hc)] at hlt
    rw [if_neg (by omega)]; omega
  · rw [if_pos (by simpa using hc)] at hlt
    rw [if_pos rfl]; omega
  · rw [if_neg (fun e => by rw [e] at hc; simp at hc)] at hlt
    rw [if_neg (by omega)]; omega
theorem HM.placeV_no {h : HM} {o F : Nat} {i : Int} {fs : List Nat} (he : h.lookE o i fs ≠ 0) : h.placeV o i F fs = .tuple #[.int .i64 0, .int .i64 (h.lookE o i fs)] := by
  unfold HM.placeV; rw [if_neg he]; rfl
theorem HM.placeV_at {h : HM} {o F k : Nat} {fs : List Nat} (he : h.lookE o k fs = 0) : h.placeV o k F fs = .tuple #[.int .i64 ((o / 2 + 3 + (if F = 2 then k / 4 else k) : Nat) : Int), .int .i64 0] := by
  unfold HM.placeV; rw [if_pos he, he, Int.toNat_natCast]; rfl
def RDeeds (p : HP) (h' : HM) (E : Nat) (w : World) (e : Ending) (w' : World) : Prop := e = .returned (.int .i64 E) ∧ RAt w' p h' ∧ Step p p w w'

section
variable {w : World} {p : HP} {h : HM} (R : RAt w p h) (f : h.Fit) (hh : h.Heads) (o : Nat) (ho : o < 4294967296) (i : Int) (hi63 : i ≤ 9223372036854775807)
include R f hh ho hi63

set_option maxRecDepth 100000 in
theorem rget_any : Calls Tryz.prog 156 #[ptr p.g, .int .u32 o, .int .i64 i] w (Told (.tuple #[.int .u32 (h.readN o i [1, 4] : Nat), .int .i64 (h.lookE o i [1, 4] : Nat)]) w) := by
  have HP := Lib.hid (rplace_any R f o ho hh i 1 [1, 4] (by decide) hi63)
  have hle := h.lookE_lt o i [1, 4]
  by_cases he : h.lookE o i [1, 4] = 0
  · obtain ⟨k, rfl, hk⟩ := look_at hh (F := 1) (fs := [1, 4]) (by decide) he
    rw [HM.placeV_at he] at HP
    simp only [Nat.reduceEqDiff, if_false] at HP hk
    have HN := Lib.hid (show h.readN o k [1, 4] = fw h o k by unfold HM.readN; rw [if_pos he]; rfl)
    have HC := Lib.hid (show ∀ w', Below w.heap.size w w' → w'.cell? ⟨p.g, 1, none⟩ = some (.slice (some ⟨p.gw, 0, none⟩) h.words.length p.cw) ∧ w'.cell? ⟨p.gw, o / 2 + 3 + k, none⟩ = some (.int .u32 (fw h o k : Nat)) from fun w' hb => ⟨(R.below hb).c1, (R.below hb).word hk⟩)
    have hmx := f.room
    have hmx2 := f.hi
    rw [HN.out, he]
    clear he hle HN R f hh
    generalize fw h o k = v at *
    generalize o / 2 + 3 + k = q at *
    generalize h.words.length = len at *
    unfold ptr at HP ⊢
    go_enter Tryz.func156, Tryz.ntmps156
    go_wp2_with fail
    refine HP.out.mono ?_
    rintro e w1 ⟨rfl, hb⟩
    obtain ⟨c1, cv⟩ := HC.out _ hb
    go_wp2_with fail
    go_ret2
    exact ⟨rfl, hb⟩
  · have hne : ((h.lookE o i [1, 4] : Int) != 0) = true := by simp; omega
    rw [HM.placeV_no he] at HP
    have HN := Lib.hid (show h.readN o i [1, 4] = 0 by unfold HM.readN; rw [if_neg he])
    rw [HN.out]
    generalize h.lookE o i [1, 4] = E at *
    clear he HN
    unfold ptr at HP ⊢
    go_enter Tryz.func156, Tryz.ntmps156
    go_wp2_with fail
    refine HP.out.mono ?_
    rintro e w1 ⟨rfl, hb⟩
    go_wp2_with fail
    go_ret2
    exact ⟨rfl, hb⟩

set_option maxRecDepth 100000 in
theorem rword_any : Calls Tryz.prog 155 #[ptr p.g, .int .u32 o, .int .i64 i] w (Told (.tuple #[.int .u32 (h.readN o i [3] : Nat), .int .i64 (h.lookE o i [3] : Nat)]) w) := by
  have HP := Lib.hid (rplace_any R f o ho hh i 3 [3] (by decide) hi63)
  have hle := h.lookE_lt o i [3]
  by_cases he : h.lookE o i [3] = 0
  · obtain ⟨k, rfl, hk⟩ := look_at hh (F := 3) (fs := [3]) (by decide) he
    rw [HM.placeV_at he] at HP
    simp only [Nat.reduceEqDiff, if_false] at HP hk
    have HN := Lib.hid (show h.readN o k [3] = fw h o k by unfold HM.readN; rw [if_pos he]; rfl)
    have HC := Lib.hid (show ∀ w', Below w.heap.size w w' → w'.cell? ⟨p.g, 1, none⟩ = some (.slice (some ⟨p.gw, 0, none⟩) h.words.length p.cw) ∧ w'.cell? ⟨p.gw, o / 2 + 3 + k, none⟩ = some (.int .u32 (fw h o k : Nat)) from fun w' hb => ⟨(R.below hb).c1, (R.below hb).word hk⟩)
    have hmx := f.room
    have hmx2 := f.hi
    rw [HN.out, he]
    clear he hle HN R f hh
    generalize fw h o k = v at *
    generalize o / 2 + 3 + k = q at *
    generalize h.words.length = len at *
    unfold ptr at HP ⊢
    go_enter Tryz.func155, Tryz.ntmps155
    go_wp2_with fail
    refine HP.out.mono ?_
    rintro e w1 ⟨rfl, hb⟩
    obtain ⟨c1, cv⟩ := HC.out _ hb
    go_wp2_with fail
    go_ret2
    exact ⟨rfl, hb⟩
  · have hne : ((h.lookE o i [3] : Int) != 0) = true := by simp; omega
    rw [HM.placeV_no he] at HP
    have HN := Lib.hid (show h.readN o i [3] = 0 by unfold HM.readN; rw [if_neg he])
    rw [HN.out]
    generalize h.lookE o i [3] = E at *
    clear he HN
    unfold ptr at HP ⊢
    go_enter Tryz.func155, Tryz.ntmps155
    go_wp2_with fail
    refine HP.out.mono ?_
    rintro e w1 ⟨rfl, hb⟩
    go_wp2_with fail
    go_ret2
    exact ⟨rfl, hb⟩

set_option maxRecDepth 100000 in
set_option maxHeartbeats 2000000 in
theorem rbyte_any : Calls Tryz.prog 154 #[ptr p.g, .int .u32 o, .int .i64 i] w (Told (.tuple #[.int .u8 (h.byteN o i : Nat), .int .i64 (h.lookE o i [2] : Nat)]) w) := by
  have HP := Lib.hid (rplace_any R f o ho hh i 2 [2] (by decide) hi63)
  have hle := h.lookE_lt o i [2]
  by_cases he : h.lookE o i [2] = 0
  · obtain ⟨k, rfl, hk⟩ := look_at hh (F := 2) (fs := [2]) (by decide) he
    rw [HM.placeV_at he] at HP
    simp only [if_true] at HP hk
    have HN := Lib.hid (show h.byteN o k = byteOf (fw h o (k / 4)) (k % 4) by unfold HM.byteN; rw [if_pos he]; rfl)
    have HC := Lib.hid (show ∀ w', Below w.heap.size w w' → w'.cell? ⟨p.g, 1, none⟩ = some (.slice (some ⟨p.gw, 0, none⟩) h.words.length p.cw) ∧ w'.cell? ⟨p.gw, o / 2 + 3 + k / 4, none⟩ = some (.int .u32 (fw h o (k / 4) : Nat)) from fun w' hb => ⟨(R.below hb).c1, (R.below hb).word hk⟩)
    have hmx := f.room
    have hmx2 := f.hi
    have hv : fw h o (k / 4) < 4294967296 := f.word _
    rw [HN.out, he]
    clear he hle HN R f hh
    generalize fw h o (k / 4) = v at *
    generalize o / 2 + 3 + k / 4 = q at *
    generalize h.words.length = len at *
    unfold ptr at HP ⊢
    rcases (by omega : k % 4 = 0 ∨ k % 4 = 1 ∨ k % 4 = 2 ∨ k % 4 = 3) with hr | hr | hr | hr
    all_goals
      have hmod : (k : Int) % 4 = ((k % 4 : Nat) : Int) := by omega
      rw [hr] at hmod
      have HFIN := Lib.hid (show ((byteOf v (k % 4) : Nat) : Int) = (v : Int) / ((2 ^ (8 * (k % 4)) : Nat) : Int) % 256 by unfold byteOf; simp)
      rw [hr] at HFIN
      rw [hr]
      clear hr
      go_enter Tryz.func154, Tryz.ntmps154
      go_wp2_with fail
      refine HP.out.mono ?_
      rintro e w1 ⟨rfl, hb⟩
      obtain ⟨c1, cv⟩ := HC.out _ hb
      go_wp2_with fail
      go_ret2
      refine ⟨?_, hb⟩
      rw [HFIN.out]
      first
        | (simp; done)
        | (simp; omega)
        | trace_state
  · have hne : ((h.lookE o i [2] : Int) != 0) = true := by simp; omega
    rw [HM.placeV_no he] at HP
    have HN := Lib.hid (show h.byteN o i = 0 by unfold HM.byteN; rw [if_neg he])
    rw [HN.out]
    generalize h.lookE o i [2] = E at *
    clear he HN
    unfold ptr at HP ⊢
    go_enter Tryz.func154, Tryz.ntmps154
    go_wp2_with fail
    refine HP.out.mono ?_
    rintro e w1 ⟨rfl, hb⟩
    go_wp2_with fail
    go_ret2
    exact ⟨rfl, hb⟩
end
end Go.Proofs.YtlkahgagmfhdaaaGreatDoor

namespace Go.Proofs.YtlkahgagmfhdaaaGreatDoor
open Go.RowKit

section
variable {w : World} {p : HP} {h : HM} (R : RAt w p h) (f : h.Fit) (hh : h.Heads) (o : Nat) (ho : o < 4294967296) (i : Int) (hi63 : i ≤ 9223372036854775807)
include R f hh ho hi63

set_option maxRecDepth 100000 in
theorem rput_any (v : Nat) (hv : v < 4294967296) : Calls Tryz.prog 124 #[ptr p.g, .int .u32 o, .int .i64 i, .int .u32 v] w (RDeeds p (h.putH o i v) (h.putE o i v) w) := by
  have HP := Lib.hid (rplace_any R f o ho hh i 1 [1, 4] (by decide) hi63)
  have HVC := Lib.hid (fun w' (hb : Below w.heap.size w w') => rvalb_any (R.below hb) f v hv)
  have HR := Lib.hid (fun w' (hb : Below w.heap.size w w') => R.below hb)
  have hle := h.lookE_lt o i [1, 4]
  by_cases he : h.lookE o i [1, 4] = 0
  · obtain ⟨k, rfl, hk⟩ := look_at hh (F := 1) (fs := [1, 4]) (by decide) he
    rw [HM.placeV_at he] at HP
    simp only [Nat.reduceEqDiff, if_false] at HP hk
    have hE : h.putE o k v = if h.valB v then 0 else 3 := by unfold HM.putE; rw [if_pos he]
    have hmx := f.room
    have hmx2 := f.hi
    unfold ptr at HP HVC ⊢
    cases hval : h.valB v
    · have HF := Lib.hid (show h.putE o k v = 3 ∧ h.putH o k v = h by rw [hval] at hE; unfold HM.putH; rw [hE]; exact ⟨rfl, rfl⟩)
      rw [hval] at HVC
      clear he hle hE hval hh R f
      generalize o / 2 + 3 + k = q at *
      go_enter Tryz.func124, Tryz.ntmps124
      go_wp2_with fail
      refine HP.out.mono ?_
      rintro e w1 ⟨rfl, hb⟩
      go_wp2_with fail
      refine (HVC.out _ hb).mono ?_
      rintro e w2 ⟨rfl, rfl⟩
      go_wp2_with fail
      go_ret
      exact ⟨by rw [HF.out.1]; rfl, by rw [HF.out.2]; exact HR.out _ hb, .of_below hb⟩
    · have HF := Lib.hid (show h.putE o k v = 0 ∧ h.putH o k v = h.setF o k v by rw [hval] at hE; unfold HM.putH; rw [hE]; exact ⟨rfl, rfl⟩)
      rw [hval] at HVC
      have HC := Lib.hid (show ∀ w', Below w.heap.size w w' → w'.cell? ⟨p.g, 1, none⟩ = some (.slice (some ⟨p.gw, 0, none⟩) h.words.length p.cw) ∧ w'.cell? ⟨p.gw, o / 2 + 3 + k, none⟩ = some (.int .u32 (fw h o k : Nat)) ∧ w'.frozen? ⟨p.gw, o / 2 + 3 + k, none⟩ = false from fun w' hb => ⟨(R.below hb).c1, (R.below hb).word hk, (R.below hb).2.1.frozen _⟩)
      have HS := Lib.hid (show ∀ w', Below w.heap.size w w' → RAt (w'.setCell ⟨p.gw, o / 2 + 3 + k, none⟩ (.int .u32 v)) p (h.setF o k v) from fun w' hb => (R.below hb).setWord _ _)
      rw [← HF.out.2] at HS
      clear he hle hE hval hh R f
      generalize fw h o k = v0 at *
      generalize o / 2 + 3 + k = q at *
      generalize h.words.length = len at *
      go_enter Tryz.func124, Tryz.ntmps124
      go_wp2_with fail
      refine HP.out.mono ?_
      rintro e w1 ⟨rfl, hb⟩
      go_wp2_with fail
      refine (HVC.out _ hb).mono ?_
      rintro e w2 ⟨rfl, rfl⟩
      obtain ⟨c1, cv, cf⟩ := HC.out _ hb
      go_wp2_with fail
      go_ret
      exact ⟨by rw [HF.out.1]; rfl, HS.out _ hb, (Step.of_below hb).setCell (.inl (.inr (.inl rfl))) _⟩
  · have hne : ((h.lookE o i [1, 4] : Int) != 0) = true := by simp; omega
    have HF := Lib.hid (show h.putE o i v = h.lookE o i [1, 4] ∧ h.putH o i v = h by unfold HM.putH HM.putE; rw [if_neg he, if_neg he]; exact ⟨rfl, rfl⟩)
    rw [HM.placeV_no he] at HP
    generalize h.lookE o i [1, 4] = E at *
    clear he
    unfold ptr at HP ⊢
    go_enter Tryz.func124, Tryz.ntmps124
    go_wp2_with fail
    refine HP.out.mono ?_
    rintro e w1 ⟨rfl, hb⟩
    go_wp2_with fail
    go_ret
    exact ⟨by rw [HF.out.1]; rfl, by rw [HF.out.2]; exact HR.out _ hb, .of_below hb⟩

end

section
variable {w : World} {p : HP} {h : HM} (R : RAt w p h) (f : h.Fit)
include R f
theorem rsetRoot_any (i : Int) (v : Nat) (hv : v < 4294967296) : Calls Tryz.prog 79 #[ptr p.g, .int .i64 i, .int .u32 v] w (RDeeds p (h.setRootH i v) (h.setRootE i v) w) := by
  have HK := Lib.hid (rvalb_any R f v hv)
  have HR := Lib.hid R
  unfold ptr at HK ⊢
  by_cases hn : i < 0
  · have hok : rootOk i = false := by unfold rootOk; simp; omega
    have HF := Lib.hid (show h.setRootE i v = 1 ∧ h.setRootH i v = h by unfold HM.setRootH HM.setRootE; rw [hok]; exact ⟨rfl, rfl⟩)
    clear hok
    go_enter Tryz.func79, Tryz.ntmps79
    go_wp2_with fail
    go_ret
    exact ⟨by rw [HF.out.1]; rfl, by rw [HF.out.2]; exact HR.out, Step.refl _ _⟩
  by_cases hg : 64 ≤ i
  · have hok : rootOk i = false := by unfold rootOk; simp; omega
    have HF := Lib.hid (show h.setRootE i v = 1 ∧ h.setRootH i v = h by unfold HM.setRootH HM.setRootE; rw [hok]; exact ⟨rfl, rfl⟩)
    clear hok
    go_enter Tryz.func79, Tryz.ntmps79
    go_wp2_with fail
    go_ret
    exact ⟨by rw [HF.out.1]; rfl, by rw [HF.out.2]; exact HR.out, Step.refl _ _⟩
  obtain ⟨k, rfl⟩ := Int.eq_ofNat_of_zero_le (by omega : 0 ≤ i)
  have hok : rootOk k = true := by unfold rootOk; simp; omega
  cases hval : h.valB v
  · have HF := Lib.hid (show h.setRootE k v = 3 ∧ h.setRootH k v = h by unfold HM.setRootH HM.setRootE; rw [hok, hval]; exact ⟨rfl, rfl⟩)
    rw [hval] at HK
    clear hok hval
    go_enter Tryz.func79, Tryz.ntmps79
    go_wp2_with fail
    refine HK.out.mono ?_
    rintro e w1 ⟨rfl, rfl⟩
    go_wp2_with fail
    go_ret
    exact ⟨by rw [HF.out.1]; rfl, by rw [HF.out.2]; exact HR.out, Step.refl _ _⟩
  · have HF := Lib.hid (show h.setRootE k v = 0 ∧ h.setRootH k v = { h with roots := h.roots.set k v } by unfold HM.setRootH HM.setRootE; rw [hok, hval]; exact ⟨rfl, rfl⟩)
    have hk64 : k < 64 := by omega
    have hrl := f.roots
    have c2 := R.c2
    have cv := R.root (i := k) (by omega)
    have cf := R.2.2.2.frozen k
    have HS := Lib.hid (R.setRoot k v)
    rw [← HF.out.2] at HS
    rw [hval] at HK
    rw [hrl] at c2
    clear hok hval R f hrl
    generalize h.roots.getD k 0 = v0 at *
    go_enter Tryz.func79, Tryz.ntmps79
    go_wp2_with fail
    refine HK.out.mono ?_
    rintro e w1 ⟨rfl, rfl⟩
    go_wp2_with fail
    go_ret
    exact ⟨by rw [HF.out.1]; rfl, HS.out, (Step.refl _ _).setCell (.inl (.inr (.inr (.inr rfl)))) _⟩
end
end Go.Proofs.YtlkahgagmfhdaaaGreatDoor
