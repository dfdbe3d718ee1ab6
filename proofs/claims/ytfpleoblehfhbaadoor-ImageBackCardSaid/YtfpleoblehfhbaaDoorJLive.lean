/- A heap of the program's, all of it new since a world W: what each call does with it. The contracts of the heap's functions with their side conditions shut. -/
/- Load and Same of a heap that is new. -/
/- The document's oops and headers: Kind, Value, May, Pack, Unpack. -/
/- The document's Length, PackBytes, Digits, Decimal, Show. -/
/- The document's PackBytes. -/
/- The document's heap: what only reads. -/
/- The document's heap: lengths, places. -/
/- The document's heap: elements read, elements written. -/
/- The document's heap: elements, classes, roots written. -/
import Derived.Test.YtfpleoblehfhbaaDoorJLaid
import Derived.Test.YtfpleoblehfhbaaDoorJShow
import Derived.Test.YtfpleoblehfhbaaDoorJLoad2
import Derived.Test.YtfpleoblehfhbaaDoorJOop
import Derived.Test.YtfpleoblehfhbaaDoorJText
import Derived.Test.YtfpleoblehfhbaaDoorJMay
import Derived.Test.YtfpleoblehfhbaaDoorJAlloc
import Derived.StillTailTactics
set_option linter.unusedVariables false
set_option linter.unusedSectionVars false
namespace Go.Proofs.YtfpleoblehfhbaaDoor
open Go.RowKit

/-- The package-level tables are as the program lays them. -/
structure Env (w : World) : Prop where
  spares : Spares w
  pow : Pow w
theorem Pow.lt {w : World} (h : Pow w) : 0 < w.heap.size := Spares.lt h
theorem Env.below {w w' : World} (E : Env w) (hb : Below w.heap.size w w') : Env w' := ⟨E.spares.below hb, E.pow.below hb⟩
theorem Env.step {p p' : HP} {w w' : World} (E : Env w) (s : Step p p' w w') (hp : Far p) : Env w' := ⟨s.spares hp E.spares, s.pow hp E.pow⟩
theorem Env.far {W : World} (E : Env W) {p : HP} (hn : ∀ k, p.has k → W.heap.size ≤ k) : Far p := fun k hk => by
  have h1 := hn k hk
  have h2 := E.spares.lt
  have h3 := E.pow.lt
  exact ⟨by omega, by omega⟩

structure Live (W w : World) (p : HP) (g : Nat) (h : HM) : Prop where
  at_ : HAt w p h
  hg : p.g = g
  good : ∃ l, h.Good l
  env : Env W
  new : ∀ k, p.has k → W.heap.size ≤ k
  below : Below W.heap.size W w

section
variable {W w w' : World} {p p' : HP} {g : Nat} {h h' : HM}
theorem Live.fit (L : Live W w p g h) : h.Fit := by obtain ⟨l, G⟩ := L.good; exact G.fit
theorem Live.heads (L : Live W w p g h) : h.Heads := by obtain ⟨l, G⟩ := L.good; exact G.laid.heads
theorem Live.far (L : Live W w p g h) : Far p := L.env.far L.new
theorem Live.envw (L : Live W w p g h) : Env w := L.env.below L.below
theorem Live.after (L : Live W w p g h) (hb : Below w.heap.size w w') : Live W w' p g h :=
  ⟨L.at_.below hb, L.hg, L.good, L.env, L.new, below_top L.below hb⟩
theorem Live.step (L : Live W w p g h) (H : HAt w' p' h') (s : Step p p' w w') (G : ∃ l, h'.Good l) : Live W w' p' g h' :=
  ⟨H, s.g.trans L.hg, G, L.env, fun k hk => (s.rows k hk).elim (L.new k) (fun hk => Nat.le_trans L.below.size hk), s.below L.below L.new⟩
/-- A row that is not the heap's stays as it is. -/
theorem Step.row {e : TypeId} {gr c : Nat} {xs : List Value} (s : Step p p' w w') (hr : Row w gr e c xs) (hn : ¬ p.has gr) : Row w' gr e c xs ∧ ¬ p'.has gr :=
  ⟨hr.same (s.block gr hr.lt hn), fun hh => by
    rcases s.rows gr hh with hh | hh
    · exact hn hh
    · have := hr.lt; omega⟩
theorem Step.reads {size n : Nat} {A : Option Addr} {xs : List Value} {B : Nat} (s : Step p p' w w') (hr : Reads w B size A n xs) (hB : B ≤ w.heap.size) (hn : ∀ k, p.has k → B ≤ k) : Reads w' B size A n xs :=
  hr.keep fun q hq => World.cell?_of_block (s.block q.block (by omega) (fun hh => by have := hn _ hh; omega))

/-- What New gives. -/
theorem Live.of_new {n : Nat} {v : Nat → Value} {d : Ending} (E : Env W) (h1 : 64 ≤ n) (h2 : n ≤ 1048576) (H : NewHeap HAt v (HM.new n) W d w') :
    ∃ p g, d = .returned (v g) ∧ Live W w' p g (HM.new n) := by
  obtain ⟨p, hd, H1, hn, hb⟩ := H
  exact ⟨p, p.g, hd, H1, rfl, ⟨[], HM.new_good h1 h2 (HM.new_fit h1 h2)⟩, E, hn, hb⟩

def HM.AllocO (h : HM) (c : Nat) (f n : Int) : Nat := if h.AllocE c f n = 0 then 2 * h.words.length else 0
def HM.makeO (h : HM) (c : Nat) (bs : List Nat) : Nat := if h.makeE c bs = 0 then 2 * h.words.length else 0
theorem HM.AllocV_eq (h : HM) (c : Nat) (f n : Int) : h.AllocV c f n = .tuple #[.int .u32 (h.AllocO c f n : Nat), .int .i64 (h.AllocE c f n : Nat)] := by
  unfold HM.AllocV HM.AllocO HM.AllocE
  by_cases hok : allocOk f n = true
  · rw [if_pos hok, if_pos hok]; rfl
  · rw [if_neg hok, if_neg hok]; rfl
theorem HM.makeV_eq (h : HM) (c : Nat) (bs : List Nat) : h.makeV c bs = .tuple #[.int .u32 (h.makeO c bs : Nat), .int .i64 (h.makeE c bs : Nat)] := rfl

/-- A deed's end at law level. -/
def Done (W : World) (p : HP) (g : Nat) (h' : HM) (v : Value) (w : World) (e : Ending) (w' : World) : Prop :=
  ∃ p', e = .returned v ∧ Live W w' p' g h' ∧ Step p p' w w'
theorem Live.of_made {v : Value} {d : Ending} (L : Live W w p g h) (G : ∃ l, h'.Good l) (H : Made p h' v w d w') : Done W p g h' v w d w' := by
  obtain ⟨p', rfl, H', s⟩ := H
  exact ⟨p', rfl, L.step H' s G, s⟩
theorem Live.of_deed {E : Nat} {d : Ending} (L : Live W w p g h) (G : ∃ l, h'.Good l) (H : Deeds p h' E w d w') : Done W p g h' (.int .i64 E) w d w' := by
  obtain ⟨rfl, H', s⟩ := H
  exact ⟨p, rfl, L.step H' s G, s⟩

theorem Live.alloc (L : Live W w p g h) (c : Nat) (hc : c < 4294967296) (t n : Int) :
    Calls Tryd.prog 22 #[.pointer (some ⟨g, 0, none⟩), .int .u32 c, .int .i64 t, .int .i64 n] w (Done W p g (h.AllocH c t n) (.tuple #[.int .u32 (h.AllocO c t n : Nat), .int .i64 (h.AllocE c t n : Nat)]) w) := by
  have hh := Alloc_any L.at_ L.fit L.envw.spares L.far c hc t n
  rw [L.hg, HM.AllocV_eq] at hh
  exact hh.mono fun _ _ H => L.of_made (by obtain ⟨l, G⟩ := L.good; exact G.AllocH c t n hc) H
theorem Live.make (L : Live W w p g h) (c : Nat) (hc : c < 4294967296) (A : Option Addr) (n cap : Nat) (bs : List Nat) (hn : n ≤ 9223372036854775807) (hr : Reads w w.heap.size 1 A n (u8c bs)) (hb : ∀ x ∈ bs, x < 256) :
    Calls Tryd.prog 23 #[.pointer (some ⟨g, 0, none⟩), .int .u32 c, .slice A n cap] w (Done W p g (h.makeH c bs) (.tuple #[.int .u32 (h.makeO c bs : Nat), .int .i64 (h.makeE c bs : Nat)]) w) := by
  have hh := Make_any L.at_ L.fit L.envw.spares L.far c hc A n cap _ bs hn hr (Nat.le_refl _) hb
  rw [L.hg, HM.makeV_eq] at hh
  exact hh.mono fun _ _ H => L.of_made (by obtain ⟨l, G⟩ := L.good; exact G.MakeH c bs hc hb) H
theorem Live.put (L : Live W w p g h) (o : Nat) (ho : o < 4294967296) (i : Int) (v : Nat) (hv : v < 4294967296) :
    Calls Tryd.prog 24 #[.pointer (some ⟨g, 0, none⟩), .int .u32 o, .int .i64 i, .int .u32 v] w (Done W p g (h.putH o i v) (.int .i64 (h.putE o i v : Nat)) w) := by
  have hh := put_any L.at_ L.fit L.heads L.envw.spares o ho i v hv
  rw [L.hg] at hh
  exact hh.mono fun _ _ H => L.of_deed (by obtain ⟨l, G⟩ := L.good; obtain ⟨l', G', _⟩ := G.putH o i v hv; exact ⟨l', G'⟩) H
theorem Live.setRoot (L : Live W w p g h) (i : Int) (v : Nat) (hv : v < 4294967296) :
    Calls Tryd.prog 25 #[.pointer (some ⟨g, 0, none⟩), .int .i64 i, .int .u32 v] w (Done W p g (h.setRootH i v) (.int .i64 (h.setRootE i v : Nat)) w) := by
  have hh := setRoot_any L.at_ L.fit i v hv
  rw [L.hg] at hh
  exact hh.mono fun _ _ H => L.of_deed (by obtain ⟨l, G⟩ := L.good; exact ⟨l, G.setRootH i v hv⟩) H

/-- What only reads. -/
def Told (v : Value) (w : World) (e : Ending) (w' : World) : Prop := e = .returned v ∧ Below w.heap.size w w'
theorem Live.get (L : Live W w p g h) (o : Nat) (ho : o < 4294967296) (i : Int) :
    Calls Tryd.prog 52 #[.pointer (some ⟨g, 0, none⟩), .int .u32 o, .int .i64 i] w (Told (.tuple #[.int .u32 (h.readN o i [1, 4] : Nat), .int .i64 (h.lookE o i [1, 4] : Nat)]) w) := by
  have hh := get_any L.at_ L.fit L.heads L.envw.spares o ho i
  rw [L.hg] at hh
  exact hh
theorem Live.word (L : Live W w p g h) (o : Nat) (ho : o < 4294967296) (i : Int) :
    Calls Tryd.prog 51 #[.pointer (some ⟨g, 0, none⟩), .int .u32 o, .int .i64 i] w (Told (.tuple #[.int .u32 (h.readN o i [3] : Nat), .int .i64 (h.lookE o i [3] : Nat)]) w) := by
  have hh := word_any L.at_ L.fit L.heads L.envw.spares o ho i
  rw [L.hg] at hh
  exact hh
def HM.showS (h : HM) (o : Nat) : List UInt8 := if h.isB o then h.showT o else []
def HM.isE (h : HM) (o : Nat) : Nat := if h.isB o then 0 else 3
def HM.hdO (h : HM) (o : Nat) : Hd := if h.isB o then h.hd (o / 2) else ⟨0, 0, 0, 0, 0⟩
theorem HM.headerV_eq (h : HM) (o : Nat) : h.headerV o = .tuple #[(h.hdO o).val, .int .i64 (h.isE o : Nat)] := by
  unfold HM.headerV HM.hdO HM.isE; cases h.isB o <;> rfl
theorem Live.header (L : Live W w p g h) (o : Nat) (ho : o < 4294967296) :
    Calls Tryd.prog 75 #[.pointer (some ⟨g, 0, none⟩), .int .u32 o] w (Told (.tuple #[(h.hdO o).val, .int .i64 (h.isE o : Nat)]) w) := by
  have hh := Header_any L.at_ L.fit L.heads L.envw.spares o ho
  rw [L.hg, HM.headerV_eq] at hh
  exact hh
def HM.lenN (h : HM) (o : Nat) : Nat := if h.isB o then (h.hd (o / 2)).len else 0
def HM.nextN (h : HM) (o : Nat) : Nat := if h.isB o then h.nextO o else 0
theorem Live.next (L : Live W w p g h) (o : Nat) (ho : o < 4294967296) :
    Calls Tryd.prog 64 #[.pointer (some ⟨g, 0, none⟩), .int .u32 o] w (Told (.tuple #[.int .u32 (h.nextN o : Nat), .int .i64 (h.isE o : Nat)]) w) := by
  have hh := next_any L.at_ L.fit L.heads L.envw.spares o ho
  rw [L.hg, show h.nextV o = .tuple #[.int .u32 (h.nextN o : Nat), .int .i64 (h.isE o : Nat)] by
    unfold HM.nextV HM.nextN HM.isE; cases h.isB o <;> rfl] at hh
  exact hh
theorem Live.bytes (L : Live W w p g h) (o : Nat) (ho : o < 4294967296) :
    Calls Tryd.prog 50 #[.pointer (some ⟨g, 0, none⟩), .int .u32 o] w (BytesP h o w) := by
  have hh := bytes_any L.at_ L.fit L.heads L.envw.spares o ho
  rw [L.hg] at hh
  exact hh
/-- What reads and makes nothing. -/
def Said (v : Value) (w : World) (e : Ending) (w' : World) : Prop := e = .returned v ∧ w = w'
theorem Live.is (L : Live W w p g h) (o : Nat) (ho : o < 4294967296) :
    Calls Tryd.prog 79 #[.pointer (some ⟨g, 0, none⟩), .int .u32 o] w (Said (.bool (h.isB o)) w) := by
  have hh := is_any L.at_ L.fit o ho
  rw [L.hg] at hh
  exact hh
theorem Live.size (L : Live W w p g h) : Calls Tryd.prog 13 #[.pointer (some ⟨g, 0, none⟩)] w (Said (.int .i64 (h.size : Nat)) w) := by
  have hh := size_any L.at_ L.fit
  rw [L.hg] at hh
  exact hh
theorem Live.last (L : Live W w p g h) : Calls Tryd.prog 18 #[.pointer (some ⟨g, 0, none⟩)] w (Said (.int .u32 (h.last : Nat)) w) := by
  have hh := last_any L.at_ L.fit
  rw [L.hg] at hh
  exact hh
theorem Live.first (L : Live W w p g h) : Calls Tryd.prog 63 #[.pointer (some ⟨g, 0, none⟩)] w (Said (.int .u32 (h.objM 1 : Nat)) w) := by
  have hh := first_any L.at_ L.fit
  rw [L.hg] at hh
  exact hh
def HM.rootN (h : HM) (i : Int) : Nat := if rootOk i then h.roots.getD i.toNat 0 else 0
def rootE (i : Int) : Nat := if rootOk i then 0 else 1
theorem Live.words (L : Live W w p g h) : Calls Tryd.prog 15 #[.pointer (some ⟨g, 0, none⟩)] w (NewRow 24 (u32s h.words) w) := by
  have hh := words_any L.at_ L.fit
  rw [L.hg] at hh
  exact hh
theorem Live.roots (L : Live W w p g h) : Calls Tryd.prog 17 #[.pointer (some ⟨g, 0, none⟩)] w (NewRow 54 (u32s h.roots) w) := by
  have hh := roots_any L.at_ L.fit
  rw [L.hg] at hh
  exact hh
end
end Go.Proofs.YtfpleoblehfhbaaDoor

namespace Go.Proofs.YtfpleoblehfhbaaDoor
open Go.RowKit

theorem Live.load {W w : World} {p : HP} {g : Nat} {h : HM} (L : Live W w p g h) (A : Option Addr) (n c : Nat) (ws : List Nat) (hn : n ≤ 9223372036854775807) (hr : Reads w w.heap.size 1 A n (u32s ws)) (h32 : ∀ x ∈ ws, x < 4294967296)
    (A' : Option Addr) (n' c' : Nat) (rs : List Nat) (hn' : n' ≤ 9223372036854775807) (hr' : Reads w w.heap.size 1 A' n' (u32s rs)) (h32' : ∀ x ∈ rs, x < 4294967296) (last : Nat) (hl : last < 4294967296) :
    Calls Tryd.prog 21 #[.pointer (some ⟨g, 0, none⟩), .slice A n c, .slice A' n' c', .int .u32 last] w (Done W p g (h.loadH ws rs last) (.int .i64 (loadE h.size ws rs last : Nat)) w) := by
  have hh := Load_any L.at_ L.fit L.envw.spares (fun k hk => by
    have h1 := L.envw.spares.lt
    have h2 := L.envw.pow.lt
    exact ⟨by omega, by omega⟩) A n c ws hn hr h32 A' n' c' rs hn' hr' h32' last hl
  rw [L.hg] at hh
  refine hh.mono fun _ _ H => L.of_made ?_ H
  unfold HM.loadH
  by_cases he : loadE h.size ws rs last = 0
  · rw [if_pos he]
    unfold loadE at he
    split at he
    · omega
    · rename_i hb
      split at he
      · rename_i hok
        obtain ⟨l, hp, S⟩ := hok
        have f := L.fit
        exact ⟨l, HM.ofWords_good f.lo f.hi h32 h32' (by omega) hl (by omega) hp S⟩
      · omega
  · rw [if_neg he]; exact L.good
theorem Live.same {W w W2 : World} {p q : HP} {g k : Nat} {a b : HM} (La : Live W w p g a) (Lb : Live W2 w q k b) :
    Calls Tryd.prog 11 #[.pointer (some ⟨g, 0, none⟩), .pointer (some ⟨k, 0, none⟩)] w (Told (.bool (sameH a b)) w) := by
  have hh := Same_any La.at_ Lb.at_ La.fit Lb.fit
  rw [La.hg, Lb.hg] at hh
  exact hh.mono fun e w' ⟨he, m, hm⟩ => ⟨he, hm ▸ below_drewN (Below.refl _ _) m⟩
theorem HM.Good.load_self {h h0 : HM} {l : List Ob} (G : h.Good l) (hs : h0.size = h.size) : loadE h0.size h.words h.roots h.last = 0 ∧ h0.loadH h.words h.roots h.last = h := by
  have e := loadE_ok (size := h0.size) (ws := h.words) (rs := h.roots) (last := h.last) (by
    have := G.fit.one; have := G.fit.room; have := G.fit.roots
    omega) (by rw [hs]; exact G.loadOk)
  refine ⟨e, ?_⟩
  unfold HM.loadH
  rw [if_pos e, hs]
  exact G.ofWords.1

end Go.Proofs.YtfpleoblehfhbaaDoor

namespace Go.Proofs.YtfpleoblehfhbaaDoor
open Go.RowKit

theorem tdiv2 (x : Int) (h : x % 2 = 0) : x.tdiv 2 = x / 2 := Int.tdiv_eq_ediv_of_dvd (Int.dvd_of_emod_eq_zero h)
set_option maxHeartbeats 2000000 in
theorem rmay_any (x : Hd) (f : x.Fit) (w : World) :
    Calls Tryd.prog 56 #[x.val] w fun e w' => e = .returned (.bool x.may) ∧ Below w.heap.size w w' := by
  obtain ⟨n, t, s, c, r⟩ := x
  obtain ⟨f1, f2, f3, f4, f5⟩ := f
  simp only at f1 f2 f3 f4 f5
  unfold Hd.val
  by_cases h1 : 65535 < n
  · have HF := Lib.hid (show Hd.may ⟨n, t, s, c, r⟩ = false by simp [Hd.may]; omega)
    go_enter Tryd.func56, Tryd.ntmps56
    go_wp2_with fail
    go_ret
    exact ⟨by rw [HF.out]; rfl, (Below.refl _ _).alloc (Nat.le_refl _) _⟩
  by_cases h2 : t < 1
  · have HF := Lib.hid (show Hd.may ⟨n, t, s, c, r⟩ = false by simp [Hd.may]; omega)
    go_enter Tryd.func56, Tryd.ntmps56
    go_wp2_with fail
    go_ret
    exact ⟨by rw [HF.out]; rfl, (Below.refl _ _).alloc (Nat.le_refl _) _⟩
  by_cases h3 : 4 < t
  · have HF := Lib.hid (show Hd.may ⟨n, t, s, c, r⟩ = false by simp [Hd.may]; omega)
    go_enter Tryd.func56, Tryd.ntmps56
    go_wp2_with fail
    go_ret
    exact ⟨by rw [HF.out]; rfl, (Below.refl _ _).alloc (Nat.le_refl _) _⟩
  by_cases h4 : s = 0
  · subst h4
    have HF := Lib.hid (show Hd.may ⟨n, t, 0, c, r⟩ = true by simp [Hd.may]; omega)
    go_enter Tryd.func56, Tryd.ntmps56
    go_wp2_with fail
    go_ret
    exact ⟨by rw [HF.out]; rfl, (Below.refl _ _).alloc (Nat.le_refl _) _⟩
  have h4' : ((s : Int) == 0) = false := by simpa using h4
  by_cases h5 : t = 2
  · subst h5
    by_cases h6 : n = 0
    · subst h6
      have HF := Lib.hid (show Hd.may ⟨0, 2, s, c, r⟩ = false by simp [Hd.may, h4])
      clear h4
      go_enter Tryd.func56, Tryd.ntmps56
      go_wp2_with fail
      go_ret
      exact ⟨by rw [HF.out]; rfl, (Below.refl _ _).alloc (Nat.le_refl _) _⟩
    · have HF := Lib.hid (show Hd.may ⟨n, 2, s, c, r⟩ = true by simp [Hd.may]; omega)
      have h7 : (0 : Int) < n := by omega
      clear h4 h6
      go_enter Tryd.func56, Tryd.ntmps56
      go_wp2_with fail
      go_ret
      exact ⟨by rw [HF.out]; simp; omega, (Below.refl _ _).alloc (Nat.le_refl _) _⟩
  · have HF := Lib.hid (show Hd.may ⟨n, t, s, c, r⟩ = false by simp [Hd.may]; omega)
    have h5' : ((t : Int) == 2) = false := by simp; omega
    clear h4 h5
    go_enter Tryd.func56, Tryd.ntmps56
    go_wp2_with fail
    go_ret
    exact ⟨by rw [HF.out]; rfl, (Below.refl _ _).alloc (Nat.le_refl _) _⟩

/-- What Unpack answers. -/
def unpackV (a b c : Nat) : Value := .tuple #[if okhd a b c then (unhd a b c).val else .agg #[.int .i64 0, .int .i64 0, .int .i64 0, .int .u32 0, .int .u32 0], .bool (okhd a b c)]
set_option maxHeartbeats 2000000 in
theorem runpack_any (a b c : Nat) (ha : a < 4294967296) (hb : b < 4294967296) (hc : c < 4294967296) (w : World) :
    Calls Tryd.prog 40 #[.agg #[.int .u32 a, .int .u32 b, .int .u32 c]] w (Told (unpackV a b c) w) := by
  have hx : (unhd a b c).val = .agg #[.int .i64 ((a : Int) % 16777216), .int .i64 ((a : Int) / 16777216 % 8), .int .i64 ((a : Int) / 134217728 % 4), .int .u32 b, .int .u32 c] := rfl
  have HX := Lib.hid hx
  have HF := Lib.hid (unhd_fit a b c hb hc)
  by_cases hlt : a < 536870912
  · have hd : (((a : Int) / 536870912) != 0) = false := by simp; omega
    cases hok : (unhd a b c).may
    · have HV := Lib.hid (show unpackV a b c = .tuple #[.agg #[.int .i64 0, .int .i64 0, .int .i64 0, .int .u32 0, .int .u32 0], .bool false] by simp [unpackV, okhd, hok])
      have HM := Lib.hid (fun w => (rmay_any _ HF.out w))
      rw [HX.out, hok] at HM
      clear hok hx hlt
      go_enter Tryd.func40, Tryd.ntmps40
      go_wp2_with fail
      generalize hW : ((w.alloc _).alloc _).alloc _ = W
      have hbW : Below w.heap.size w W := by rw [← hW]; exact (((Below.refl _ _).alloc (Nat.le_refl _) _).alloc (by simp) _).alloc (by simp; omega) _
      have B1 : Blk W (w.heap.size + 1) 79 #[.int .i64 0, .int .i64 0, .int .i64 0, .int .u32 0, .int .u32 0] := by
        rw [← hW]
        have := (Blk.new (w.alloc (.cells #[.int .u32 a, .int .u32 b, .int .u32 c] 82)) 79 #[.int .i64 0, .int .i64 0, .int .i64 0, .int .u32 0, .int .u32 0]).alloc (.cells #[.int .i64 ((a : Int) % 16777216), .int .i64 ((a : Int) / 16777216 % 8), .int .i64 ((a : Int) / 134217728 % 4), .int .u32 b, .int .u32 c] 79)
        rw [World.size_alloc] at this
        exact this
      have B2 : Blk W (w.heap.size + 1 + 1) 79 #[.int .i64 ((a : Int) % 16777216), .int .i64 ((a : Int) / 16777216 % 8), .int .i64 ((a : Int) / 134217728 % 4), .int .u32 b, .int .u32 c] := by
        rw [← hW]
        have := Blk.new ((w.alloc (.cells #[.int .u32 a, .int .u32 b, .int .u32 c] 82)).alloc (.cells #[.int .i64 0, .int .i64 0, .int .i64 0, .int .u32 0, .int .u32 0] 79)) 79 #[.int .i64 ((a : Int) % 16777216), .int .i64 ((a : Int) / 16777216 % 8), .int .i64 ((a : Int) / 134217728 % 4), .int .u32 b, .int .u32 c]
        rw [World.size_alloc, World.size_alloc] at this
        exact this
      clear hW
      refine (HM.out _).mono ?_
      rintro e w1 ⟨rfl, hb1⟩
      replace B1 := B1.below hb1 B1.lt
      replace B2 := B2.below hb1 B2.lt
      have hb := below_top hbW hb1
      clear hb1 hbW
      obtain ⟨a0, a1, a2, a3, a4⟩ := B2.cells5
      obtain ⟨d0, d1, d2, d3, d4⟩ := B1.cells5
      have z1 := B1.fz
      have hz1 := B1.lt
      go_wp2_with fail
      refine bodyPost_ret (v := .tuple #[.agg #[.int .i64 0, .int .i64 0, .int .i64 0, .int .u32 0, .int .u32 0], .bool false]) (by simp [results, Tryd.results40, go_sem, d0, d1, d2, d3, d4]) rfl ⟨by rw [HV.out], ?_⟩
      exact ((((hb.setCell (by simp) _).setCell (by simp) _).setCell (by simp) _).setCell (by simp) _).setCell (by simp) _
    · have HV := Lib.hid (show unpackV a b c = .tuple #[(unhd a b c).val, .bool true] by simp [unpackV, okhd, hok, hlt])
      have HM := Lib.hid (fun w => (rmay_any _ HF.out w))
      rw [HX.out, hok] at HM
      clear hok hx hlt
      go_enter Tryd.func40, Tryd.ntmps40
      go_wp2_with fail
      generalize hW : ((w.alloc _).alloc _).alloc _ = W
      have hbW : Below w.heap.size w W := by rw [← hW]; exact (((Below.refl _ _).alloc (Nat.le_refl _) _).alloc (by simp) _).alloc (by simp; omega) _
      have B1 : Blk W (w.heap.size + 1) 79 #[.int .i64 0, .int .i64 0, .int .i64 0, .int .u32 0, .int .u32 0] := by
        rw [← hW]
        have := (Blk.new (w.alloc (.cells #[.int .u32 a, .int .u32 b, .int .u32 c] 82)) 79 #[.int .i64 0, .int .i64 0, .int .i64 0, .int .u32 0, .int .u32 0]).alloc (.cells #[.int .i64 ((a : Int) % 16777216), .int .i64 ((a : Int) / 16777216 % 8), .int .i64 ((a : Int) / 134217728 % 4), .int .u32 b, .int .u32 c] 79)
        rw [World.size_alloc] at this
        exact this
      have B2 : Blk W (w.heap.size + 1 + 1) 79 #[.int .i64 ((a : Int) % 16777216), .int .i64 ((a : Int) / 16777216 % 8), .int .i64 ((a : Int) / 134217728 % 4), .int .u32 b, .int .u32 c] := by
        rw [← hW]
        have := Blk.new ((w.alloc (.cells #[.int .u32 a, .int .u32 b, .int .u32 c] 82)).alloc (.cells #[.int .i64 0, .int .i64 0, .int .i64 0, .int .u32 0, .int .u32 0] 79)) 79 #[.int .i64 ((a : Int) % 16777216), .int .i64 ((a : Int) / 16777216 % 8), .int .i64 ((a : Int) / 134217728 % 4), .int .u32 b, .int .u32 c]
        rw [World.size_alloc, World.size_alloc] at this
        exact this
      clear hW
      refine (HM.out _).mono ?_
      rintro e w1 ⟨rfl, hb1⟩
      replace B1 := B1.below hb1 B1.lt
      replace B2 := B2.below hb1 B2.lt
      have hb := below_top hbW hb1
      clear hb1 hbW
      obtain ⟨a0, a1, a2, a3, a4⟩ := B2.cells5
      obtain ⟨d0, d1, d2, d3, d4⟩ := B1.cells5
      have z1 := B1.fz
      have hz1 := B1.lt
      go_wp2_with fail
      refine bodyPost_ret (v := .tuple #[.agg #[.int .i64 ((a : Int) % 16777216), .int .i64 ((a : Int) / 16777216 % 8), .int .i64 ((a : Int) / 134217728 % 4), .int .u32 b, .int .u32 c], .bool true]) (by simp [results, Tryd.results40, go_sem, d0, d1, d2, d3, d4]) rfl ⟨by rw [HV.out]; rw [HX.out], ?_⟩
      exact ((((hb.setCell (by simp) _).setCell (by simp) _).setCell (by simp) _).setCell (by simp) _).setCell (by simp) _
  · have hd : (((a : Int) / 536870912) != 0) = true := by simp; omega
    have HV := Lib.hid (show unpackV a b c = .tuple #[.agg #[.int .i64 0, .int .i64 0, .int .i64 0, .int .u32 0, .int .u32 0], .bool false] by simp [unpackV, okhd, hlt])
    clear hx hlt
    go_enter Tryd.func40, Tryd.ntmps40
    go_wp2_with fail
    refine bodyPost_ret (v := .tuple #[.agg #[.int .i64 0, .int .i64 0, .int .i64 0, .int .u32 0, .int .u32 0], .bool false]) (by simp [results, Tryd.results40, go_sem]) rfl ⟨by rw [HV.out], ?_⟩
    exact (((Below.refl _ _).alloc (Nat.le_refl _) _).alloc (by simp) _).alloc (by simp; omega) _
end Go.Proofs.YtfpleoblehfhbaaDoor

namespace Go.Proofs.YtfpleoblehfhbaaDoor
open Go.RowKit

theorem conv1 (w : World) (n : Nat) (hn : n < 256) : (convert 32 9 (.slice (some ⟨w.heap.size, 0, none⟩) 1 1)).run Tryd.prog (w.alloc (.cells #[.int .u8 (n : Int)] 5)) = .ok (.string ⟨#[UInt8.ofNat n]⟩) (w.alloc (.cells #[.int .u8 (n : Int)] 5)) := by
  have h := run_convert_bytes_back (P := Tryd.prog) (w.alloc (.cells #[.int .u8 (n : Int)] 5)) 32 9 5 ⟨w.heap.size, 0, none⟩ 1 [UInt8.ofNat n] Tryd.underlying32 Tryd.underlying5 Tryd.underlying9 (by
    intro j hj
    have hj0 : j = 0 := by simpa using hj
    subst hj0
    have := (Blk.new w 5 #[.int .u8 (n : Int)]).cell 0
    rw [show (⟨w.heap.size, 0, none⟩ : Addr).add 0 = ⟨w.heap.size, 0, none⟩ from rfl, this]
    simp [Nat.mod_eq_of_lt hn])
  exact h
theorem str_one (d : UInt8) (acc : List UInt8) : Value.string ((⟨#[d]⟩ : ByteArray) ++ ⟨acc.toArray⟩) = str (d :: acc) := str_app [d] acc
theorem dec_small {m : Nat} (h : m < 10) : Lib.decDigits m = [UInt8.ofNat (48 + m % 10)] := by
  rw [Lib.decDigits, dif_pos h, Nat.mod_eq_of_lt h]
theorem dec_big {m : Nat} (h : ¬ m < 10) : Lib.decDigits m = Lib.decDigits (m / 10) ++ [UInt8.ofNat (48 + m % 10)] := by
  rw [Lib.decDigits, dif_neg h]
theorem dec_len (n : Nat) (hn : n ≤ 4294967296) : (Lib.decDigits n).length ≤ 21 := by
  have h := Lib.itoa_length_le (n : Int) (by omega) (by omega)
  unfold Lib.itoa at h
  rw [if_neg (by omega)] at h
  simpa using h

end Go.Proofs.YtfpleoblehfhbaaDoor

namespace Go.Proofs.YtfpleoblehfhbaaDoor
open Go.RowKit

theorem wordAt_low (bs : List Nat) (h : ∀ x ∈ bs, x < 256) (k : Nat) : wordAt (bs.take k) (k / 4) < 2 ^ (8 * (k % 4)) := by
  have h0 := getD_lt bs h (4 * (k / 4))
  have h1 := getD_lt bs h (4 * (k / 4) + 1)
  have h2 := getD_lt bs h (4 * (k / 4) + 2)
  unfold wordAt
  simp only [take_getD]
  rcases (by omega : k % 4 = 0 ∨ k % 4 = 1 ∨ k % 4 = 2 ∨ k % 4 = 3) with r | r | r | r <;> rw [r]
  · rw [if_neg (by omega), if_neg (by omega), if_neg (by omega), if_neg (by omega)]; omega
  · rw [if_pos (by omega), if_neg (by omega), if_neg (by omega), if_neg (by omega)]; omega
  · rw [if_pos (by omega), if_pos (by omega), if_neg (by omega), if_neg (by omega)]; omega
  · rw [if_pos (by omega), if_pos (by omega), if_pos (by omega), if_neg (by omega)]; omega
theorem wordAt_sum (bs : List Nat) (h : ∀ x ∈ bs, x < 256) (k : Nat) : wordAt (bs.take k) (k / 4) ||| (bs.getD k 0 * 2 ^ (8 * (k % 4))) = wordAt (bs.take k) (k / 4) + bs.getD k 0 * 256 ^ (k % 4) := by
  rw [Nat.or_comm, nat_join (8 * (k % 4)) _ _ (by simp) (wordAt_low bs h k), Nat.add_comm, Nat.pow_mul]
theorem pow256_le (j : Nat) (h : j < 3) : 256 ^ j ≤ 65536 := by
  rcases (by omega : j = 0 ∨ j = 1 ∨ j = 2) with rfl | rfl | rfl <;> decide

/-- What the document's PackBytes answers. -/
def RPackB (bs : List Nat) (w : World) (d : Ending) (w' : World) : Prop :=
  ∃ g, d = .returned (.slice (some ⟨g, 0, none⟩) (packM bs).length (packM bs).length) ∧ Row w' g 24 (packM bs).length (u32s (packM bs)) ∧ w.heap.size ≤ g ∧ Below w.heap.size w w'

end Go.Proofs.YtfpleoblehfhbaaDoor

namespace Go.Proofs.YtfpleoblehfhbaaDoor
open Go.RowKit

theorem below_alloc1 {W w : World} {o : Obj} (h : Below W.heap.size W w) : Below W.heap.size W (w.alloc o) := h.alloc h.size o
theorem below_set5 {W w : World} {a b c d e : Value} {g : Nat} (h : Below W.heap.size W w) (hg : W.heap.size ≤ g := by simp) : Below W.heap.size W (((((w.setCell ⟨g, 0, none⟩ a).setCell ⟨g, 1, none⟩ b).setCell ⟨g, 2, none⟩ c).setCell ⟨g, 3, none⟩ d).setCell ⟨g, 4, none⟩ e) :=
  ((((h.setCell (p := ⟨g, 0, none⟩) hg _).setCell (p := ⟨g, 1, none⟩) hg _).setCell (p := ⟨g, 2, none⟩) hg _).setCell (p := ⟨g, 3, none⟩) hg _).setCell (p := ⟨g, 4, none⟩) hg _
theorem begin_one (b : Bool) : (((if b = true then 1 else 0 : Int)) == 1) = b := by cases b <;> rfl
section
variable {w : World} {p : HP} {h : HM} (R : RAt w p h) (f : h.Fit)
include R f
theorem ris_any (o : Nat) (ho : o < 4294967296) :
    Calls Tryd.prog 88 #[ptr p.g, .int .u32 o] w (Said (.bool (h.isB o)) w) := by
  have c4 := R.c4
  have hlen := f.marks
  have hroom := f.room
  have hhi := f.hi
  unfold ptr
  by_cases h0 : o = 0
  · subst h0
    have HF := Lib.hid (show h.isB 0 = false by simp [HM.isB, objB, kindM])
    go_enter Tryd.func88, Tryd.ntmps88
    go_wp2_with fail
    go_ret
    exact ⟨by rw [HF.out]; rfl, rfl⟩
  have hb : ((o : Int) != 0) = true := by simpa using h0
  by_cases h1 : o % 2 = 1
  · have HF := Lib.hid (show h.isB o = false by simp [HM.isB, objB, kindM, h0, h1])
    have hb2 : ((o : Int) % 2 == 0) = false := by simp; omega
    clear h0 h1
    go_enter Tryd.func88, Tryd.ntmps88
    go_wp2_with fail
    go_ret
    exact ⟨by rw [HF.out]; rfl, rfl⟩
  have hb2 : ((o : Int) % 2 == 0) = true := by simp; omega
  have hk : objB o = true := (objB_iff o).2 ⟨h0, by omega⟩
  by_cases hl : o / 2 < h.starts.length
  · have hcell := R.mark hl
    have HF := Lib.hid (show h.isB o = h.starts.getD (o / 2) false by simp [HM.isB, hk])
    generalize h.starts.getD (o / 2) false = b at *
    have hq : ((o : Int) / 2) = ((o / 2 : Nat) : Int) := by omega
    generalize o / 2 = q at *
    have hlt : (q : Int) < (h.starts.length : Int) := by omega
    have h1b := begin_one b
    clear hk h0 h1
    cases b
    all_goals
      go_enter Tryd.func88, Tryd.ntmps88
      go_wp2_with fail
      go_ret
      exact ⟨by rw [HF.out]; rfl, rfl⟩
  · have HF := Lib.hid (show h.isB o = false by rw [HM.isB, List.getD_eq_getElem?_getD, List.getElem?_eq_none (by omega)]; simp)
    have hq : ((o : Int) / 2) = ((o / 2 : Nat) : Int) := by omega
    generalize o / 2 = q at *
    have hlt : (h.starts.length : Int) ≤ (q : Int) := by omega
    clear hk h0 h1
    go_enter Tryd.func88, Tryd.ntmps88
    go_wp2_with fail
    go_ret
    exact ⟨by rw [HF.out]; rfl, rfl⟩
theorem risclass_any (o : Nat) (ho : o < 4294967296) :
    Calls Tryd.prog 60 #[ptr p.g, .int .u32 o] w (Said (.bool (h.clsB o)) w) := by
  have HI := Lib.hid (ris_any R f o ho)
  unfold ptr at HI ⊢
  by_cases h0 : o = 0
  · have HF := Lib.hid (show h.clsB o = true by simp [HM.clsB, h0])
    have hb : ((o : Int) == 0) = true := by simp; omega
    clear h0
    go_enter Tryd.func60, Tryd.ntmps60
    go_wp2_with fail
    go_ret
    exact ⟨by rw [HF.out]; rfl, rfl⟩
  · have HF := Lib.hid (show h.clsB o = h.isB o by simp [HM.clsB, h0])
    have hb : ((o : Int) == 0) = false := by simp; omega
    generalize h.isB o = b at *
    clear h0
    go_enter Tryd.func60, Tryd.ntmps60
    go_wp2_with fail
    refine HI.out.mono ?_
    rintro e w1 ⟨rfl, rfl⟩
    go_wp2_with fail
    go_ret
    exact ⟨by rw [HF.out]; rfl, rfl⟩
theorem rvalb_any (o : Nat) (ho : o < 4294967296) :
    Calls Tryd.prog 61 #[ptr p.g, .int .u32 o] w (Said (.bool (h.valB o)) w) := by
  have HI := Lib.hid (ris_any R f o ho)
  unfold ptr at HI ⊢
  by_cases h0 : o = 0
  · have HF := Lib.hid (show h.valB o = true by simp [HM.valB, objB, kindM, h0])
    have hb : ((o : Int) == 0) = true := by simp; omega
    clear h0
    go_enter Tryd.func61, Tryd.ntmps61
    go_wp2_with fail
    go_ret
    exact ⟨by rw [HF.out]; rfl, rfl⟩
  have hb : ((o : Int) == 0) = false := by simp; omega
  by_cases h1 : o % 2 = 1
  · have HF := Lib.hid (show h.valB o = true by simp [HM.valB, objB, kindM, h0, h1])
    have hb2 : ((o : Int) % 2 == 1) = true := by simp; omega
    clear h0 h1
    go_enter Tryd.func61, Tryd.ntmps61
    go_wp2_with fail
    go_ret
    exact ⟨by rw [HF.out]; rfl, rfl⟩
  · have HF := Lib.hid (show h.valB o = h.isB o by simp [HM.valB, objB, kindM, h0, h1])
    have hb2 : ((o : Int) % 2 == 1) = false := by simp; omega
    generalize h.isB o = b at *
    clear h0 h1
    go_enter Tryd.func61, Tryd.ntmps61
    go_wp2_with fail
    refine HI.out.mono ?_
    rintro e w1 ⟨rfl, rfl⟩
    go_wp2_with fail
    go_ret
    exact ⟨by rw [HF.out]; rfl, rfl⟩
set_option maxHeartbeats 2000000 in
set_option maxRecDepth 100000 in
theorem rheader_any (o : Nat) (ho : o < 4294967296) (hd : h.hdAt (o / 2)) :
    Calls Tryd.prog 59 #[ptr p.g, .int .u32 o] w (Told (h.hd (o / 2)).val w) := by
  have hb0 : ∀ o, Below w.heap.size w (w.alloc o) := fun o => (Below.refl _ _).alloc (Nat.le_refl _) _
  have B0 := R.1.alloc (.cells #[.int .i64 0, .int .i64 0, .int .i64 0, .int .u32 0, .int .u32 0] 79)
  have R' := R.below (hb0 (.cells #[.int .i64 0, .int .i64 0, .int .i64 0, .int .u32 0, .int .u32 0] 79))
  have c1 := R'.c1
  have hroom := f.room
  have hhi := f.hi
  have hd1 := hd.1
  have hd2 := hd.2
  have hw0 := R'.word (i := o / 2) (by omega)
  have hw1 := R'.word (i := o / 2 + 1) (by omega)
  have hw2 := R'.word (i := o / 2 + 2) (by omega)
  have HU := Lib.hid (fun w => runpack_any (h.w (o / 2)) (h.w (o / 2 + 1)) (h.w (o / 2 + 2)) (f.word _) (f.word _) (f.word _) w)
  have HV := Lib.hid (show unpackV (h.w (o / 2)) (h.w (o / 2 + 1)) (h.w (o / 2 + 2)) = .tuple #[(h.hd (o / 2)).val, .bool true] by unfold unpackV; rw [hd2]; rfl)
  rw [HV.out] at HU
  change _ = some (Value.int .u32 ((h.w (o / 2) : Nat) : Int)) at hw0
  change _ = some (Value.int .u32 ((h.w (o / 2 + 1) : Nat) : Int)) at hw1
  change _ = some (Value.int .u32 ((h.w (o / 2 + 2) : Nat) : Int)) at hw2
  have hq : ((o : Int) / 2) = ((o / 2 : Nat) : Int) := by omega
  have HX := Lib.hid (show (h.hd (o / 2)).val = .agg #[.int .i64 (h.hd (o / 2)).size, .int .i64 (h.hd (o / 2)).fmt, .int .i64 (h.hd (o / 2)).spare, .int .u32 (h.hd (o / 2)).cls, .int .u32 (h.hd (o / 2)).ser] from rfl)
  generalize o / 2 = q at *
  generalize h.w q = x0 at *
  generalize h.w (q + 1) = x1 at *
  generalize h.w (q + 2) = x2 at *
  have hlt0 : (q : Int) < (h.words.length : Int) := by omega
  have hlt1 : (q : Int) + 1 < (h.words.length : Int) := by omega
  have hlt2 : (q : Int) + 2 < (h.words.length : Int) := by omega
  have e1 : IntKind.i64.wrap ((q : Int) + 1) = (q : Int) + 1 := IntWalk.i64_in _ (by omega)
  have e2 : IntKind.i64.wrap ((q : Int) + 2) = (q : Int) + 2 := IntWalk.i64_in _ (by omega)
  have p1 : 0 ≤ (q : Int) + 1 := by omega
  have p2 : 0 ≤ (q : Int) + 2 := by omega
  have t1 : ((q : Int) + 1).toNat = q + 1 := by omega
  have t2 : ((q : Int) + 2).toNat = q + 2 := by omega
  have hg0 := R.1.lt
  clear R R' hd hd1 hd2 hb0 HV
  generalize h.hd q = x at *
  unfold ptr
  go_enter Tryd.func59, Tryd.ntmps59
  go_wp2_with fail
  generalize hW : w.alloc _ = W
  rw [hW] at c1 hw0 hw1 hw2 B0
  have hbW : Below w.heap.size w W := by rw [← hW]; exact (Below.refl _ _).alloc (Nat.le_refl _) _
  have BR : Blk W w.heap.size 79 #[.int .i64 0, .int .i64 0, .int .i64 0, .int .u32 0, .int .u32 0] := by rw [← hW]; exact Blk.new _ _ _
  clear hW B0
  have KC := Lib.hid (show ∀ W', Below W.heap.size W W' → W'.cell? ⟨p.g, 1, none⟩ = some (.slice (some ⟨p.gw, 0, none⟩) h.words.length p.cw) ∧ W'.cell? ⟨p.gw, q, none⟩ = some (.int .u32 (x0 : Int)) ∧ W'.cell? ⟨p.gw, q + 1, none⟩ = some (.int .u32 (x1 : Int)) ∧ W'.cell? ⟨p.gw, q + 2, none⟩ = some (.int .u32 (x2 : Int)) from fun W' hb =>
    ⟨(hb.cell (World.block_lt_of_cell? _ _ c1)).trans c1, (hb.cell (World.block_lt_of_cell? _ _ hw0)).trans hw0, (hb.cell (World.block_lt_of_cell? _ _ hw1)).trans hw1, (hb.cell (World.block_lt_of_cell? _ _ hw2)).trans hw2⟩)
  have HUA := Lib.hid (show Calls Tryd.prog 40 #[.agg #[.int .u32 x0, .int .u32 x1, .int .u32 x2]] W.drew fun e w1 => e = .returned (.tuple #[.agg #[.int .i64 x.size, .int .i64 x.fmt, .int .i64 x.spare, .int .u32 x.cls, .int .u32 x.ser], .bool true]) ∧ Below W.heap.size W w1 from
    by rw [← HX.out]; exact (HU.out _).mono fun _ _ ⟨h1, h2⟩ => ⟨h1, below_top (below_drew (Below.refl _ _)) h2⟩)
  have HUB := Lib.hid (show Calls Tryd.prog 40 #[.agg #[.int .u32 x0, .int .u32 x1, .int .u32 x2]] (W.alloc (.cells #[.int .i64 0, .int .i64 0, .int .i64 0, .int .u32 0, .int .u32 0] 79)).drew fun e w1 => e = .returned (.tuple #[.agg #[.int .i64 x.size, .int .i64 x.fmt, .int .i64 x.spare, .int .u32 x.cls, .int .u32 x.ser], .bool true]) ∧ Below W.heap.size W w1 ∧ Blk w1 W.heap.size 79 #[.int .i64 0, .int .i64 0, .int .i64 0, .int .u32 0, .int .u32 0] from
    by rw [← HX.out]; exact (HU.out _).mono fun _ _ ⟨h1, h2⟩ => ⟨h1, below_top (below_drew (below_alloc1 (Below.refl _ _))) h2, ((Blk.new W _ _).drew).below h2 (by simp [World.drew])⟩)
  have hb0 := Below.refl W.heap.size W
  have hn1 : W.heap.size ≠ p.gw := by have := World.block_lt_of_cell? _ _ hw0; simp only at this; omega
  have hn2 : W.heap.size ≠ p.g := by have := World.block_lt_of_cell? _ _ c1; simp only at this; omega
  go_cut [6] (fun v wx => ∃ g, v = ptr g ∧ Below W.heap.size W wx ∧ Blk wx g 79 #[.int .i64 x.size, .int .i64 x.fmt, .int .i64 x.spare, .int .u32 x.cls, .int .u32 x.ser] ∧ W.heap.size ≤ g)
  case first =>
    go_region_held3 (fun w' => w'.cell? ⟨p.g, 1, none⟩ = some (.slice (some ⟨p.gw, 0, none⟩) h.words.length p.cw) ∧ w'.cell? ⟨p.gw, q, none⟩ = some (.int .u32 (x0 : Int)) ∧ w'.cell? ⟨p.gw, q + 1, none⟩ = some (.int .u32 (x1 : Int)) ∧ w'.cell? ⟨p.gw, q + 2, none⟩ = some (.int .u32 (x2 : Int)))
      (first | with_reducible exact KC.out _ hb0 | with_reducible exact KC.out _ (Below.drew hb0) | with_reducible exact KC.out _ (below_alloc1 hb0) | with_reducible exact KC.out _ (Below.drew (below_alloc1 hb0)) | with_reducible exact KC.out _ hk | with_reducible exact KC.out _ (below_alloc1 hk) | with_reducible exact KC.out _ (below_set5 hk (Nat.le_refl _)))
      (first
        | (go_at_call 40; (with_reducible refine HUA.out.mono ?_); rintro e w1 ⟨rfl, hk⟩)
        | (go_at_call 40; (with_reducible refine HUB.out.mono ?_); rintro e w1 ⟨rfl, hk, hB6⟩; obtain ⟨g0, g1, g2, g3, g4⟩ := hB6.cells5; have hgz := hB6.fz; have hgl := hB6.lt))
    all_goals go_wp2_with fail
    all_goals go_meet
    · exact ⟨_, rfl, below_alloc1 hk, Blk.new _ _ _, hk.size⟩
    · exact ⟨_, rfl, below_set5 hk (Nat.le_refl _), hB6.setAll5 _ _ _ _ _, Nat.le_refl _⟩
  case rest =>
    obtain ⟨gx, rfl, hbc, BX, hgx⟩ := hcut
    have BR' := BR.below hbc BR.lt
    have hb := hbW.trans (hbc.mono hbW.size)
    clear KC HUA HUB hb0 hbc HU hw0 hw1 hw2 c1 BR
    obtain ⟨d0, d1, d2, d3, d4⟩ := BR'.cells5
    obtain ⟨b0, b1, b2, b3, b4⟩ := BX.cells5
    have z1 := BR'.fz
    have hz := BR'.lt
    unfold ptr
    go_wp2_with fail
    refine bodyPost_ret (v := .agg #[.int .i64 x.size, .int .i64 x.fmt, .int .i64 x.spare, .int .u32 x.cls, .int .u32 x.ser]) (by simp [results, Tryd.results59, go_sem, d0, d1, d2, d3, d4]) rfl ⟨by rw [HX.out], ?_⟩
    exact (((((hb.setCell (by simp) _).setCell (by simp) _).setCell (by simp) _).setCell (by simp) _).setCell (by simp) _)
end
end Go.Proofs.YtfpleoblehfhbaaDoor

namespace Go.Proofs.YtfpleoblehfhbaaDoor
open Go.RowKit

/-- What place answers, for elements of format F (fs: the formats that are looked at so). -/
def HM.placeV (h : HM) (o : Nat) (i : Int) (F : Nat) (fs : List Nat) : Value :=
  .tuple #[.int .i64 ((if h.lookE o i fs = 0 then o / 2 + 3 + (if F = 2 then i.toNat / 4 else i.toNat) else 0 : Nat) : Int), .int .i64 (h.lookE o i fs)]
theorem fld1 : ∀ (a b c d e : Value) (w : World), (Instr.field 79 (.agg #[a, b, c, d, e]) 1).run Tryd.prog w = .ok b w := fun a b c d e w => by kernel_rfl
theorem fld0 : ∀ (a b c d e : Value) (w : World), (Instr.field 79 (.agg #[a, b, c, d, e]) 0).run Tryd.prog w = .ok a w := fun a b c d e w => by kernel_rfl
theorem fld4 : ∀ (a b c d e : Value) (w : World), (Instr.field 79 (.agg #[a, b, c, d, e]) 4).run Tryd.prog w = .ok e w := fun a b c d e w => by kernel_rfl
theorem contains_cases {F t : Nat} {fs : List Nat} (hf : (F = 1 ∧ fs = [1, 4]) ∨ (F = 2 ∧ fs = [2]) ∨ (F = 3 ∧ fs = [3])) :
    (fs.contains t = true ∧ t = F) ∨ (fs.contains t = true ∧ t ≠ F ∧ t = 4 ∧ F = 1) ∨ (fs.contains t = false ∧ t ≠ F ∧ t ≠ 4) ∨ (fs.contains t = false ∧ t ≠ F ∧ t = 4 ∧ F ≠ 1) := by
  rcases hf with ⟨rfl, rfl⟩ | ⟨rfl, rfl⟩ | ⟨rfl, rfl⟩
  · by_cases h1 : t = 1
    · subst h1; exact .inl ⟨by decide, rfl⟩
    · by_cases h4 : t = 4
      · subst h4; exact .inr (.inl ⟨by decide, by decide, rfl, rfl⟩)
      · exact .inr (.inr (.inl ⟨by simp [h1, h4], h1, h4⟩))
  · by_cases h1 : t = 2
    · subst h1; exact .inl ⟨by decide, rfl⟩
    · by_cases h4 : t = 4
      · subst h4; exact .inr (.inr (.inr ⟨by decide, by decide, rfl, by decide⟩))
      · exact .inr (.inr (.inl ⟨by simp [h1], h1, h4⟩))
  · by_cases h1 : t = 3
    · subst h1; exact .inl ⟨by decide, rfl⟩
    · by_cases h4 : t = 4
      · subst h4; exact .inr (.inr (.inr ⟨by decide, by decide, rfl, by decide⟩))
      · exact .inr (.inr (.inl ⟨by simp [h1], h1, h4⟩))
theorem hd_parts {h : HM} (f : h.Fit) (i : Nat) (hi : h.hdAt i) : (h.hd i).len < 4294967296 ∧ ((h.hd i).fmt = 2 → (h.hd i).spare ≤ 4 * (h.hd i).size) ∧ (h.hd i).size < 16777216 ∧ (h.hd i).fmt < 8 ∧ (h.hd i).spare < 4 := by
  have hx := HM.hd_fit f i
  refine ⟨?_, hi.sane, hx.size, hx.fmt, hx.spare⟩
  have := hx.size
  unfold Hd.len
  split <;> omega

section
variable {w : World} {p : HP} {h : HM} (R : RAt w p h) (f : h.Fit) (o : Nat) (ho : o < 4294967296)
include R f ho
end
end Go.Proofs.YtfpleoblehfhbaaDoor

namespace Go.Proofs.YtfpleoblehfhbaaDoor
open Go.RowKit

theorem look_at {h : HM} (hh : h.Heads) {o : Nat} {i : Int} {F : Nat} {fs : List Nat} (hF : (F = 1 ∧ fs = [1, 4]) ∨ (F = 2 ∧ fs = [2]) ∨ (F = 3 ∧ fs = [3])) (he : h.lookE o i fs = 0) :
    ∃ k : Nat, i = k ∧ o / 2 + 3 + (if F = 2 then k / 4 else k) < h.words.length := by
  obtain ⟨hi, hc, h0, hlt⟩ := HM.look_ok he
  have hd := (HM.isB_hd hh hi).1
  obtain ⟨k, rfl⟩ := Int.eq_ofNat_of_zero_le h0
  refine ⟨k, rfl, ?_⟩
  unfold Hd.len at hlt
  rcases hF with ⟨rfl, rfl⟩ | ⟨rfl, rfl⟩ | ⟨rfl, rfl⟩
  · rw [if_neg (fun e => by rw [e] at hc; simp at hc)] at hlt
    rw [if_neg (by omega)]; omega
  · rw [if_pos (by simpa using hc)] at hlt
    rw [if_pos rfl]; omega
  · rw [if_neg (fun e => by rw [e] at hc; simp at hc)] at hlt
    rw [if_neg (by omega)]; omega
theorem HM.placeV_no {h : HM} {o F : Nat} {i : Int} {fs : List Nat} (he : h.lookE o i fs ≠ 0) : h.placeV o i F fs = .tuple #[.int .i64 0, .int .i64 (h.lookE o i fs)] := by
  unfold HM.placeV; rw [if_neg he]; rfl
theorem HM.placeV_at {h : HM} {o F k : Nat} {fs : List Nat} (he : h.lookE o k fs = 0) : h.placeV o k F fs = .tuple #[.int .i64 ((o / 2 + 3 + (if F = 2 then k / 4 else k) : Nat) : Int), .int .i64 0] := by
  unfold HM.placeV; rw [if_pos he, he, Int.toNat_natCast]; rfl
def RDeeds (p : HP) (h' : HM) (E : Nat) (w : World) (e : Ending) (w' : World) : Prop := e = .returned (.int .i64 E) ∧ RAt w' p h' ∧ Step p p w w'

section
variable {w : World} {p : HP} {h : HM} (R : RAt w p h) (f : h.Fit) (hh : h.Heads) (o : Nat) (ho : o < 4294967296) (i : Int) (hi63 : i ≤ 9223372036854775807)
include R f hh ho hi63

end
end Go.Proofs.YtfpleoblehfhbaaDoor

namespace Go.Proofs.YtfpleoblehfhbaaDoor
open Go.RowKit

section
variable {w : World} {p : HP} {h : HM} (R : RAt w p h) (f : h.Fit) (hh : h.Heads) (o : Nat) (ho : o < 4294967296) (i : Int) (hi63 : i ≤ 9223372036854775807)
include R f hh ho hi63

end

section
variable {w : World} {p : HP} {h : HM} (R : RAt w p h) (f : h.Fit)
include R f
end
end Go.Proofs.YtfpleoblehfhbaaDoor
