/- A heap of the program's, all of it new since a world W: what each call does with it. The contracts of the heap's functions with their side conditions shut. -/
/- Load and Same of a heap that is new. -/
/- The document's oops and headers: Kind, Value, May, Pack, Unpack. -/
/- The document's Length, PackBytes, Digits, Decimal, Show. -/
/- The document's PackBytes. -/
/- The document's heap: what only reads. -/
/- The document's heap: lengths, places. -/
/- The document's heap: elements read, elements written. -/
/- The document's heap: elements, classes, roots written. -/
import Derived.Test.YtlkahgagmfhdaaaGreatDoorJMake
import Derived.Test.YtlkahgagmfhdaaaGreatDoorJShow
import Derived.Test.YtlkahgagmfhdaaaGreatDoorJSound
import Derived.Test.YtlkahgagmfhdaaaGreatDoorJOop
import Derived.Test.YtlkahgagmfhdaaaGreatDoorJText
import Derived.Test.YtlkahgagmfhdaaaGreatDoorJMay
import Derived.Test.YtlkahgagmfhdaaaGreatDoorJAlloc
import Derived.StillTailTactics
set_option linter.unusedVariables false
set_option linter.unusedSectionVars false
namespace Go.Proofs.YtlkahgagmfhdaaaGreatDoor
open Go.RowKit

/-- The package-level tables are as the program lays them. -/
structure Env (w : World) : Prop where
  spares : Spares w
  pow : Pow w
theorem Pow.lt {w : World} (h : Pow w) : 0 < w.heap.size := Spares.lt h
theorem Env.below {w w' : World} (E : Env w) (hb : Below w.heap.size w w') : Env w' := ⟨E.spares.below hb, E.pow.below hb⟩
theorem Env.step {p p' : HP} {w w' : World} (E : Env w) (s : Step p p' w w') (hp : Far p) : Env w' := ⟨s.spares hp E.spares, s.pow hp E.pow⟩
theorem Env.far {W : World} (E : Env W) {p : HP} (hn : ∀ k, p.has k → W.heap.size ≤ k) : Far p := fun k hk => by
  have h1 := hn k hk
  have h2 := E.spares.lt
  have h3 := E.pow.lt
  exact ⟨by omega, by omega⟩

structure Live (W w : World) (p : HP) (g : Nat) (h : HM) : Prop where
  at_ : HAt w p h
  hg : p.g = g
  good : ∃ l, h.Good l
  env : Env W
  new : ∀ k, p.has k → W.heap.size ≤ k
  below : Below W.heap.size W w

section
variable {W w w' : World} {p p' : HP} {g : Nat} {h h' : HM}
theorem Live.fit (L : Live W w p g h) : h.Fit := by obtain ⟨l, G⟩ := L.good; exact G.fit
theorem Live.heads (L : Live W w p g h) : h.Heads := by obtain ⟨l, G⟩ := L.good; exact G.laid.heads
theorem Live.far (L : Live W w p g h) : Far p := L.env.far L.new
theorem Live.envw (L : Live W w p g h) : Env w := L.env.below L.below
theorem Live.after (L : Live W w p g h) (hb : Below w.heap.size w w') : Live W w' p g h :=
  ⟨L.at_.below hb, L.hg, L.good, L.env, L.new, below_top L.below hb⟩
theorem Live.step (L : Live W w p g h) (H : HAt w' p' h') (s : Step p p' w w') (G : ∃ l, h'.Good l) : Live W w' p' g h' :=
  ⟨H, s.g.trans L.hg, G, L.env, fun k hk => (s.rows k hk).elim (L.new k) (fun hk => Nat.le_trans L.below.size hk), s.below L.below L.new⟩
/-- A row that is not the heap's stays as it is. -/
theorem Step.row {e : TypeId} {gr c : Nat} {xs : List Value} (s : Step p p' w w') (hr : Row w gr e c xs) (hn : ¬ p.has gr) : Row w' gr e c xs ∧ ¬ p'.has gr :=
  ⟨hr.same (s.block gr hr.lt hn), fun hh => by
    rcases s.rows gr hh with hh | hh
    · exact hn hh
    · have := hr.lt; omega⟩
theorem Step.reads {size n : Nat} {A : Option Addr} {xs : List Value} {B : Nat} (s : Step p p' w w') (hr : Reads w B size A n xs) (hB : B ≤ w.heap.size) (hn : ∀ k, p.has k → B ≤ k) : Reads w' B size A n xs :=
  hr.keep fun q hq => World.cell?_of_block (s.block q.block (by omega) (fun hh => by have := hn _ hh; omega))

def HM.AllocO (h : HM) (c : Nat) (f n : Int) : Nat := if h.AllocE c f n = 0 then 2 * h.words.length else 0
def HM.makeO (h : HM) (c : Nat) (bs : List Nat) : Nat := if h.makeE c bs = 0 then 2 * h.words.length else 0
theorem HM.AllocV_eq (h : HM) (c : Nat) (f n : Int) : h.AllocV c f n = .tuple #[.int .u32 (h.AllocO c f n : Nat), .int .i64 (h.AllocE c f n : Nat)] := by
  unfold HM.AllocV HM.AllocO HM.AllocE
  by_cases hok : allocOk f n = true
  · rw [if_pos hok, if_pos hok]; rfl
  · rw [if_neg hok, if_neg hok]; rfl
theorem HM.makeV_eq (h : HM) (c : Nat) (bs : List Nat) : h.makeV c bs = .tuple #[.int .u32 (h.makeO c bs : Nat), .int .i64 (h.makeE c bs : Nat)] := rfl

/-- A deed's end at law level. -/
def Done (W : World) (p : HP) (g : Nat) (h' : HM) (v : Value) (w : World) (e : Ending) (w' : World) : Prop :=
  ∃ p', e = .returned v ∧ Live W w' p' g h' ∧ Step p p' w w'
theorem Live.of_made {v : Value} {d : Ending} (L : Live W w p g h) (G : ∃ l, h'.Good l) (H : Made p h' v w d w') : Done W p g h' v w d w' := by
  obtain ⟨p', rfl, H', s⟩ := H
  exact ⟨p', rfl, L.step H' s G, s⟩
theorem Live.of_deed {E : Nat} {d : Ending} (L : Live W w p g h) (G : ∃ l, h'.Good l) (H : Deeds p h' E w d w') : Done W p g h' (.int .i64 E) w d w' := by
  obtain ⟨rfl, H', s⟩ := H
  exact ⟨p, rfl, L.step H' s G, s⟩

theorem Live.alloc (L : Live W w p g h) (c : Nat) (hc : c < 4294967296) (t n : Int) :
    Calls Tryz.prog 75 #[.pointer (some ⟨g, 0, none⟩), .int .u32 c, .int .i64 t, .int .i64 n] w (Done W p g (h.AllocH c t n) (.tuple #[.int .u32 (h.AllocO c t n : Nat), .int .i64 (h.AllocE c t n : Nat)]) w) := by
  have hh := Alloc_any L.at_ L.fit L.envw.spares L.far c hc t n
  rw [L.hg, HM.AllocV_eq] at hh
  exact hh.mono fun _ _ H => L.of_made (by obtain ⟨l, G⟩ := L.good; exact G.AllocH c t n hc) H
theorem Live.make (L : Live W w p g h) (c : Nat) (hc : c < 4294967296) (A : Option Addr) (n cap : Nat) (bs : List Nat) (hn : n ≤ 9223372036854775807) (hr : Reads w w.heap.size 1 A n (u8c bs)) (hb : ∀ x ∈ bs, x < 256) :
    Calls Tryz.prog 104 #[.pointer (some ⟨g, 0, none⟩), .int .u32 c, .slice A n cap] w (Done W p g (h.makeH c bs) (.tuple #[.int .u32 (h.makeO c bs : Nat), .int .i64 (h.makeE c bs : Nat)]) w) := by
  have hh := Make_any L.at_ L.fit L.envw.spares L.far c hc A n cap _ bs hn hr (Nat.le_refl _) hb
  rw [L.hg, HM.makeV_eq] at hh
  exact hh.mono fun _ _ H => L.of_made (by obtain ⟨l, G⟩ := L.good; exact G.MakeH c bs hc hb) H
theorem Live.put (L : Live W w p g h) (o : Nat) (ho : o < 4294967296) (i : Int) (v : Nat) (hv : v < 4294967296) :
    Calls Tryz.prog 105 #[.pointer (some ⟨g, 0, none⟩), .int .u32 o, .int .i64 i, .int .u32 v] w (Done W p g (h.putH o i v) (.int .i64 (h.putE o i v : Nat)) w) := by
  have hh := put_any L.at_ L.fit L.heads L.envw.spares o ho i v hv
  rw [L.hg] at hh
  exact hh.mono fun _ _ H => L.of_deed (by obtain ⟨l, G⟩ := L.good; obtain ⟨l', G', _⟩ := G.putH o i v hv; exact ⟨l', G'⟩) H
theorem Live.setRoot (L : Live W w p g h) (i : Int) (v : Nat) (hv : v < 4294967296) :
    Calls Tryz.prog 77 #[.pointer (some ⟨g, 0, none⟩), .int .i64 i, .int .u32 v] w (Done W p g (h.setRootH i v) (.int .i64 (h.setRootE i v : Nat)) w) := by
  have hh := setRoot_any L.at_ L.fit i v hv
  rw [L.hg] at hh
  exact hh.mono fun _ _ H => L.of_deed (by obtain ⟨l, G⟩ := L.good; exact ⟨l, G.setRootH i v hv⟩) H

/-- What only reads. -/
def Told (v : Value) (w : World) (e : Ending) (w' : World) : Prop := e = .returned v ∧ Below w.heap.size w w'
theorem Live.get (L : Live W w p g h) (o : Nat) (ho : o < 4294967296) (i : Int) :
    Calls Tryz.prog 175 #[.pointer (some ⟨g, 0, none⟩), .int .u32 o, .int .i64 i] w (Told (.tuple #[.int .u32 (h.readN o i [1, 4] : Nat), .int .i64 (h.lookE o i [1, 4] : Nat)]) w) := by
  have hh := get_any L.at_ L.fit L.heads L.envw.spares o ho i
  rw [L.hg] at hh
  exact hh
theorem Live.word (L : Live W w p g h) (o : Nat) (ho : o < 4294967296) (i : Int) :
    Calls Tryz.prog 136 #[.pointer (some ⟨g, 0, none⟩), .int .u32 o, .int .i64 i] w (Told (.tuple #[.int .u32 (h.readN o i [3] : Nat), .int .i64 (h.lookE o i [3] : Nat)]) w) := by
  have hh := word_any L.at_ L.fit L.heads L.envw.spares o ho i
  rw [L.hg] at hh
  exact hh
def HM.isE (h : HM) (o : Nat) : Nat := if h.isB o then 0 else 3
def HM.hdO (h : HM) (o : Nat) : Hd := if h.isB o then h.hd (o / 2) else ⟨0, 0, 0, 0, 0⟩
theorem HM.headerV_eq (h : HM) (o : Nat) : h.headerV o = .tuple #[(h.hdO o).val, .int .i64 (h.isE o : Nat)] := by
  unfold HM.headerV HM.hdO HM.isE; cases h.isB o <;> rfl
theorem Live.header (L : Live W w p g h) (o : Nat) (ho : o < 4294967296) :
    Calls Tryz.prog 32 #[.pointer (some ⟨g, 0, none⟩), .int .u32 o] w (Told (.tuple #[(h.hdO o).val, .int .i64 (h.isE o : Nat)]) w) := by
  have hh := Header_any L.at_ L.fit L.heads L.envw.spares o ho
  rw [L.hg, HM.headerV_eq] at hh
  exact hh
def HM.nextN (h : HM) (o : Nat) : Nat := if h.isB o then h.nextO o else 0
theorem Live.next (L : Live W w p g h) (o : Nat) (ho : o < 4294967296) :
    Calls Tryz.prog 130 #[.pointer (some ⟨g, 0, none⟩), .int .u32 o] w (Told (.tuple #[.int .u32 (h.nextN o : Nat), .int .i64 (h.isE o : Nat)]) w) := by
  have hh := next_any L.at_ L.fit L.heads L.envw.spares o ho
  rw [L.hg, show h.nextV o = .tuple #[.int .u32 (h.nextN o : Nat), .int .i64 (h.isE o : Nat)] by
    unfold HM.nextV HM.nextN HM.isE; cases h.isB o <;> rfl] at hh
  exact hh
theorem Live.bytes (L : Live W w p g h) (o : Nat) (ho : o < 4294967296) :
    Calls Tryz.prog 137 #[.pointer (some ⟨g, 0, none⟩), .int .u32 o] w (BytesP h o w) := by
  have hh := bytes_any L.at_ L.fit L.heads L.envw.spares o ho
  rw [L.hg] at hh
  exact hh
/-- What reads and makes nothing. -/
def Said (v : Value) (w : World) (e : Ending) (w' : World) : Prop := e = .returned v ∧ w = w'
theorem Live.is (L : Live W w p g h) (o : Nat) (ho : o < 4294967296) :
    Calls Tryz.prog 85 #[.pointer (some ⟨g, 0, none⟩), .int .u32 o] w (Said (.bool (h.isB o)) w) := by
  have hh := is_any L.at_ L.fit o ho
  rw [L.hg] at hh
  exact hh
theorem Live.size (L : Live W w p g h) : Calls Tryz.prog 59 #[.pointer (some ⟨g, 0, none⟩)] w (Said (.int .i64 (h.size : Nat)) w) := by
  have hh := size_any L.at_ L.fit
  rw [L.hg] at hh
  exact hh
theorem Live.top (L : Live W w p g h) : Calls Tryz.prog 60 #[.pointer (some ⟨g, 0, none⟩)] w (Said (.int .i64 (h.words.length : Nat)) w) := by
  have hh := top_any L.at_ L.fit
  rw [L.hg] at hh
  exact hh
theorem Live.last (L : Live W w p g h) : Calls Tryz.prog 62 #[.pointer (some ⟨g, 0, none⟩)] w (Said (.int .u32 (h.last : Nat)) w) := by
  have hh := last_any L.at_ L.fit
  rw [L.hg] at hh
  exact hh
theorem Live.first (L : Live W w p g h) : Calls Tryz.prog 78 #[.pointer (some ⟨g, 0, none⟩)] w (Said (.int .u32 (h.objM 1 : Nat)) w) := by
  have hh := first_any L.at_ L.fit
  rw [L.hg] at hh
  exact hh
def HM.rootN (h : HM) (i : Int) : Nat := if rootOk i then h.roots.getD i.toNat 0 else 0
def rootE (i : Int) : Nat := if rootOk i then 0 else 1
theorem Live.root (L : Live W w p g h) (i : Int) : Calls Tryz.prog 81 #[.pointer (some ⟨g, 0, none⟩), .int .i64 i] w (Said (.tuple #[.int .u32 (h.rootN i : Nat), .int .i64 (rootE i : Nat)]) w) := by
  have hh := root_any L.at_ L.fit i
  rw [L.hg, show h.rootV i = .tuple #[.int .u32 (h.rootN i : Nat), .int .i64 (rootE i : Nat)] by
    unfold HM.rootV HM.rootN rootE; cases rootOk i <;> rfl] at hh
  exact hh
theorem Live.words (L : Live W w p g h) : Calls Tryz.prog 35 #[.pointer (some ⟨g, 0, none⟩)] w (NewRow 32 (u32s h.words) w) := by
  have hh := words_any L.at_ L.fit
  rw [L.hg] at hh
  exact hh
theorem Live.roots (L : Live W w p g h) : Calls Tryz.prog 54 #[.pointer (some ⟨g, 0, none⟩)] w (NewRow 54 (u32s h.roots) w) := by
  have hh := roots_any L.at_ L.fit
  rw [L.hg] at hh
  exact hh
end
end Go.Proofs.YtlkahgagmfhdaaaGreatDoor

namespace Go.Proofs.YtlkahgagmfhdaaaGreatDoor
open Go.RowKit

theorem Live.load {W w : World} {p : HP} {g : Nat} {h : HM} (L : Live W w p g h) (A : Option Addr) (n c : Nat) (ws : List Nat) (hn : n ≤ 9223372036854775807) (hr : Reads w w.heap.size 1 A n (u32s ws)) (h32 : ∀ x ∈ ws, x < 4294967296)
    (A' : Option Addr) (n' c' : Nat) (rs : List Nat) (hn' : n' ≤ 9223372036854775807) (hr' : Reads w w.heap.size 1 A' n' (u32s rs)) (h32' : ∀ x ∈ rs, x < 4294967296) (last : Nat) (hl : last < 4294967296) :
    Calls Tryz.prog 94 #[.pointer (some ⟨g, 0, none⟩), .slice A n c, .slice A' n' c', .int .u32 last] w (Done W p g (h.loadH ws rs last) (.int .i64 (loadE h.size ws rs last : Nat)) w) := by
  have hh := Load_any L.at_ L.fit L.envw.spares (fun k hk => by
    have h1 := L.envw.spares.lt
    have h2 := L.envw.pow.lt
    exact ⟨by omega, by omega⟩) A n c ws hn hr h32 A' n' c' rs hn' hr' h32' last hl
  rw [L.hg] at hh
  refine hh.mono fun _ _ H => L.of_made ?_ H
  unfold HM.loadH
  by_cases he : loadE h.size ws rs last = 0
  · rw [if_pos he]
    unfold loadE at he
    split at he
    · omega
    · rename_i hb
      split at he
      · rename_i hok
        obtain ⟨l, hp, S⟩ := hok
        have f := L.fit
        exact ⟨l, HM.ofWords_good f.lo f.hi h32 h32' (by omega) hl (by omega) hp S⟩
      · omega
  · rw [if_neg he]; exact L.good
theorem Live.same {W w W2 : World} {p q : HP} {g k : Nat} {a b : HM} (La : Live W w p g a) (Lb : Live W2 w q k b) :
    Calls Tryz.prog 46 #[.pointer (some ⟨g, 0, none⟩), .pointer (some ⟨k, 0, none⟩)] w (Told (.bool (sameH a b)) w) := by
  have hh := Same_any La.at_ Lb.at_ La.fit Lb.fit
  rw [La.hg, Lb.hg] at hh
  exact hh.mono fun e w' ⟨he, m, hm⟩ => ⟨he, hm ▸ below_drewN (Below.refl _ _) m⟩
end Go.Proofs.YtlkahgagmfhdaaaGreatDoor

namespace Go.Proofs.YtlkahgagmfhdaaaGreatDoor
open Go.RowKit
set_option maxHeartbeats 1000000 in
theorem rpack_any (x : Hd) (f : x.Fit) (w : World) :
    Calls Tryz.prog 146 #[x.val] w fun e w' => e = .returned x.packed ∧ Below w.heap.size w w' := by
  obtain ⟨n, t, s, c, r⟩ := x
  obtain ⟨f1, f2, f3, f4, f5⟩ := f
  simp only at f1 f2 f3 f4 f5
  have HF := Lib.hid (show Hd.packed ⟨n, t, s, c, r⟩ = .agg #[.int .u32 ((n : Int) + (t : Int) * 16777216 + (s : Int) * 134217728), .int .u32 c, .int .u32 r] by simp [Hd.packed, Hd.w0])
  unfold Hd.val
  go_enter Tryz.func146, Tryz.ntmps146
  go_wp2_with fail
  refine bodyPost_ret (v := .agg #[.int .u32 ((n : Int) + (t : Int) * 16777216 + (s : Int) * 134217728), .int .u32 c, .int .u32 r]) (by simp [results, Tryz.results146, go_sem]) rfl ⟨by rw [HF.out], ?_⟩
  exact ((Below.refl _ _).alloc (Nat.le_refl _) _).alloc (by simp) _

end Go.Proofs.YtlkahgagmfhdaaaGreatDoor

namespace Go.Proofs.YtlkahgagmfhdaaaGreatDoor
open Go.RowKit
end Go.Proofs.YtlkahgagmfhdaaaGreatDoor

namespace Go.Proofs.YtlkahgagmfhdaaaGreatDoor
open Go.RowKit
end Go.Proofs.YtlkahgagmfhdaaaGreatDoor

namespace Go.Proofs.YtlkahgagmfhdaaaGreatDoor
open Go.RowKit

theorem below_alloc1 {W w : World} {o : Obj} (h : Below W.heap.size W w) : Below W.heap.size W (w.alloc o) := h.alloc h.size o
theorem begin_one (b : Bool) : (((if b = true then 1 else 0 : Int)) == 1) = b := by cases b <;> rfl
section
variable {w : World} {p : HP} {h : HM} (R : RAt w p h) (f : h.Fit)
include R f
theorem ris_any (o : Nat) (ho : o < 4294967296) :
    Calls Tryz.prog 182 #[ptr p.g, .int .u32 o] w (Said (.bool (h.isB o)) w) := by
  have c4 := R.c4
  have hlen := f.marks
  have hroom := f.room
  have hhi := f.hi
  unfold ptr
  by_cases h0 : o = 0
  · subst h0
    have HF := Lib.hid (show h.isB 0 = false by simp [HM.isB, objB, kindM])
    go_enter Tryz.func182, Tryz.ntmps182
    go_wp2_with fail
    go_ret
    exact ⟨by rw [HF.out]; rfl, rfl⟩
  have hb : ((o : Int) != 0) = true := by simpa using h0
  by_cases h1 : o % 2 = 1
  · have HF := Lib.hid (show h.isB o = false by simp [HM.isB, objB, kindM, h0, h1])
    have hb2 : ((o : Int) % 2 == 0) = false := by simp; omega
    clear h0 h1
    go_enter Tryz.func182, Tryz.ntmps182
    go_wp2_with fail
    go_ret
    exact ⟨by rw [HF.out]; rfl, rfl⟩
  have hb2 : ((o : Int) % 2 == 0) = true := by simp; omega
  have hk : objB o = true := (objB_iff o).2 ⟨h0, by omega⟩
  by_cases hl : o / 2 < h.starts.length
  · have hcell := R.mark hl
    have HF := Lib.hid (show h.isB o = h.starts.getD (o / 2) false by simp [HM.isB, hk])
    generalize h.starts.getD (o / 2) false = b at *
    have hq : ((o : Int) / 2) = ((o / 2 : Nat) : Int) := by omega
    generalize o / 2 = q at *
    have hlt : (q : Int) < (h.starts.length : Int) := by omega
    have h1b := begin_one b
    clear hk h0 h1
    cases b
    all_goals
      go_enter Tryz.func182, Tryz.ntmps182
      go_wp2_with fail
      go_ret
      exact ⟨by rw [HF.out]; rfl, rfl⟩
  · have HF := Lib.hid (show h.isB o = false by rw [HM.isB, List.getD_eq_getElem?_getD, List.getElem?_eq_none (by omega)]; simp)
    have hq : ((o : Int) / 2) = ((o / 2 : Nat) : Int) := by omega
    generalize o / 2 = q at *
    have hlt : (h.starts.length : Int) ≤ (q : Int) := by omega
    clear hk h0 h1
    go_enter Tryz.func182, Tryz.ntmps182
    go_wp2_with fail
    go_ret
    exact ⟨by rw [HF.out]; rfl, rfl⟩
theorem risclass_any (o : Nat) (ho : o < 4294967296) :
    Calls Tryz.prog 159 #[ptr p.g, .int .u32 o] w (Said (.bool (h.clsB o)) w) := by
  have HI := Lib.hid (ris_any R f o ho)
  unfold ptr at HI ⊢
  by_cases h0 : o = 0
  · have HF := Lib.hid (show h.clsB o = true by simp [HM.clsB, h0])
    have hb : ((o : Int) == 0) = true := by simp; omega
    clear h0
    go_enter Tryz.func159, Tryz.ntmps159
    go_wp2_with fail
    go_ret
    exact ⟨by rw [HF.out]; rfl, rfl⟩
  · have HF := Lib.hid (show h.clsB o = h.isB o by simp [HM.clsB, h0])
    have hb : ((o : Int) == 0) = false := by simp; omega
    generalize h.isB o = b at *
    clear h0
    go_enter Tryz.func159, Tryz.ntmps159
    go_wp2_with fail
    refine HI.out.mono ?_
    rintro e w1 ⟨rfl, rfl⟩
    go_wp2_with fail
    go_ret
    exact ⟨by rw [HF.out]; rfl, rfl⟩
theorem rvalb_any (o : Nat) (ho : o < 4294967296) :
    Calls Tryz.prog 163 #[ptr p.g, .int .u32 o] w (Said (.bool (h.valB o)) w) := by
  have HI := Lib.hid (ris_any R f o ho)
  unfold ptr at HI ⊢
  by_cases h0 : o = 0
  · have HF := Lib.hid (show h.valB o = true by simp [HM.valB, objB, kindM, h0])
    have hb : ((o : Int) == 0) = true := by simp; omega
    clear h0
    go_enter Tryz.func163, Tryz.ntmps163
    go_wp2_with fail
    go_ret
    exact ⟨by rw [HF.out]; rfl, rfl⟩
  have hb : ((o : Int) == 0) = false := by simp; omega
  by_cases h1 : o % 2 = 1
  · have HF := Lib.hid (show h.valB o = true by simp [HM.valB, objB, kindM, h0, h1])
    have hb2 : ((o : Int) % 2 == 1) = true := by simp; omega
    clear h0 h1
    go_enter Tryz.func163, Tryz.ntmps163
    go_wp2_with fail
    go_ret
    exact ⟨by rw [HF.out]; rfl, rfl⟩
  · have HF := Lib.hid (show h.valB o = h.isB o by simp [HM.valB, objB, kindM, h0, h1])
    have hb2 : ((o : Int) % 2 == 1) = false := by simp; omega
    generalize h.isB o = b at *
    clear h0 h1
    go_enter Tryz.func163, Tryz.ntmps163
    go_wp2_with fail
    refine HI.out.mono ?_
    rintro e w1 ⟨rfl, rfl⟩
    go_wp2_with fail
    go_ret
    exact ⟨by rw [HF.out]; rfl, rfl⟩
end
end Go.Proofs.YtlkahgagmfhdaaaGreatDoor

namespace Go.Proofs.YtlkahgagmfhdaaaGreatDoor
open Go.RowKit
section
variable {w : World} {p : HP} {h : HM} (R : RAt w p h) (f : h.Fit) (o : Nat) (ho : o < 4294967296)
include R f ho
end
end Go.Proofs.YtlkahgagmfhdaaaGreatDoor

namespace Go.Proofs.YtlkahgagmfhdaaaGreatDoor
open Go.RowKit
def RDeeds (p : HP) (h' : HM) (E : Nat) (w : World) (e : Ending) (w' : World) : Prop := e = .returned (.int .i64 E) ∧ RAt w' p h' ∧ Step p p w w'

section
variable {w : World} {p : HP} {h : HM} (R : RAt w p h) (f : h.Fit) (hh : h.Heads) (o : Nat) (ho : o < 4294967296) (i : Int) (hi63 : i ≤ 9223372036854775807)
include R f hh ho hi63
end
end Go.Proofs.YtlkahgagmfhdaaaGreatDoor

namespace Go.Proofs.YtlkahgagmfhdaaaGreatDoor
open Go.RowKit

section
variable {w : World} {p : HP} {h : HM} (R : RAt w p h) (f : h.Fit) (hh : h.Heads) (o : Nat) (ho : o < 4294967296) (i : Int) (hi63 : i ≤ 9223372036854775807)
include R f hh ho hi63
end

section
variable {w : World} {p : HP} {h : HM} (R : RAt w p h) (f : h.Fit)
include R f
theorem rsetRoot_any (i : Int) (v : Nat) (hv : v < 4294967296) : Calls Tryz.prog 79 #[ptr p.g, .int .i64 i, .int .u32 v] w (RDeeds p (h.setRootH i v) (h.setRootE i v) w) := by
  have HK := Lib.hid (rvalb_any R f v hv)
  have HR := Lib.hid R
  unfold ptr at HK ⊢
  by_cases hn : i < 0
  · have hok : rootOk i = false := by unfold rootOk; simp; omega
    have HF := Lib.hid (show h.setRootE i v = 1 ∧ h.setRootH i v = h by unfold HM.setRootH HM.setRootE; rw [hok]; exact ⟨rfl, rfl⟩)
    clear hok
    go_enter Tryz.func79, Tryz.ntmps79
    go_wp2_with fail
    go_ret
    exact ⟨by rw [HF.out.1]; rfl, by rw [HF.out.2]; exact HR.out, Step.refl _ _⟩
  by_cases hg : 64 ≤ i
  · have hok : rootOk i = false := by unfold rootOk; simp; omega
    have HF := Lib.hid (show h.setRootE i v = 1 ∧ h.setRootH i v = h by unfold HM.setRootH HM.setRootE; rw [hok]; exact ⟨rfl, rfl⟩)
    clear hok
    go_enter Tryz.func79, Tryz.ntmps79
    go_wp2_with fail
    go_ret
    exact ⟨by rw [HF.out.1]; rfl, by rw [HF.out.2]; exact HR.out, Step.refl _ _⟩
  obtain ⟨k, rfl⟩ := Int.eq_ofNat_of_zero_le (by omega : 0 ≤ i)
  have hok : rootOk k = true := by unfold rootOk; simp; omega
  cases hval : h.valB v
  · have HF := Lib.hid (show h.setRootE k v = 3 ∧ h.setRootH k v = h by unfold HM.setRootH HM.setRootE; rw [hok, hval]; exact ⟨rfl, rfl⟩)
    rw [hval] at HK
    clear hok hval
    go_enter Tryz.func79, Tryz.ntmps79
    go_wp2_with fail
    refine HK.out.mono ?_
    rintro e w1 ⟨rfl, rfl⟩
    go_wp2_with fail
    go_ret
    exact ⟨by rw [HF.out.1]; rfl, by rw [HF.out.2]; exact HR.out, Step.refl _ _⟩
  · have HF := Lib.hid (show h.setRootE k v = 0 ∧ h.setRootH k v = { h with roots := h.roots.set k v } by unfold HM.setRootH HM.setRootE; rw [hok, hval]; exact ⟨rfl, rfl⟩)
    have hk64 : k < 64 := by omega
    have hrl := f.roots
    have c2 := R.c2
    have cv := R.root (i := k) (by omega)
    have cf := R.2.2.2.frozen k
    have HS := Lib.hid (R.setRoot k v)
    rw [← HF.out.2] at HS
    rw [hval] at HK
    rw [hrl] at c2
    clear hok hval R f hrl
    generalize h.roots.getD k 0 = v0 at *
    go_enter Tryz.func79, Tryz.ntmps79
    go_wp2_with fail
    refine HK.out.mono ?_
    rintro e w1 ⟨rfl, rfl⟩
    go_wp2_with fail
    go_ret
    exact ⟨by rw [HF.out.1]; rfl, HS.out, (Step.refl _ _).setCell (.inl (.inr (.inr (.inr rfl)))) _⟩
end
end Go.Proofs.YtlkahgagmfhdaaaGreatDoor
