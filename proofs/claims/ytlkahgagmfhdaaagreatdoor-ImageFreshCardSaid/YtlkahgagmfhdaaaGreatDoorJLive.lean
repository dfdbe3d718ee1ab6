import Derived.Test.YtlkahgagmfhdaaaGreatDoorJMake
import Derived.Test.YtlkahgagmfhdaaaGreatDoorJShow
import Derived.Test.YtlkahgagmfhdaaaGreatDoorJOop
import Derived.Test.YtlkahgagmfhdaaaGreatDoorJText
import Derived.Test.YtlkahgagmfhdaaaGreatDoorJMay
import Derived.Test.YtlkahgagmfhdaaaGreatDoorJAlloc
import Derived.Test.YtlkahgagmfhdaaaGreatDoorJZeros
import Derived.Test.YtlkahgagmfhdaaaGreatDoorJMem
import Derived.StillTailTactics
import Derived.Deep.RegionLaw
import Derived.RegionTactic
import Derived.Deep.RegionHeld3
set_option linter.unusedVariables false
set_option linter.unusedSectionVars false
namespace Go.Proofs.YtlkahgagmfhdaaaGreatDoor
section
open Go.RowKit
structure Env (w : World) : Prop where
 spares : Spares w
 pow : Pow w
theorem Pow.lt {w : World} (h : Pow w) : 0 < w.heap.size := Spares.lt h
theorem Env.below {w w' : World} (E : Env w) (hb : Below w.heap.size w w') : Env w' := ⟨E.spares.below hb, E.pow.below hb⟩
theorem Env.far {W : World} (E : Env W) {p : HP} (hn : ∀ k, p.has k → W.heap.size ≤ k) : Far p := fun k hk => by
 have h1 := hn k hk
 have h2 := E.spares.lt
 have h3 := E.pow.lt
 exact ⟨by omega, by omega⟩
structure Live (W w : World) (p : HP) (g : Nat) (h : HM) : Prop where
 at_ : HAt w p h
 hg : p.g = g
 good : ∃ l, h.Good l
 env : Env W
 new : ∀ k, p.has k → W.heap.size ≤ k
 below : Below W.heap.size W w
section
variable {W w w' : World} {p p' : HP} {g : Nat} {h h' : HM}
theorem Live.fit (L : Live W w p g h) : h.Fit := by obtain ⟨l, G⟩ := L.good; exact G.fit
theorem Live.heads (L : Live W w p g h) : h.Heads := by obtain ⟨l, G⟩ := L.good; exact G.laid.heads
theorem Live.far (L : Live W w p g h) : Far p := L.env.far L.new
theorem Live.envw (L : Live W w p g h) : Env w := L.env.below L.below
theorem Live.after (L : Live W w p g h) (hb : Below w.heap.size w w') : Live W w' p g h :=
 ⟨L.at_.below hb, L.hg, L.good, L.env, L.new, below_top L.below hb⟩
theorem Live.step (L : Live W w p g h) (H : HAt w' p' h') (s : Step p p' w w') (G : ∃ l, h'.Good l) : Live W w' p' g h' :=
 ⟨H, s.g.trans L.hg, G, L.env, fun k hk => (s.rows k hk).elim (L.new k) (fun hk => Nat.le_trans L.below.size hk), s.below L.below L.new⟩
theorem Live.of_new {n : Nat} {v : Nat → Value} {d : Ending} (E : Env W) (h1 : 64 ≤ n) (h2 : n ≤ 1048576) (H : NewHeap HAt v (HM.new n) W d w') :
 ∃ p g, d = .returned (v g) ∧ Live W w' p g (HM.new n) := by
 obtain ⟨p, hd, H1, hn, hb⟩ := H
 exact ⟨p, p.g, hd, H1, rfl, ⟨[], HM.new_good h1 h2 (HM.new_fit h1 h2)⟩, E, hn, hb⟩
def HM.AllocO (h : HM) (c : Nat) (f n : Int) : Nat := if h.AllocE c f n = 0 then 2 * h.words.length else 0
def HM.makeO (h : HM) (c : Nat) (bs : List Nat) : Nat := if h.makeE c bs = 0 then 2 * h.words.length else 0
theorem HM.AllocV_eq (h : HM) (c : Nat) (f n : Int) : h.AllocV c f n = .tuple #[.int .u32 (h.AllocO c f n : Nat), .int .i64 (h.AllocE c f n : Nat)] := by
 unfold HM.AllocV HM.AllocO HM.AllocE
 by_cases hok : allocOk f n = true
 ·rw [if_pos hok, if_pos hok]; rfl
 ·rw [if_neg hok, if_neg hok]; rfl
theorem HM.makeV_eq (h : HM) (c : Nat) (bs : List Nat) : h.makeV c bs = .tuple #[.int .u32 (h.makeO c bs : Nat), .int .i64 (h.makeE c bs : Nat)] := rfl
def Done (W : World) (p : HP) (g : Nat) (h' : HM) (v : Value) (w : World) (e : Ending) (w' : World) : Prop :=
 ∃ p', e = .returned v ∧ Live W w' p' g h' ∧ Step p p' w w'
theorem Live.of_made {v : Value} {d : Ending} (L : Live W w p g h) (G : ∃ l, h'.Good l) (H : Made p h' v w d w') : Done W p g h' v w d w' := by
 obtain ⟨p', rfl, H', s⟩ := H
 exact ⟨p', rfl, L.step H' s G, s⟩
theorem Live.of_deed {E : Nat} {d : Ending} (L : Live W w p g h) (G : ∃ l, h'.Good l) (H : Deeds p h' E w d w') : Done W p g h' (.int .i64 E) w d w' := by
 obtain ⟨rfl, H', s⟩ := H
 exact ⟨p, rfl, L.step H' s G, s⟩
theorem Live.alloc (L : Live W w p g h) (c : Nat) (hc : c < 4294967296) (t n : Int) :
 Calls Tryz.prog 75 #[.pointer (some ⟨g, 0, none⟩), .int .u32 c, .int .i64 t, .int .i64 n] w (Done W p g (h.AllocH c t n) (.tuple #[.int .u32 (h.AllocO c t n : Nat), .int .i64 (h.AllocE c t n : Nat)]) w) := by
 have hh := Alloc_any L.at_ L.fit L.envw.spares L.far c hc t n
 rw [L.hg, HM.AllocV_eq] at hh
 exact hh.mono fun _ _ H => L.of_made (by obtain ⟨l, G⟩ := L.good; exact G.AllocH c t n hc) H
theorem Live.make (L : Live W w p g h) (c : Nat) (hc : c < 4294967296) (A : Option Addr) (n cap : Nat) (bs : List Nat) (hn : n ≤ 9223372036854775807) (hr : Reads w w.heap.size 1 A n (u8c bs)) (hb : ∀ x ∈ bs, x < 256) :
 Calls Tryz.prog 104 #[.pointer (some ⟨g, 0, none⟩), .int .u32 c, .slice A n cap] w (Done W p g (h.makeH c bs) (.tuple #[.int .u32 (h.makeO c bs : Nat), .int .i64 (h.makeE c bs : Nat)]) w) := by
 have hh := Make_any L.at_ L.fit L.envw.spares L.far c hc A n cap _ bs hn hr (Nat.le_refl _) hb
 rw [L.hg, HM.makeV_eq] at hh
 exact hh.mono fun _ _ H => L.of_made (by obtain ⟨l, G⟩ := L.good; exact G.MakeH c bs hc hb) H
theorem Live.put (L : Live W w p g h) (o : Nat) (ho : o < 4294967296) (i : Int) (v : Nat) (hv : v < 4294967296) :
 Calls Tryz.prog 105 #[.pointer (some ⟨g, 0, none⟩), .int .u32 o, .int .i64 i, .int .u32 v] w (Done W p g (h.putH o i v) (.int .i64 (h.putE o i v : Nat)) w) := by
 have hh := put_any L.at_ L.fit L.heads L.envw.spares o ho i v hv
 rw [L.hg] at hh
 exact hh.mono fun _ _ H => L.of_deed (by obtain ⟨l, G⟩ := L.good; obtain ⟨l', G', _⟩ := G.putH o i v hv; exact ⟨l', G'⟩) H
theorem Live.setRoot (L : Live W w p g h) (i : Int) (v : Nat) (hv : v < 4294967296) :
 Calls Tryz.prog 77 #[.pointer (some ⟨g, 0, none⟩), .int .i64 i, .int .u32 v] w (Done W p g (h.setRootH i v) (.int .i64 (h.setRootE i v : Nat)) w) := by
 have hh := setRoot_any L.at_ L.fit i v hv
 rw [L.hg] at hh
 exact hh.mono fun _ _ H => L.of_deed (by obtain ⟨l, G⟩ := L.good; exact ⟨l, G.setRootH i v hv⟩) H
def Told (v : Value) (w : World) (e : Ending) (w' : World) : Prop := e = .returned v ∧ Below w.heap.size w w'
def Said (v : Value) (w : World) (e : Ending) (w' : World) : Prop := e = .returned v ∧ w = w'
theorem Live.size (L : Live W w p g h) : Calls Tryz.prog 59 #[.pointer (some ⟨g, 0, none⟩)] w (Said (.int .i64 (h.size : Nat)) w) := by
 have hh := size_any L.at_ L.fit
 rw [L.hg] at hh
 exact hh
theorem Live.top (L : Live W w p g h) : Calls Tryz.prog 60 #[.pointer (some ⟨g, 0, none⟩)] w (Said (.int .i64 (h.words.length : Nat)) w) := by
 have hh := top_any L.at_ L.fit
 rw [L.hg] at hh
 exact hh
theorem Live.last (L : Live W w p g h) : Calls Tryz.prog 62 #[.pointer (some ⟨g, 0, none⟩)] w (Said (.int .u32 (h.last : Nat)) w) := by
 have hh := last_any L.at_ L.fit
 rw [L.hg] at hh
 exact hh
theorem Live.words (L : Live W w p g h) : Calls Tryz.prog 35 #[.pointer (some ⟨g, 0, none⟩)] w (NewRow 32 (u32s h.words) w) := by
 have hh := words_any L.at_ L.fit
 rw [L.hg] at hh
 exact hh
theorem Live.roots (L : Live W w p g h) : Calls Tryz.prog 54 #[.pointer (some ⟨g, 0, none⟩)] w (NewRow 54 (u32s h.roots) w) := by
 have hh := roots_any L.at_ L.fit
 rw [L.hg] at hh
 exact hh
end
end
section
open Go.RowKit
theorem Live.load {W w : World} {p : HP} {g : Nat} {h : HM} (L : Live W w p g h) (A : Option Addr) (n c : Nat) (ws : List Nat) (hn : n ≤ 9223372036854775807) (hr : Reads w w.heap.size 1 A n (u32s ws)) (h32 : ∀ x ∈ ws, x < 4294967296)
 (A' : Option Addr) (n' c' : Nat) (rs : List Nat) (hn' : n' ≤ 9223372036854775807) (hr' : Reads w w.heap.size 1 A' n' (u32s rs)) (h32' : ∀ x ∈ rs, x < 4294967296) (last : Nat) (hl : last < 4294967296) :
 Calls Tryz.prog 94 #[.pointer (some ⟨g, 0, none⟩), .slice A n c, .slice A' n' c', .int .u32 last] w (Done W p g (h.loadH ws rs last) (.int .i64 (loadE h.size ws rs last : Nat)) w) := by
 have hh := Load_any L.at_ L.fit L.envw.spares (fun k hk => by
  have h1 := L.envw.spares.lt
  have h2 := L.envw.pow.lt
  exact ⟨by omega, by omega⟩) A n c ws hn hr h32 A' n' c' rs hn' hr' h32' last hl
 rw [L.hg] at hh
 refine hh.mono fun _ _ H => L.of_made ?_ H
 unfold HM.loadH
 by_cases he : loadE h.size ws rs last = 0
 ·rw [if_pos he]
  unfold loadE at he
  split at he
  ·omega
  ·rename_i hb
   split at he
   ·rename_i hok
    obtain ⟨l, hp, S⟩ := hok
    have f := L.fit
    exact ⟨l, HM.ofWords_good f.lo f.hi h32 h32' (by omega) hl (by omega) hp S⟩
   ·omega
 ·rw [if_neg he]; exact L.good
theorem Live.same {W w W2 : World} {p q : HP} {g k : Nat} {a b : HM} (La : Live W w p g a) (Lb : Live W2 w q k b) :
 Calls Tryz.prog 46 #[.pointer (some ⟨g, 0, none⟩), .pointer (some ⟨k, 0, none⟩)] w (Told (.bool (sameH a b)) w) := by
 have hh := Same_any La.at_ Lb.at_ La.fit Lb.fit
 rw [La.hg, Lb.hg] at hh
 exact hh.mono fun e w' ⟨he, m, hm⟩ => ⟨he, hm ▸ below_drewN (Below.refl _ _) m⟩
end
section
open Go.RowKit
theorem tdiv2 (x : Int) (h : x % 2 = 0) : x.tdiv 2 = x / 2 := Int.tdiv_eq_ediv_of_dvd (Int.dvd_of_emod_eq_zero h)
theorem rvalue_any (o : Nat) (ho : o < 4294967296) (h1 : o % 2 = 1) (w : World) :
 Calls Tryz.prog 157 #[.int .u32 o] w fun e w' => e = .returned (.int .i64 (smallV o)) ∧ w = w' := by
 have hp : 0 < (o : Int) := by omega
 by_cases h : o < 2147483648
 ·have HF := Lib.hid (show smallV o = ((o : Int) - 1) / 2 by unfold smallV; rw [if_pos h]; omega)
  have hd : decide ((2147483648 : Int) ≤ (o : Int)) = false := by simp; omega
  clear h1 h
  go_enter Tryz.func157, Tryz.ntmps157
  go_wp2_with fail
  go_ret
  exact ⟨by rw [HF.out]; rfl, rfl⟩
 ·have HF := Lib.hid (show smallV o = ((o : Int) - 4294967296 - 1).tdiv 2 by rw [tdiv2 _ (by omega)]; unfold smallV; rw [if_neg h]; omega)
  have hd : decide ((2147483648 : Int) ≤ (o : Int)) = true := by simp; omega
  clear h1 h
  go_enter Tryz.func157, Tryz.ntmps157
  go_wp2_with fail
  go_ret
  exact ⟨by rw [HF.out]; rfl, rfl⟩
set_option maxHeartbeats 2000000 in
theorem rmay_any (x : Hd) (f : x.Fit) (w : World) :
 Calls Tryz.prog 201 #[x.val] w fun e w' => e = .returned (.bool x.may) ∧ Below w.heap.size w w' := by
 obtain ⟨n, t, s, c, r⟩ := x
 obtain ⟨f1, f2, f3, f4, f5⟩ := f
 simp only at f1 f2 f3 f4 f5
 unfold Hd.val
 by_cases h1 : 65535 < n
 ·have HF := Lib.hid (show Hd.may ⟨n, t, s, c, r⟩ = false by simp [Hd.may]; omega)
  go_enter Tryz.func201, Tryz.ntmps201
  go_wp2_with fail
  go_ret
  exact ⟨by rw [HF.out]; rfl, (Below.refl _ _).alloc (Nat.le_refl _) _⟩
 by_cases h2 : t < 1
 ·have HF := Lib.hid (show Hd.may ⟨n, t, s, c, r⟩ = false by simp [Hd.may]; omega)
  go_enter Tryz.func201, Tryz.ntmps201
  go_wp2_with fail
  go_ret
  exact ⟨by rw [HF.out]; rfl, (Below.refl _ _).alloc (Nat.le_refl _) _⟩
 by_cases h3 : 4 < t
 ·have HF := Lib.hid (show Hd.may ⟨n, t, s, c, r⟩ = false by simp [Hd.may]; omega)
  go_enter Tryz.func201, Tryz.ntmps201
  go_wp2_with fail
  go_ret
  exact ⟨by rw [HF.out]; rfl, (Below.refl _ _).alloc (Nat.le_refl _) _⟩
 by_cases h4 : s = 0
 ·subst h4
  have HF := Lib.hid (show Hd.may ⟨n, t, 0, c, r⟩ = true by simp [Hd.may]; omega)
  go_enter Tryz.func201, Tryz.ntmps201
  go_wp2_with fail
  go_ret
  exact ⟨by rw [HF.out]; rfl, (Below.refl _ _).alloc (Nat.le_refl _) _⟩
 have h4' : ((s : Int) == 0) = false := by simpa using h4
 by_cases h5 : t = 2
 ·subst h5
  by_cases h6 : n = 0
  ·subst h6
   have HF := Lib.hid (show Hd.may ⟨0, 2, s, c, r⟩ = false by simp [Hd.may, h4])
   clear h4
   go_enter Tryz.func201, Tryz.ntmps201
   go_wp2_with fail
   go_ret
   exact ⟨by rw [HF.out]; rfl, (Below.refl _ _).alloc (Nat.le_refl _) _⟩
  ·have HF := Lib.hid (show Hd.may ⟨n, 2, s, c, r⟩ = true by simp [Hd.may]; omega)
   have h7 : (0 : Int) < n := by omega
   clear h4 h6
   go_enter Tryz.func201, Tryz.ntmps201
   go_wp2_with fail
   go_ret
   exact ⟨by rw [HF.out]; simp; omega, (Below.refl _ _).alloc (Nat.le_refl _) _⟩
 ·have HF := Lib.hid (show Hd.may ⟨n, t, s, c, r⟩ = false by simp [Hd.may]; omega)
  have h5' : ((t : Int) == 2) = false := by simp; omega
  clear h4 h5
  go_enter Tryz.func201, Tryz.ntmps201
  go_wp2_with fail
  go_ret
  exact ⟨by rw [HF.out]; rfl, (Below.refl _ _).alloc (Nat.le_refl _) _⟩
def unpackV (a b c : Nat) : Value := .tuple #[if okhd a b c then (unhd a b c).val else .agg #[.int .i64 0, .int .i64 0, .int .i64 0, .int .u32 0, .int .u32 0], .bool (okhd a b c)]
set_option maxHeartbeats 2000000 in
theorem runpack_any (a b c : Nat) (ha : a < 4294967296) (hb : b < 4294967296) (hc : c < 4294967296) (w : World) :
 Calls Tryz.prog 148 #[.agg #[.int .u32 a, .int .u32 b, .int .u32 c]] w (Told (unpackV a b c) w) := by
 have hx : (unhd a b c).val = .agg #[.int .i64 ((a : Int) % 16777216), .int .i64 ((a : Int) / 16777216 % 8), .int .i64 ((a : Int) / 134217728 % 4), .int .u32 b, .int .u32 c] := rfl
 have HX := Lib.hid hx
 have HF := Lib.hid (unhd_fit a b c hb hc)
 by_cases hlt : a < 536870912
 ·have hd : (((a : Int) / 536870912) != 0) = false := by simp; omega
  cases hok : (unhd a b c).may
  ·have HV := Lib.hid (show unpackV a b c = .tuple #[.agg #[.int .i64 0, .int .i64 0, .int .i64 0, .int .u32 0, .int .u32 0], .bool false] by simp [unpackV, okhd, hok])
   have HM := Lib.hid (fun w => (rmay_any _ HF.out w))
   rw [HX.out, hok] at HM
   clear hok hx hlt
   go_enter Tryz.func148, Tryz.ntmps148
   go_wp2_with fail
   generalize hW : ((w.alloc _).alloc _).alloc _ = W
   have hbW : Below w.heap.size w W := by rw [← hW]; exact (((Below.refl _ _).alloc (Nat.le_refl _) _).alloc (by simp) _).alloc (by simp; omega) _
   have B1 : Blk W (w.heap.size + 1) 75 #[.int .i64 0, .int .i64 0, .int .i64 0, .int .u32 0, .int .u32 0] := by
    rw [← hW]
    have := (Blk.new (w.alloc (.cells #[.int .u32 a, .int .u32 b, .int .u32 c] 248)) 75 #[.int .i64 0, .int .i64 0, .int .i64 0, .int .u32 0, .int .u32 0]).alloc (.cells #[.int .i64 ((a : Int) % 16777216), .int .i64 ((a : Int) / 16777216 % 8), .int .i64 ((a : Int) / 134217728 % 4), .int .u32 b, .int .u32 c] 75)
    rw [World.size_alloc] at this
    exact this
   have B2 : Blk W (w.heap.size + 1 + 1) 75 #[.int .i64 ((a : Int) % 16777216), .int .i64 ((a : Int) / 16777216 % 8), .int .i64 ((a : Int) / 134217728 % 4), .int .u32 b, .int .u32 c] := by
    rw [← hW]
    have := Blk.new ((w.alloc (.cells #[.int .u32 a, .int .u32 b, .int .u32 c] 248)).alloc (.cells #[.int .i64 0, .int .i64 0, .int .i64 0, .int .u32 0, .int .u32 0] 75)) 75 #[.int .i64 ((a : Int) % 16777216), .int .i64 ((a : Int) / 16777216 % 8), .int .i64 ((a : Int) / 134217728 % 4), .int .u32 b, .int .u32 c]
    rw [World.size_alloc, World.size_alloc] at this
    exact this
   clear hW
   refine (HM.out _).mono ?_
   rintro e w1 ⟨rfl, hb1⟩
   replace B1 := B1.below hb1 B1.lt
   replace B2 := B2.below hb1 B2.lt
   have hb := below_top hbW hb1
   clear hb1 hbW
   obtain ⟨a0, a1, a2, a3, a4⟩ := B2.cells5
   obtain ⟨d0, d1, d2, d3, d4⟩ := B1.cells5
   have z1 := B1.fz
   have hz1 := B1.lt
   go_wp2_with fail
   refine bodyPost_ret (v := .tuple #[.agg #[.int .i64 0, .int .i64 0, .int .i64 0, .int .u32 0, .int .u32 0], .bool false]) (by simp [results, Tryz.results148, go_sem, d0, d1, d2, d3, d4]) rfl ⟨by rw [HV.out], ?_⟩
   exact ((((hb.setCell (by simp) _).setCell (by simp) _).setCell (by simp) _).setCell (by simp) _).setCell (by simp) _
  ·have HV := Lib.hid (show unpackV a b c = .tuple #[(unhd a b c).val, .bool true] by simp [unpackV, okhd, hok, hlt])
   have HM := Lib.hid (fun w => (rmay_any _ HF.out w))
   rw [HX.out, hok] at HM
   clear hok hx hlt
   go_enter Tryz.func148, Tryz.ntmps148
   go_wp2_with fail
   generalize hW : ((w.alloc _).alloc _).alloc _ = W
   have hbW : Below w.heap.size w W := by rw [← hW]; exact (((Below.refl _ _).alloc (Nat.le_refl _) _).alloc (by simp) _).alloc (by simp; omega) _
   have B1 : Blk W (w.heap.size + 1) 75 #[.int .i64 0, .int .i64 0, .int .i64 0, .int .u32 0, .int .u32 0] := by
    rw [← hW]
    have := (Blk.new (w.alloc (.cells #[.int .u32 a, .int .u32 b, .int .u32 c] 248)) 75 #[.int .i64 0, .int .i64 0, .int .i64 0, .int .u32 0, .int .u32 0]).alloc (.cells #[.int .i64 ((a : Int) % 16777216), .int .i64 ((a : Int) / 16777216 % 8), .int .i64 ((a : Int) / 134217728 % 4), .int .u32 b, .int .u32 c] 75)
    rw [World.size_alloc] at this
    exact this
   have B2 : Blk W (w.heap.size + 1 + 1) 75 #[.int .i64 ((a : Int) % 16777216), .int .i64 ((a : Int) / 16777216 % 8), .int .i64 ((a : Int) / 134217728 % 4), .int .u32 b, .int .u32 c] := by
    rw [← hW]
    have := Blk.new ((w.alloc (.cells #[.int .u32 a, .int .u32 b, .int .u32 c] 248)).alloc (.cells #[.int .i64 0, .int .i64 0, .int .i64 0, .int .u32 0, .int .u32 0] 75)) 75 #[.int .i64 ((a : Int) % 16777216), .int .i64 ((a : Int) / 16777216 % 8), .int .i64 ((a : Int) / 134217728 % 4), .int .u32 b, .int .u32 c]
    rw [World.size_alloc, World.size_alloc] at this
    exact this
   clear hW
   refine (HM.out _).mono ?_
   rintro e w1 ⟨rfl, hb1⟩
   replace B1 := B1.below hb1 B1.lt
   replace B2 := B2.below hb1 B2.lt
   have hb := below_top hbW hb1
   clear hb1 hbW
   obtain ⟨a0, a1, a2, a3, a4⟩ := B2.cells5
   obtain ⟨d0, d1, d2, d3, d4⟩ := B1.cells5
   have z1 := B1.fz
   have hz1 := B1.lt
   go_wp2_with fail
   refine bodyPost_ret (v := .tuple #[.agg #[.int .i64 ((a : Int) % 16777216), .int .i64 ((a : Int) / 16777216 % 8), .int .i64 ((a : Int) / 134217728 % 4), .int .u32 b, .int .u32 c], .bool true]) (by simp [results, Tryz.results148, go_sem, d0, d1, d2, d3, d4]) rfl ⟨by rw [HV.out]; rw [HX.out], ?_⟩
   exact ((((hb.setCell (by simp) _).setCell (by simp) _).setCell (by simp) _).setCell (by simp) _).setCell (by simp) _
 ·have hd : (((a : Int) / 536870912) != 0) = true := by simp; omega
  have HV := Lib.hid (show unpackV a b c = .tuple #[.agg #[.int .i64 0, .int .i64 0, .int .i64 0, .int .u32 0, .int .u32 0], .bool false] by simp [unpackV, okhd, hlt])
  clear hx hlt
  go_enter Tryz.func148, Tryz.ntmps148
  go_wp2_with fail
  refine bodyPost_ret (v := .tuple #[.agg #[.int .i64 0, .int .i64 0, .int .i64 0, .int .u32 0, .int .u32 0], .bool false]) (by simp [results, Tryz.results148, go_sem]) rfl ⟨by rw [HV.out], ?_⟩
  exact (((Below.refl _ _).alloc (Nat.le_refl _) _).alloc (by simp) _).alloc (by simp; omega) _
end
section
open Go.RowKit
end
section
open Go.RowKit
end
section
open Go.RowKit
theorem below_alloc1 {W w : World} {o : Obj} (h : Below W.heap.size W w) : Below W.heap.size W (w.alloc o) := h.alloc h.size o
theorem below_set5 {W w : World} {a b c d e : Value} {g : Nat} (h : Below W.heap.size W w) (hg : W.heap.size ≤ g := by simp) : Below W.heap.size W (((((w.setCell ⟨g, 0, none⟩ a).setCell ⟨g, 1, none⟩ b).setCell ⟨g, 2, none⟩ c).setCell ⟨g, 3, none⟩ d).setCell ⟨g, 4, none⟩ e) :=
 ((((h.setCell (p := ⟨g, 0, none⟩) hg _).setCell (p := ⟨g, 1, none⟩) hg _).setCell (p := ⟨g, 2, none⟩) hg _).setCell (p := ⟨g, 3, none⟩) hg _).setCell (p := ⟨g, 4, none⟩) hg _
theorem begin_one (b : Bool) : (((if b = true then 1 else 0 : Int)) == 1) = b := by cases b <;> rfl
section
variable {w : World} {p : HP} {h : HM} (R : RAt w p h) (f : h.Fit)
include R f
theorem ris_any (o : Nat) (ho : o < 4294967296) :
 Calls Tryz.prog 182 #[ptr p.g, .int .u32 o] w (Said (.bool (h.isB o)) w) := by
 have c4 := R.c4
 have hlen := f.marks
 have hroom := f.room
 have hhi := f.hi
 unfold ptr
 by_cases h0 : o = 0
 ·subst h0
  have HF := Lib.hid (show h.isB 0 = false by simp [HM.isB, objB, kindM])
  go_enter Tryz.func182, Tryz.ntmps182
  go_wp2_with fail
  go_ret
  exact ⟨by rw [HF.out]; rfl, rfl⟩
 have hb : ((o : Int) != 0) = true := by simpa using h0
 by_cases h1 : o % 2 = 1
 ·have HF := Lib.hid (show h.isB o = false by simp [HM.isB, objB, kindM, h0, h1])
  have hb2 : ((o : Int) % 2 == 0) = false := by simp; omega
  clear h0 h1
  go_enter Tryz.func182, Tryz.ntmps182
  go_wp2_with fail
  go_ret
  exact ⟨by rw [HF.out]; rfl, rfl⟩
 have hb2 : ((o : Int) % 2 == 0) = true := by simp; omega
 have hk : objB o = true := (objB_iff o).2 ⟨h0, by omega⟩
 by_cases hl : o / 2 < h.starts.length
 ·have hcell := R.mark hl
  have HF := Lib.hid (show h.isB o = h.starts.getD (o / 2) false by simp [HM.isB, hk])
  generalize h.starts.getD (o / 2) false = b at *
  have hq : ((o : Int) / 2) = ((o / 2 : Nat) : Int) := by omega
  generalize o / 2 = q at *
  have hlt : (q : Int) < (h.starts.length : Int) := by omega
  have h1b := begin_one b
  clear hk h0 h1
  cases b
  all_goals
   go_enter Tryz.func182, Tryz.ntmps182
   go_wp2_with fail
   go_ret
   exact ⟨by rw [HF.out]; rfl, rfl⟩
 ·have HF := Lib.hid (show h.isB o = false by rw [HM.isB, List.getD_eq_getElem?_getD, List.getElem?_eq_none (by omega)]; simp)
  have hq : ((o : Int) / 2) = ((o / 2 : Nat) : Int) := by omega
  generalize o / 2 = q at *
  have hlt : (h.starts.length : Int) ≤ (q : Int) := by omega
  clear hk h0 h1
  go_enter Tryz.func182, Tryz.ntmps182
  go_wp2_with fail
  go_ret
  exact ⟨by rw [HF.out]; rfl, rfl⟩
theorem risclass_any (o : Nat) (ho : o < 4294967296) :
 Calls Tryz.prog 159 #[ptr p.g, .int .u32 o] w (Said (.bool (h.clsB o)) w) := by
 have HI := Lib.hid (ris_any R f o ho)
 unfold ptr at HI ⊢
 by_cases h0 : o = 0
 ·have HF := Lib.hid (show h.clsB o = true by simp [HM.clsB, h0])
  have hb : ((o : Int) == 0) = true := by simp; omega
  clear h0
  go_enter Tryz.func159, Tryz.ntmps159
  go_wp2_with fail
  go_ret
  exact ⟨by rw [HF.out]; rfl, rfl⟩
 ·have HF := Lib.hid (show h.clsB o = h.isB o by simp [HM.clsB, h0])
  have hb : ((o : Int) == 0) = false := by simp; omega
  generalize h.isB o = b at *
  clear h0
  go_enter Tryz.func159, Tryz.ntmps159
  go_wp2_with fail
  refine HI.out.mono ?_
  rintro e w1 ⟨rfl, rfl⟩
  go_wp2_with fail
  go_ret
  exact ⟨by rw [HF.out]; rfl, rfl⟩
theorem rvalb_any (o : Nat) (ho : o < 4294967296) :
 Calls Tryz.prog 163 #[ptr p.g, .int .u32 o] w (Said (.bool (h.valB o)) w) := by
 have HI := Lib.hid (ris_any R f o ho)
 unfold ptr at HI ⊢
 by_cases h0 : o = 0
 ·have HF := Lib.hid (show h.valB o = true by simp [HM.valB, objB, kindM, h0])
  have hb : ((o : Int) == 0) = true := by simp; omega
  clear h0
  go_enter Tryz.func163, Tryz.ntmps163
  go_wp2_with fail
  go_ret
  exact ⟨by rw [HF.out]; rfl, rfl⟩
 have hb : ((o : Int) == 0) = false := by simp; omega
 by_cases h1 : o % 2 = 1
 ·have HF := Lib.hid (show h.valB o = true by simp [HM.valB, objB, kindM, h0, h1])
  have hb2 : ((o : Int) % 2 == 1) = true := by simp; omega
  clear h0 h1
  go_enter Tryz.func163, Tryz.ntmps163
  go_wp2_with fail
  go_ret
  exact ⟨by rw [HF.out]; rfl, rfl⟩
 ·have HF := Lib.hid (show h.valB o = h.isB o by simp [HM.valB, objB, kindM, h0, h1])
  have hb2 : ((o : Int) % 2 == 1) = false := by simp; omega
  generalize h.isB o = b at *
  clear h0 h1
  go_enter Tryz.func163, Tryz.ntmps163
  go_wp2_with fail
  refine HI.out.mono ?_
  rintro e w1 ⟨rfl, rfl⟩
  go_wp2_with fail
  go_ret
  exact ⟨by rw [HF.out]; rfl, rfl⟩
set_option maxHeartbeats 2000000 in
set_option maxRecDepth 100000 in
theorem rheader_any (o : Nat) (ho : o < 4294967296) (hd : h.hdAt (o / 2)) :
 Calls Tryz.prog 152 #[ptr p.g, .int .u32 o] w (Told (h.hd (o / 2)).val w) := by
 have hb0 : ∀ o, Below w.heap.size w (w.alloc o) := fun o => (Below.refl _ _).alloc (Nat.le_refl _) _
 have B0 := R.1.alloc (.cells #[.int .i64 0, .int .i64 0, .int .i64 0, .int .u32 0, .int .u32 0] 75)
 have R' := R.below (hb0 (.cells #[.int .i64 0, .int .i64 0, .int .i64 0, .int .u32 0, .int .u32 0] 75))
 have c1 := R'.c1
 have hroom := f.room
 have hhi := f.hi
 have hd1 := hd.1
 have hd2 := hd.2
 have hw0 := R'.word (i := o / 2) (by omega)
 have hw1 := R'.word (i := o / 2 + 1) (by omega)
 have hw2 := R'.word (i := o / 2 + 2) (by omega)
 have HU := Lib.hid (fun w => runpack_any (h.w (o / 2)) (h.w (o / 2 + 1)) (h.w (o / 2 + 2)) (f.word _) (f.word _) (f.word _) w)
 have HV := Lib.hid (show unpackV (h.w (o / 2)) (h.w (o / 2 + 1)) (h.w (o / 2 + 2)) = .tuple #[(h.hd (o / 2)).val, .bool true] by unfold unpackV; rw [hd2]; rfl)
 rw [HV.out] at HU
 change _ = some (Value.int .u32 ((h.w (o / 2) : Nat) : Int)) at hw0
 change _ = some (Value.int .u32 ((h.w (o / 2 + 1) : Nat) : Int)) at hw1
 change _ = some (Value.int .u32 ((h.w (o / 2 + 2) : Nat) : Int)) at hw2
 have hq : ((o : Int) / 2) = ((o / 2 : Nat) : Int) := by omega
 have HX := Lib.hid (show (h.hd (o / 2)).val = .agg #[.int .i64 (h.hd (o / 2)).size, .int .i64 (h.hd (o / 2)).fmt, .int .i64 (h.hd (o / 2)).spare, .int .u32 (h.hd (o / 2)).cls, .int .u32 (h.hd (o / 2)).ser] from rfl)
 generalize o / 2 = q at *
 generalize h.w q = x0 at *
 generalize h.w (q + 1) = x1 at *
 generalize h.w (q + 2) = x2 at *
 have hlt0 : (q : Int) < (h.words.length : Int) := by omega
 have hlt1 : (q : Int) + 1 < (h.words.length : Int) := by omega
 have hlt2 : (q : Int) + 2 < (h.words.length : Int) := by omega
 have e1 : IntKind.i64.wrap ((q : Int) + 1) = (q : Int) + 1 := IntWalk.i64_in _ (by omega)
 have e2 : IntKind.i64.wrap ((q : Int) + 2) = (q : Int) + 2 := IntWalk.i64_in _ (by omega)
 have p1 : 0 ≤ (q : Int) + 1 := by omega
 have p2 : 0 ≤ (q : Int) + 2 := by omega
 have t1 : ((q : Int) + 1).toNat = q + 1 := by omega
 have t2 : ((q : Int) + 2).toNat = q + 2 := by omega
 have hg0 := R.1.lt
 clear R R' hd hd1 hd2 hb0 HV
 generalize h.hd q = x at *
 unfold ptr
 go_enter Tryz.func152, Tryz.ntmps152
 go_wp2_with fail
 generalize hW : w.alloc _ = W
 rw [hW] at c1 hw0 hw1 hw2 B0
 have hbW : Below w.heap.size w W := by rw [← hW]; exact (Below.refl _ _).alloc (Nat.le_refl _) _
 have BR : Blk W w.heap.size 75 #[.int .i64 0, .int .i64 0, .int .i64 0, .int .u32 0, .int .u32 0] := by rw [← hW]; exact Blk.new _ _ _
 clear hW B0
 have KC := Lib.hid (show ∀ W', Below W.heap.size W W' → W'.cell? ⟨p.g, 1, none⟩ = some (.slice (some ⟨p.gw, 0, none⟩) h.words.length p.cw) ∧ W'.cell? ⟨p.gw, q, none⟩ = some (.int .u32 (x0 : Int)) ∧ W'.cell? ⟨p.gw, q + 1, none⟩ = some (.int .u32 (x1 : Int)) ∧ W'.cell? ⟨p.gw, q + 2, none⟩ = some (.int .u32 (x2 : Int)) from fun W' hb =>
  ⟨(hb.cell (World.block_lt_of_cell? _ _ c1)).trans c1, (hb.cell (World.block_lt_of_cell? _ _ hw0)).trans hw0, (hb.cell (World.block_lt_of_cell? _ _ hw1)).trans hw1, (hb.cell (World.block_lt_of_cell? _ _ hw2)).trans hw2⟩)
 have HUA := Lib.hid (show Calls Tryz.prog 148 #[.agg #[.int .u32 x0, .int .u32 x1, .int .u32 x2]] W.drew fun e w1 => e = .returned (.tuple #[.agg #[.int .i64 x.size, .int .i64 x.fmt, .int .i64 x.spare, .int .u32 x.cls, .int .u32 x.ser], .bool true]) ∧ Below W.heap.size W w1 from
  by rw [← HX.out]; exact (HU.out _).mono fun _ _ ⟨h1, h2⟩ => ⟨h1, below_top (below_drew (Below.refl _ _)) h2⟩)
 have HUB := Lib.hid (show Calls Tryz.prog 148 #[.agg #[.int .u32 x0, .int .u32 x1, .int .u32 x2]] (W.alloc (.cells #[.int .i64 0, .int .i64 0, .int .i64 0, .int .u32 0, .int .u32 0] 75)).drew fun e w1 => e = .returned (.tuple #[.agg #[.int .i64 x.size, .int .i64 x.fmt, .int .i64 x.spare, .int .u32 x.cls, .int .u32 x.ser], .bool true]) ∧ Below W.heap.size W w1 ∧ Blk w1 W.heap.size 75 #[.int .i64 0, .int .i64 0, .int .i64 0, .int .u32 0, .int .u32 0] from
  by rw [← HX.out]; exact (HU.out _).mono fun _ _ ⟨h1, h2⟩ => ⟨h1, below_top (below_drew (below_alloc1 (Below.refl _ _))) h2, ((Blk.new W _ _).drew).below h2 (by simp [World.drew])⟩)
 have hb0 := Below.refl W.heap.size W
 have hn1 : W.heap.size ≠ p.gw := by have := World.block_lt_of_cell? _ _ hw0; simp only at this; omega
 have hn2 : W.heap.size ≠ p.g := by have := World.block_lt_of_cell? _ _ c1; simp only at this; omega
 go_cut [6] (fun v wx => ∃ g, v = ptr g ∧ Below W.heap.size W wx ∧ Blk wx g 75 #[.int .i64 x.size, .int .i64 x.fmt, .int .i64 x.spare, .int .u32 x.cls, .int .u32 x.ser] ∧ W.heap.size ≤ g)
 case first =>
  go_region_held3 (fun w' => w'.cell? ⟨p.g, 1, none⟩ = some (.slice (some ⟨p.gw, 0, none⟩) h.words.length p.cw) ∧ w'.cell? ⟨p.gw, q, none⟩ = some (.int .u32 (x0 : Int)) ∧ w'.cell? ⟨p.gw, q + 1, none⟩ = some (.int .u32 (x1 : Int)) ∧ w'.cell? ⟨p.gw, q + 2, none⟩ = some (.int .u32 (x2 : Int)))
   (first | with_reducible exact KC.out _ hb0 | with_reducible exact KC.out _ (Below.drew hb0) | with_reducible exact KC.out _ (below_alloc1 hb0) | with_reducible exact KC.out _ (Below.drew (below_alloc1 hb0)) | with_reducible exact KC.out _ hk | with_reducible exact KC.out _ (below_alloc1 hk) | with_reducible exact KC.out _ (below_set5 hk (Nat.le_refl _)))
   (first
     | (go_at_call 148; (with_reducible refine HUA.out.mono ?_); rintro e w1 ⟨rfl, hk⟩)
     | (go_at_call 148; (with_reducible refine HUB.out.mono ?_); rintro e w1 ⟨rfl, hk, hB6⟩; obtain ⟨g0, g1, g2, g3, g4⟩ := hB6.cells5; have hgz := hB6.fz; have hgl := hB6.lt))
  all_goals go_wp2_with fail
  all_goals go_meet
  ·exact ⟨_, rfl, below_alloc1 hk, Blk.new _ _ _, hk.size⟩
  ·exact ⟨_, rfl, below_set5 hk (Nat.le_refl _), hB6.setAll5 _ _ _ _ _, Nat.le_refl _⟩
 case rest =>
  obtain ⟨gx, rfl, hbc, BX, hgx⟩ := hcut
  have BR' := BR.below hbc BR.lt
  have hb := hbW.trans (hbc.mono hbW.size)
  clear KC HUA HUB hb0 hbc HU hw0 hw1 hw2 c1 BR
  obtain ⟨d0, d1, d2, d3, d4⟩ := BR'.cells5
  obtain ⟨b0, b1, b2, b3, b4⟩ := BX.cells5
  have z1 := BR'.fz
  have hz := BR'.lt
  unfold ptr
  go_wp2_with fail
  refine bodyPost_ret (v := .agg #[.int .i64 x.size, .int .i64 x.fmt, .int .i64 x.spare, .int .u32 x.cls, .int .u32 x.ser]) (by simp [results, Tryz.results152, go_sem, d0, d1, d2, d3, d4]) rfl ⟨by rw [HX.out], ?_⟩
  exact (((((hb.setCell (by simp) _).setCell (by simp) _).setCell (by simp) _).setCell (by simp) _).setCell (by simp) _)
end
end
section
open Go.RowKit
def HM.placeV (h : HM) (o : Nat) (i : Int) (F : Nat) (fs : List Nat) : Value :=
 .tuple #[.int .i64 ((if h.lookE o i fs = 0 then o / 2 + 3 + (if F = 2 then i.toNat / 4 else i.toNat) else 0 : Nat) : Int), .int .i64 (h.lookE o i fs)]
theorem fld1 : ∀ (a b c d e : Value) (w : World), (Instr.field 75 (.agg #[a, b, c, d, e]) 1).run Tryz.prog w = .ok b w := fun a b c d e w => by kernel_rfl
theorem fld0 : ∀ (a b c d e : Value) (w : World), (Instr.field 75 (.agg #[a, b, c, d, e]) 0).run Tryz.prog w = .ok a w := fun a b c d e w => by kernel_rfl
theorem contains_cases {F t : Nat} {fs : List Nat} (hf : (F = 1 ∧ fs = [1, 4]) ∨ (F = 2 ∧ fs = [2]) ∨ (F = 3 ∧ fs = [3])) :
 (fs.contains t = true ∧ t = F) ∨ (fs.contains t = true ∧ t ≠ F ∧ t = 4 ∧ F = 1) ∨ (fs.contains t = false ∧ t ≠ F ∧ t ≠ 4) ∨ (fs.contains t = false ∧ t ≠ F ∧ t = 4 ∧ F ≠ 1) := by
 rcases hf with ⟨rfl, rfl⟩ | ⟨rfl, rfl⟩ | ⟨rfl, rfl⟩
 ·by_cases h1 : t = 1
  ·subst h1; exact .inl ⟨by decide, rfl⟩
  ·by_cases h4 : t = 4
   ·subst h4; exact .inr (.inl ⟨by decide, by decide, rfl, rfl⟩)
   ·exact .inr (.inr (.inl ⟨by simp [h1, h4], h1, h4⟩))
 ·by_cases h1 : t = 2
  ·subst h1; exact .inl ⟨by decide, rfl⟩
  ·by_cases h4 : t = 4
   ·subst h4; exact .inr (.inr (.inr ⟨by decide, by decide, rfl, by decide⟩))
   ·exact .inr (.inr (.inl ⟨by simp [h1], h1, h4⟩))
 ·by_cases h1 : t = 3
  ·subst h1; exact .inl ⟨by decide, rfl⟩
  ·by_cases h4 : t = 4
   ·subst h4; exact .inr (.inr (.inr ⟨by decide, by decide, rfl, by decide⟩))
   ·exact .inr (.inr (.inl ⟨by simp [h1], h1, h4⟩))
theorem hd_parts {h : HM} (f : h.Fit) (i : Nat) (hi : h.hdAt i) : (h.hd i).len < 4294967296 ∧ ((h.hd i).fmt = 2 → (h.hd i).spare ≤ 4 * (h.hd i).size) ∧ (h.hd i).size < 16777216 ∧ (h.hd i).fmt < 8 ∧ (h.hd i).spare < 4 := by
 have hx := HM.hd_fit f i
 refine ⟨?_, hi.sane, hx.size, hx.fmt, hx.spare⟩
 have := hx.size
 unfold Hd.len
 split <;> omega
section
variable {w : World} {p : HP} {h : HM} (R : RAt w p h) (f : h.Fit) (o : Nat) (ho : o < 4294967296)
include R f ho
theorem rlen_any (hd : h.hdAt (o / 2)) : Calls Tryz.prog 153 #[ptr p.g, .int .u32 o] w (Told (.int .i64 (h.hd (o / 2)).len) w) := by
 have HH := Lib.hid (rheader_any R f o ho hd)
 obtain ⟨h1, h2, h3, h4, h5⟩ := hd_parts f _ hd
 have HX := Lib.hid (show (h.hd (o / 2)).val = .agg #[.int .i64 (h.hd (o / 2)).size, .int .i64 (h.hd (o / 2)).fmt, .int .i64 (h.hd (o / 2)).spare, .int .u32 (h.hd (o / 2)).cls, .int .u32 (h.hd (o / 2)).ser] from rfl)
 clear hd
 generalize h.hd (o / 2) = x at *
 unfold ptr at HH ⊢
 by_cases hf : x.fmt = 2
 ·have HL := Lib.hid (show ((x.len : Nat) : Int) = 4 * (x.size : Int) - x.spare by have := h2 hf; unfold Hd.len; rw [if_pos hf]; omega)
  have hq : ((x.fmt : Int) == 2) = true := by simp; omega
  clear h2 hf h1
  go_enter Tryz.func153, Tryz.ntmps153
  go_wp2_with fail
  refine HH.out.mono ?_
  rintro e w1 ⟨rfl, hb1⟩
  rw [HX.out]
  go_wp2_with fail
  go_ret
  exact ⟨by rw [HL.out]; rfl, hb1.alloc hb1.size _⟩
 ·have HL := Lib.hid (show x.len = x.size by unfold Hd.len; rw [if_neg hf])
  have hq : ((x.fmt : Int) == 2) = false := by simp; omega
  clear h2 hf h1
  go_enter Tryz.func153, Tryz.ntmps153
  go_wp2_with fail
  refine HH.out.mono ?_
  rintro e w1 ⟨rfl, hb1⟩
  rw [HX.out]
  go_wp2_with fail
  go_ret
  exact ⟨by rw [HL.out]; rfl, hb1.alloc hb1.size _⟩
set_option maxRecDepth 100000 in
set_option maxHeartbeats 2000000 in
theorem rplace_any (hh : h.Heads) (i : Int) (F : Nat) (fs : List Nat) (hF : (F = 1 ∧ fs = [1, 4]) ∨ (F = 2 ∧ fs = [2]) ∨ (F = 3 ∧ fs = [3])) (hi1 : i ≤ 9223372036854775807) :
 Calls Tryz.prog 186 #[ptr p.g, .int .u32 o, .int .i64 F, .int .i64 i] w (Told (h.placeV o i F fs) w) := by
 have HI := Lib.hid (ris_any R f o ho)
 have hfl := fld1
 cases hi : h.isB o
 ·have HV := Lib.hid (show h.placeV o i F fs = .tuple #[.int .i64 0, .int .i64 3] by simp [HM.placeV, HM.lookE, hi])
  rw [hi] at HI
  clear hi hF
  unfold ptr at HI ⊢
  go_enter Tryz.func186, Tryz.ntmps186
  go_wp2_with fail
  refine HI.out.mono ?_
  rintro e w1 ⟨rfl, rfl⟩
  go_wp2_with fail
  go_ret2
  exact ⟨by rw [HV.out]; rfl, Below.refl _ _⟩
 ·have hd := HM.isB_hd hh hi
  have HH := Lib.hid (rheader_any R f o ho hd)
  have HL := Lib.hid (fun w' (hb : Below w.heap.size w w') => rlen_any (R.below hb) f o ho hd)
  obtain ⟨g1, g2, g3, g4, g5⟩ := hd_parts f _ hd
  have HE := Lib.hid (show h.lookE o i fs = if fs.contains (h.hd (o / 2)).fmt = false then 21 else if i < 0 ∨ ((h.hd (o / 2)).len : Int) ≤ i then 1 else 0 by simp [HM.lookE, hi])
  have HV := Lib.hid (show h.placeV o i F fs = .tuple #[.int .i64 ((if h.lookE o i fs = 0 then o / 2 + 3 + (if F = 2 then i.toNat / 4 else i.toNat) else 0 : Nat) : Int), .int .i64 (h.lookE o i fs)] from rfl)
  rw [HE.out] at HV
  rw [hi] at HI
  have HX := Lib.hid (show (h.hd (o / 2)).val = .agg #[.int .i64 (h.hd (o / 2)).size, .int .i64 (h.hd (o / 2)).fmt, .int .i64 (h.hd (o / 2)).spare, .int .u32 (h.hd (o / 2)).cls, .int .u32 (h.hd (o / 2)).ser] from rfl)
  have hcc := contains_cases (t := (h.hd (o / 2)).fmt) hF
  have hF3 : F ≤ 3 := by omega
  clear hd hi HE g2 hF hh
  have hq : ((o : Int) / 2) = ((o / 2 : Nat) : Int) := by omega
  have hq2 : o / 2 < 2147483648 := by omega
  generalize h.hd (o / 2) = x at *
  generalize o / 2 = q at *
  unfold ptr at HI HH HL ⊢
  rw [HX.out] at HH
  have bad : ∀ (t4 : Prop), (fs.contains x.fmt = false ∧ x.fmt ≠ F ∧ t4) → Hid (h.placeV o i F fs = .tuple #[.int .i64 0, .int .i64 21]) := fun _ ⟨hc, _, _⟩ => Lib.hid (by rw [HV.out, hc]; simp)
  have good : fs.contains x.fmt = true → Hid (h.placeV o i F fs = .tuple #[.int .i64 ((if (if i < 0 ∨ (x.len : Int) ≤ i then 1 else 0) = 0 then q + 3 + (if F = 2 then i.toNat / 4 else i.toNat) else 0 : Nat) : Int), .int .i64 ((if i < 0 ∨ (x.len : Int) ≤ i then 1 else 0 : Nat) : Int)]) := fun hc => Lib.hid (by rw [HV.out, hc]; simp)
  have fin : fs.contains x.fmt = true → ((((x.fmt : Int) != F) = false) ∨ (((x.fmt : Int) != F) = true ∧ ((x.fmt : Int) != 4) = false ∧ ((F : Int) != 1) = false)) →
   Calls Tryz.prog 186 #[.pointer (some ⟨p.g, 0, none⟩), .int .u32 o, .int .i64 F, .int .i64 i] w (Told (h.placeV o i F fs) w) := by
   intro hc ht
   have HG := good hc
   clear good bad HV hcc hc
   by_cases hneg : i < 0
   ·have HP := Lib.hid (show h.placeV o i F fs = .tuple #[.int .i64 0, .int .i64 1] by rw [HG.out, show (if i < 0 ∨ (x.len : Int) ≤ i then 1 else 0) = 1 from if_pos (Or.inl hneg)]; simp)
    clear HG
    have hd : decide (i < 0) = true := by simpa using hneg
    rcases ht with ht | ⟨ht, ht2, ht3⟩
    all_goals
     go_enter Tryz.func186, Tryz.ntmps186
     go_wp2_with fail
     refine HI.out.mono ?_
     rintro e w1 ⟨rfl, rfl⟩
     go_wp2_with fail
     refine HH.out.mono ?_
     rintro e w1 ⟨rfl, hb1⟩
     go_wp2_with fail
     go_ret2
     exact ⟨by rw [HP.out]; rfl, hb1⟩
   ·have hd : decide (i < 0) = false := by simpa using hneg
    by_cases hge : (x.len : Int) ≤ i
    ·have HP := Lib.hid (show h.placeV o i F fs = .tuple #[.int .i64 0, .int .i64 1] by rw [HG.out, show (if i < 0 ∨ (x.len : Int) ≤ i then 1 else 0) = 1 from if_pos (Or.inr hge)]; simp)
     clear HG
     have hd2 : decide ((x.len : Int) ≤ i) = true := by simpa using hge
     rcases ht with ht | ⟨ht, ht2, ht3⟩
     all_goals
      go_enter Tryz.func186, Tryz.ntmps186
      go_wp2_with fail
      refine HI.out.mono ?_
      rintro e w1 ⟨rfl, rfl⟩
      go_wp2_with fail
      refine HH.out.mono ?_
      rintro e w1 ⟨rfl, hb1⟩
      go_wp2_with fail
      refine (HL.out _ hb1).mono ?_
      rintro e w2 ⟨rfl, hb2⟩
      go_wp2_with fail
      go_ret2
      exact ⟨by rw [HP.out]; rfl, below_top hb1 hb2⟩
    ·have hd2 : decide ((x.len : Int) ≤ i) = false := by simpa using hge
     obtain ⟨k, rfl⟩ := Int.eq_ofNat_of_zero_le (by omega : 0 ≤ i)
     have HP := Lib.hid (show h.placeV o k F fs = .tuple #[.int .i64 ((q + 3 + (if F = 2 then k / 4 else k) : Nat) : Int), .int .i64 0] by rw [HG.out, show (if (k : Int) < 0 ∨ (x.len : Int) ≤ (k : Int) then 1 else 0) = 0 from if_neg (by omega)]; simp)
     have hk : k < 4294967296 := by omega
     clear HG
     by_cases h2 : F = 2
     ·have hp2 : ((F : Int) == 2) = true := by simp; omega
      rw [if_pos h2] at HP
      clear h2
      rcases ht with ht | ⟨ht, ht2, ht3⟩
      all_goals
       go_enter Tryz.func186, Tryz.ntmps186
       go_wp2_with fail
       refine HI.out.mono ?_
       rintro e w1 ⟨rfl, rfl⟩
       go_wp2_with fail
       refine HH.out.mono ?_
       rintro e w1 ⟨rfl, hb1⟩
       go_wp2_with fail
       refine (HL.out _ hb1).mono ?_
       rintro e w2 ⟨rfl, hb2⟩
       go_wp2_with fail
       go_ret2
       exact ⟨by rw [HP.out]; simp, below_top hb1 hb2⟩
     ·have hp2 : ((F : Int) == 2) = false := by simp; omega
      rw [if_neg h2] at HP
      clear h2
      rcases ht with ht | ⟨ht, ht2, ht3⟩
      all_goals
       go_enter Tryz.func186, Tryz.ntmps186
       go_wp2_with fail
       refine HI.out.mono ?_
       rintro e w1 ⟨rfl, rfl⟩
       go_wp2_with fail
       refine HH.out.mono ?_
       rintro e w1 ⟨rfl, hb1⟩
       go_wp2_with fail
       refine (HL.out _ hb1).mono ?_
       rintro e w2 ⟨rfl, hb2⟩
       go_wp2_with fail
       go_ret2
       exact ⟨by rw [HP.out]; simp, below_top hb1 hb2⟩
  rcases hcc with ⟨hc, he⟩ | ⟨hc, h1, h4, hF1⟩ | ⟨hc, h1, h4⟩ | ⟨hc, h1, h4, hF1⟩
  ·exact fin hc (.inl (by simp [he]))
  ·exact fin hc (.inr ⟨by simp; omega, by simp; omega, by simp; omega⟩)
  ·have HB := bad _ ⟨hc, h1, h4⟩
   have ht : ((x.fmt : Int) != F) = true := by simp; omega
   have ht2 : ((x.fmt : Int) != 4) = true := by simp; omega
   clear bad good fin HV hc h1 h4
   go_enter Tryz.func186, Tryz.ntmps186
   go_wp2_with fail
   refine HI.out.mono ?_
   rintro e w1 ⟨rfl, rfl⟩
   go_wp2_with fail
   refine HH.out.mono ?_
   rintro e w1 ⟨rfl, hb1⟩
   go_wp2_with fail
   go_ret2
   exact ⟨by rw [HB.out]; rfl, hb1⟩
  ·have HB := bad _ ⟨hc, h1, trivial⟩
   have ht : ((x.fmt : Int) != F) = true := by simp; omega
   have ht2 : ((x.fmt : Int) != 4) = false := by simp; omega
   have ht3 : ((F : Int) != 1) = true := by simp; omega
   clear bad good fin HV hc h1 h4 hF1
   go_enter Tryz.func186, Tryz.ntmps186
   go_wp2_with fail
   refine HI.out.mono ?_
   rintro e w1 ⟨rfl, rfl⟩
   go_wp2_with fail
   refine HH.out.mono ?_
   rintro e w1 ⟨rfl, hb1⟩
   go_wp2_with fail
   go_ret2
   exact ⟨by rw [HB.out]; rfl, hb1⟩
end
end
section
open Go.RowKit
theorem look_at {h : HM} (hh : h.Heads) {o : Nat} {i : Int} {F : Nat} {fs : List Nat} (hF : (F = 1 ∧ fs = [1, 4]) ∨ (F = 2 ∧ fs = [2]) ∨ (F = 3 ∧ fs = [3])) (he : h.lookE o i fs = 0) :
 ∃ k : Nat, i = k ∧ o / 2 + 3 + (if F = 2 then k / 4 else k) < h.words.length := by
 obtain ⟨hi, hc, h0, hlt⟩ := HM.look_ok he
 have hd := (HM.isB_hd hh hi).1
 obtain ⟨k, rfl⟩ := Int.eq_ofNat_of_zero_le h0
 refine ⟨k, rfl, ?_⟩
 unfold Hd.len at hlt
 rcases hF with ⟨rfl, rfl⟩ | ⟨rfl, rfl⟩ | ⟨rfl, rfl⟩
 ·rw [if_neg (fun e => by rw [e] at hc; simp at hc)] at hlt
  rw [if_neg (by omega)]; omega
 ·rw [if_pos (by simpa using hc)] at hlt
  rw [if_pos rfl]; omega
 ·rw [if_neg (fun e => by rw [e] at hc; simp at hc)] at hlt
  rw [if_neg (by omega)]; omega
theorem HM.placeV_no {h : HM} {o F : Nat} {i : Int} {fs : List Nat} (he : h.lookE o i fs ≠ 0) : h.placeV o i F fs = .tuple #[.int .i64 0, .int .i64 (h.lookE o i fs)] := by
 unfold HM.placeV; rw [if_neg he]; rfl
theorem HM.placeV_at {h : HM} {o F k : Nat} {fs : List Nat} (he : h.lookE o k fs = 0) : h.placeV o k F fs = .tuple #[.int .i64 ((o / 2 + 3 + (if F = 2 then k / 4 else k) : Nat) : Int), .int .i64 0] := by
 unfold HM.placeV; rw [if_pos he, he, Int.toNat_natCast]; rfl
section
variable {w : World} {p : HP} {h : HM} (R : RAt w p h) (f : h.Fit) (hh : h.Heads) (o : Nat) (ho : o < 4294967296) (i : Int) (hi63 : i ≤ 9223372036854775807)
include R f hh ho hi63
set_option maxRecDepth 100000 in
theorem rget_any : Calls Tryz.prog 156 #[ptr p.g, .int .u32 o, .int .i64 i] w (Told (.tuple #[.int .u32 (h.readN o i [1, 4] : Nat), .int .i64 (h.lookE o i [1, 4] : Nat)]) w) := by
 have HP := Lib.hid (rplace_any R f o ho hh i 1 [1, 4] (by decide) hi63)
 have hle := h.lookE_lt o i [1, 4]
 by_cases he : h.lookE o i [1, 4] = 0
 ·obtain ⟨k, rfl, hk⟩ := look_at hh (F := 1) (fs := [1, 4]) (by decide) he
  rw [HM.placeV_at he] at HP
  simp only [Nat.reduceEqDiff, if_false] at HP hk
  have HN := Lib.hid (show h.readN o k [1, 4] = fw h o k by unfold HM.readN; rw [if_pos he]; rfl)
  have HC := Lib.hid (show ∀ w', Below w.heap.size w w' → w'.cell? ⟨p.g, 1, none⟩ = some (.slice (some ⟨p.gw, 0, none⟩) h.words.length p.cw) ∧ w'.cell? ⟨p.gw, o / 2 + 3 + k, none⟩ = some (.int .u32 (fw h o k : Nat)) from fun w' hb => ⟨(R.below hb).c1, (R.below hb).word hk⟩)
  have hmx := f.room
  have hmx2 := f.hi
  rw [HN.out, he]
  clear he hle HN R f hh
  generalize fw h o k = v at *
  generalize o / 2 + 3 + k = q at *
  generalize h.words.length = len at *
  unfold ptr at HP ⊢
  go_enter Tryz.func156, Tryz.ntmps156
  go_wp2_with fail
  refine HP.out.mono ?_
  rintro e w1 ⟨rfl, hb⟩
  obtain ⟨c1, cv⟩ := HC.out _ hb
  go_wp2_with fail
  go_ret2
  exact ⟨rfl, hb⟩
 ·have hne : ((h.lookE o i [1, 4] : Int) != 0) = true := by simp; omega
  rw [HM.placeV_no he] at HP
  have HN := Lib.hid (show h.readN o i [1, 4] = 0 by unfold HM.readN; rw [if_neg he])
  rw [HN.out]
  generalize h.lookE o i [1, 4] = E at *
  clear he HN
  unfold ptr at HP ⊢
  go_enter Tryz.func156, Tryz.ntmps156
  go_wp2_with fail
  refine HP.out.mono ?_
  rintro e w1 ⟨rfl, hb⟩
  go_wp2_with fail
  go_ret2
  exact ⟨rfl, hb⟩
set_option maxRecDepth 100000 in
theorem rword_any : Calls Tryz.prog 155 #[ptr p.g, .int .u32 o, .int .i64 i] w (Told (.tuple #[.int .u32 (h.readN o i [3] : Nat), .int .i64 (h.lookE o i [3] : Nat)]) w) := by
 have HP := Lib.hid (rplace_any R f o ho hh i 3 [3] (by decide) hi63)
 have hle := h.lookE_lt o i [3]
 by_cases he : h.lookE o i [3] = 0
 ·obtain ⟨k, rfl, hk⟩ := look_at hh (F := 3) (fs := [3]) (by decide) he
  rw [HM.placeV_at he] at HP
  simp only [Nat.reduceEqDiff, if_false] at HP hk
  have HN := Lib.hid (show h.readN o k [3] = fw h o k by unfold HM.readN; rw [if_pos he]; rfl)
  have HC := Lib.hid (show ∀ w', Below w.heap.size w w' → w'.cell? ⟨p.g, 1, none⟩ = some (.slice (some ⟨p.gw, 0, none⟩) h.words.length p.cw) ∧ w'.cell? ⟨p.gw, o / 2 + 3 + k, none⟩ = some (.int .u32 (fw h o k : Nat)) from fun w' hb => ⟨(R.below hb).c1, (R.below hb).word hk⟩)
  have hmx := f.room
  have hmx2 := f.hi
  rw [HN.out, he]
  clear he hle HN R f hh
  generalize fw h o k = v at *
  generalize o / 2 + 3 + k = q at *
  generalize h.words.length = len at *
  unfold ptr at HP ⊢
  go_enter Tryz.func155, Tryz.ntmps155
  go_wp2_with fail
  refine HP.out.mono ?_
  rintro e w1 ⟨rfl, hb⟩
  obtain ⟨c1, cv⟩ := HC.out _ hb
  go_wp2_with fail
  go_ret2
  exact ⟨rfl, hb⟩
 ·have hne : ((h.lookE o i [3] : Int) != 0) = true := by simp; omega
  rw [HM.placeV_no he] at HP
  have HN := Lib.hid (show h.readN o i [3] = 0 by unfold HM.readN; rw [if_neg he])
  rw [HN.out]
  generalize h.lookE o i [3] = E at *
  clear he HN
  unfold ptr at HP ⊢
  go_enter Tryz.func155, Tryz.ntmps155
  go_wp2_with fail
  refine HP.out.mono ?_
  rintro e w1 ⟨rfl, hb⟩
  go_wp2_with fail
  go_ret2
  exact ⟨rfl, hb⟩
set_option maxRecDepth 100000 in
set_option maxHeartbeats 2000000 in
theorem rbyte_any : Calls Tryz.prog 154 #[ptr p.g, .int .u32 o, .int .i64 i] w (Told (.tuple #[.int .u8 (h.byteN o i : Nat), .int .i64 (h.lookE o i [2] : Nat)]) w) := by
 have HP := Lib.hid (rplace_any R f o ho hh i 2 [2] (by decide) hi63)
 have hle := h.lookE_lt o i [2]
 by_cases he : h.lookE o i [2] = 0
 ·obtain ⟨k, rfl, hk⟩ := look_at hh (F := 2) (fs := [2]) (by decide) he
  rw [HM.placeV_at he] at HP
  simp only [if_true] at HP hk
  have HN := Lib.hid (show h.byteN o k = byteOf (fw h o (k / 4)) (k % 4) by unfold HM.byteN; rw [if_pos he]; rfl)
  have HC := Lib.hid (show ∀ w', Below w.heap.size w w' → w'.cell? ⟨p.g, 1, none⟩ = some (.slice (some ⟨p.gw, 0, none⟩) h.words.length p.cw) ∧ w'.cell? ⟨p.gw, o / 2 + 3 + k / 4, none⟩ = some (.int .u32 (fw h o (k / 4) : Nat)) from fun w' hb => ⟨(R.below hb).c1, (R.below hb).word hk⟩)
  have hmx := f.room
  have hmx2 := f.hi
  have hv : fw h o (k / 4) < 4294967296 := f.word _
  rw [HN.out, he]
  clear he hle HN R f hh
  generalize fw h o (k / 4) = v at *
  generalize o / 2 + 3 + k / 4 = q at *
  generalize h.words.length = len at *
  unfold ptr at HP ⊢
  rcases (by omega : k % 4 = 0 ∨ k % 4 = 1 ∨ k % 4 = 2 ∨ k % 4 = 3) with hr | hr | hr | hr
  all_goals
   have hmod : (k : Int) % 4 = ((k % 4 : Nat) : Int) := by omega
   rw [hr] at hmod
   have HFIN := Lib.hid (show ((byteOf v (k % 4) : Nat) : Int) = (v : Int) / ((2 ^ (8 * (k % 4)) : Nat) : Int) % 256 by unfold byteOf; simp)
   rw [hr] at HFIN
   rw [hr]
   clear hr
   go_enter Tryz.func154, Tryz.ntmps154
   go_wp2_with fail
   refine HP.out.mono ?_
   rintro e w1 ⟨rfl, hb⟩
   obtain ⟨c1, cv⟩ := HC.out _ hb
   go_wp2_with fail
   go_ret2
   refine ⟨?_, hb⟩
   rw [HFIN.out]
   first
    | (simp; done)
    | (simp; omega)
    | trace_state
 ·have hne : ((h.lookE o i [2] : Int) != 0) = true := by simp; omega
  rw [HM.placeV_no he] at HP
  have HN := Lib.hid (show h.byteN o i = 0 by unfold HM.byteN; rw [if_neg he])
  rw [HN.out]
  generalize h.lookE o i [2] = E at *
  clear he HN
  unfold ptr at HP ⊢
  go_enter Tryz.func154, Tryz.ntmps154
  go_wp2_with fail
  refine HP.out.mono ?_
  rintro e w1 ⟨rfl, hb⟩
  go_wp2_with fail
  go_ret2
  exact ⟨rfl, hb⟩
end
end
section
open Go.RowKit
section
variable {w : World} {p : HP} {h : HM} (R : RAt w p h) (f : h.Fit) (hh : h.Heads) (o : Nat) (ho : o < 4294967296) (i : Int) (hi63 : i ≤ 9223372036854775807)
include R f hh ho hi63
end
section
variable {w : World} {p : HP} {h : HM} (R : RAt w p h) (f : h.Fit)
include R f
end
end
section
open Go.RowKit
section
variable {w w1 : World} {p : HP} {h : HM}
end
end
section
open Go.RowKit
attribute [local go_sem] Oper.semAt_some
section
variable {w : World} {p : HP} {h : HM} (R : RAt w p h) (f : h.Fit)
include R f
end
end
section
open Go.RowKit
section
variable {w w' : World} {p p' : HP} {B : Nat} {A : Option Addr} {ds : List Dd}
theorem cell_add {a : Addr} {j : Nat} {v : Value} (h : w.cell? (a.add j) = some v) (hj : 0 < j) : w.cell? ⟨a.block, a.off + j, none⟩ = some v := by
 unfold Addr.add at h
 rw [if_neg (by omega)] at h
 exact h
end
end
section
open Go.RowKit
theorem u8c_lenS (l : List Nat) : (u8c l).length = l.length := by simp [u8c]
theorem u8c_get {l : List Nat} {i : Nat} (h : i < l.length) : (u8c l)[i]? = some (.int .u8 ((l.getD i 0 : Nat) : Int)) := by
 simp [u8c, List.getD, h]
set_option maxHeartbeats 1000000 in
theorem sameWords_any (A A' : Option Addr) (n n' c c' : Nat) (xs ys : List Nat) (w : World) (hn : n ≤ 9223372036854775807) (hn' : n' ≤ 9223372036854775807) (hr : Reads w w.heap.size 1 A n (u32s xs)) (hr' : Reads w w.heap.size 1 A' n' (u32s ys)) :
 Calls Tryz.prog 38 #[.slice A n c, .slice A' n' c'] w (Told (.bool (sameL xs ys)) w) := by
 have hl : xs.length = n := by have := hr.1; rw [u32s_len] at this; omega
 have hl' : ys.length = n' := by have := hr'.1; rw [u32s_len] at this; omega
 have HL := Lib.hid hl; have HL' := Lib.hid hl'
 clear hl hl'
 have HR := Lib.hid hr; have HR' := Lib.hid hr'
 clear hr hr'
 by_cases hnn : n = n'
 ·subst hnn
  go_enter Tryz.func38, Tryz.ntmps38
  go_wp2_with fail
  go_loopw [5] (fun i wr => ∃ k : Nat, k ≤ n ∧ i = .int .i64 k ∧ xs.take k = ys.take k ∧ Below w.heap.size w wr) (fun i _ => n - (intOf i).toNat)
  case atStart => exact ⟨0, by omega, rfl, rfl, Below.refl _ _⟩
  case round =>
   obtain ⟨k, hk, rfl, ht, hb⟩ := hrel
   have HT := Lib.hid ht; clear ht
   by_cases hlt : k < n
   ·have hx : k < xs.length := by rw [HL.out]; exact hlt
    have hy : k < ys.length := by rw [HL'.out]; exact hlt
    obtain ⟨ad, u, rfl, hbl, hu, hc⟩ := (HR.out.below hb).at_ hlt
    obtain ⟨ad', u', rfl, hbl', hu', hc'⟩ := (HR'.out.below hb).at_ hlt
    rw [u32s_get hx] at hu
    rw [u32s_get hy] at hu'
    injection hu with hu
    injection hu' with hu'
    subst hu hu'
    have HX := Lib.hid hx; have HY := Lib.hid hy
    clear hx hy
    by_cases he : xs.getD k 0 = ys.getD k 0
    ·have HE := Lib.hid (take_eq_succ HX.out HY.out he HT.out)
     have hv : ((xs.getD k 0 : Int) != (ys.getD k 0 : Int)) = false := by rw [he]; simp
     clear he
     generalize xs.getD k 0 = x at *
     generalize ys.getD k 0 = y at *
     go_wp2_with fail
     go_region
     all_goals go_wp2_with fail
     all_goals go_roundw
     case rel => exact ⟨k + 1, by omega, by go_num, HE.out, below_drew hb⟩
     case measure => simp [intOf]; omega
    ·have HE := Lib.hid (sameL_at HX.out HY.out he)
     have hv : ((xs.getD k 0 : Int) != (ys.getD k 0 : Int)) = true := by rw [bne_iff_ne]; omega
     clear he
     generalize xs.getD k 0 = x at *
     generalize ys.getD k 0 = y at *
     go_wp2_with fail
     go_region
     all_goals go_wp2_with fail
     all_goals go_ret
     all_goals exact ⟨by rw [HE.out]; rfl, below_drew hb⟩
   ·obtain rfl : k = n := by omega
    have HA := Lib.hid (sameL_all HL.out HL'.out HT.out)
    go_wp2_with fail
    go_ret
    exact ⟨by rw [HA.out]; rfl, hb⟩
 ·have HF := Lib.hid (sameL_len (xs := xs) (ys := ys) (by rw [HL.out, HL'.out]; exact hnn))
  have hv : ((n : Int) != (n' : Int)) = true := by simp; omega
  clear hnn
  go_enter Tryz.func38, Tryz.ntmps38
  go_wp2_with fail
  go_ret
  exact ⟨by rw [HF.out]; rfl, Below.refl _ _⟩
set_option maxHeartbeats 1000000 in
theorem sameOops_any (A A' : Option Addr) (n n' c c' : Nat) (xs ys : List Nat) (w : World) (hn : n ≤ 9223372036854775807) (hn' : n' ≤ 9223372036854775807) (hr : Reads w w.heap.size 1 A n (u32s xs)) (hr' : Reads w w.heap.size 1 A' n' (u32s ys)) :
 Calls Tryz.prog 63 #[.slice A n c, .slice A' n' c'] w (Told (.bool (sameL xs ys)) w) := by
 have hl : xs.length = n := by have := hr.1; rw [u32s_len] at this; omega
 have hl' : ys.length = n' := by have := hr'.1; rw [u32s_len] at this; omega
 have HL := Lib.hid hl; have HL' := Lib.hid hl'
 clear hl hl'
 have HR := Lib.hid hr; have HR' := Lib.hid hr'
 clear hr hr'
 by_cases hnn : n = n'
 ·subst hnn
  go_enter Tryz.func63, Tryz.ntmps63
  go_wp2_with fail
  go_loopw [5] (fun i wr => ∃ k : Nat, k ≤ n ∧ i = .int .i64 k ∧ xs.take k = ys.take k ∧ Below w.heap.size w wr) (fun i _ => n - (intOf i).toNat)
  case atStart => exact ⟨0, by omega, rfl, rfl, Below.refl _ _⟩
  case round =>
   obtain ⟨k, hk, rfl, ht, hb⟩ := hrel
   have HT := Lib.hid ht; clear ht
   by_cases hlt : k < n
   ·have hx : k < xs.length := by rw [HL.out]; exact hlt
    have hy : k < ys.length := by rw [HL'.out]; exact hlt
    obtain ⟨ad, u, rfl, hbl, hu, hc⟩ := (HR.out.below hb).at_ hlt
    obtain ⟨ad', u', rfl, hbl', hu', hc'⟩ := (HR'.out.below hb).at_ hlt
    rw [u32s_get hx] at hu
    rw [u32s_get hy] at hu'
    injection hu with hu
    injection hu' with hu'
    subst hu hu'
    have HX := Lib.hid hx; have HY := Lib.hid hy
    clear hx hy
    by_cases he : xs.getD k 0 = ys.getD k 0
    ·have HE := Lib.hid (take_eq_succ HX.out HY.out he HT.out)
     have hv : ((xs.getD k 0 : Int) != (ys.getD k 0 : Int)) = false := by rw [he]; simp
     clear he
     generalize xs.getD k 0 = x at *
     generalize ys.getD k 0 = y at *
     go_wp2_with fail
     go_region
     all_goals go_wp2_with fail
     all_goals go_roundw
     case rel => exact ⟨k + 1, by omega, by go_num, HE.out, below_drew hb⟩
     case measure => simp [intOf]; omega
    ·have HE := Lib.hid (sameL_at HX.out HY.out he)
     have hv : ((xs.getD k 0 : Int) != (ys.getD k 0 : Int)) = true := by rw [bne_iff_ne]; omega
     clear he
     generalize xs.getD k 0 = x at *
     generalize ys.getD k 0 = y at *
     go_wp2_with fail
     go_region
     all_goals go_wp2_with fail
     all_goals go_ret
     all_goals exact ⟨by rw [HE.out]; rfl, below_drew hb⟩
   ·obtain rfl : k = n := by omega
    have HA := Lib.hid (sameL_all HL.out HL'.out HT.out)
    go_wp2_with fail
    go_ret
    exact ⟨by rw [HA.out]; rfl, hb⟩
 ·have HF := Lib.hid (sameL_len (xs := xs) (ys := ys) (by rw [HL.out, HL'.out]; exact hnn))
  have hv : ((n : Int) != (n' : Int)) = true := by simp; omega
  clear hnn
  go_enter Tryz.func63, Tryz.ntmps63
  go_wp2_with fail
  go_ret
  exact ⟨by rw [HF.out]; rfl, Below.refl _ _⟩
end
section
open Go.RowKit
set_option maxHeartbeats 1000000 in
theorem isame_any (A A' : Option Addr) (n n' c c' : Nat) (xs ys : List Nat) (w : World) (hn : n ≤ 9223372036854775807) (hn' : n' ≤ 9223372036854775807) (hr : Reads w w.heap.size 1 A n (u8c xs)) (hr' : Reads w w.heap.size 1 A' n' (u8c ys)) :
 Calls Tryz.prog 19 #[.slice A n c, .slice A' n' c'] w (Told (.bool (sameL xs ys)) w) := by
 have hl : xs.length = n := by have := hr.1; rw [u8c_lenS] at this; omega
 have hl' : ys.length = n' := by have := hr'.1; rw [u8c_lenS] at this; omega
 have HL := Lib.hid hl; have HL' := Lib.hid hl'
 clear hl hl'
 have HR := Lib.hid hr; have HR' := Lib.hid hr'
 clear hr hr'
 by_cases hnn : n = n'
 ·subst hnn
  go_enter Tryz.func19, Tryz.ntmps19
  go_wp2_with fail
  go_loopw [5] (fun i wr => ∃ k : Nat, k ≤ n ∧ i = .int .i64 k ∧ xs.take k = ys.take k ∧ Below w.heap.size w wr) (fun i _ => n - (intOf i).toNat)
  case atStart => exact ⟨0, by omega, rfl, rfl, Below.refl _ _⟩
  case round =>
   obtain ⟨k, hk, rfl, ht, hb⟩ := hrel
   have HT := Lib.hid ht; clear ht
   by_cases hlt : k < n
   ·have hx : k < xs.length := by rw [HL.out]; exact hlt
    have hy : k < ys.length := by rw [HL'.out]; exact hlt
    obtain ⟨ad, u, rfl, hbl, hu, hc⟩ := (HR.out.below hb).at_ hlt
    obtain ⟨ad', u', rfl, hbl', hu', hc'⟩ := (HR'.out.below hb).at_ hlt
    rw [u8c_get hx] at hu
    rw [u8c_get hy] at hu'
    injection hu with hu
    injection hu' with hu'
    subst hu hu'
    have HX := Lib.hid hx; have HY := Lib.hid hy
    clear hx hy
    by_cases he : xs.getD k 0 = ys.getD k 0
    ·have HE := Lib.hid (take_eq_succ HX.out HY.out he HT.out)
     have hv : ((xs.getD k 0 : Int) != (ys.getD k 0 : Int)) = false := by rw [he]; simp
     clear he
     generalize xs.getD k 0 = x at *
     generalize ys.getD k 0 = y at *
     go_wp2_with fail
     go_region
     all_goals go_wp2_with fail
     all_goals go_roundw
     case rel => exact ⟨k + 1, by omega, by go_num, HE.out, below_drew hb⟩
     case measure => simp [intOf]; omega
    ·have HE := Lib.hid (sameL_at HX.out HY.out he)
     have hv : ((xs.getD k 0 : Int) != (ys.getD k 0 : Int)) = true := by rw [bne_iff_ne]; omega
     clear he
     generalize xs.getD k 0 = x at *
     generalize ys.getD k 0 = y at *
     go_wp2_with fail
     go_region
     all_goals go_wp2_with fail
     all_goals go_ret
     all_goals exact ⟨by rw [HE.out]; rfl, below_drew hb⟩
   ·obtain rfl : k = n := by omega
    have HA := Lib.hid (sameL_all HL.out HL'.out HT.out)
    go_wp2_with fail
    go_ret
    exact ⟨by rw [HA.out]; rfl, hb⟩
 ·have HF := Lib.hid (sameL_len (xs := xs) (ys := ys) (by rw [HL.out, HL'.out]; exact hnn))
  have hv : ((n : Int) != (n' : Int)) = true := by simp; omega
  clear hnn
  go_enter Tryz.func19, Tryz.ntmps19
  go_wp2_with fail
  go_ret
  exact ⟨by rw [HF.out]; rfl, Below.refl _ _⟩
theorem inum_any (E : Nat) (hE : E < 4294967296) (w : World) : Calls Tryz.prog 14 #[.int .i64 E] w fun e w' => e = .returned (.int .i64 E) ∧ w = w' := by
 go_enter Tryz.func14, Tryz.ntmps14
 go_wp2_with fail
 go_ret
 exact ⟨rfl, rfl⟩
end
section
open Go.RowKit
theorem rtop_any {w : World} {q : HP} {h : HM} (R : RAt w q h) (hl : h.words.length ≤ 1048576) : Calls Tryz.prog 61 #[.pointer (some ⟨q.g, 0, none⟩)] w (Said (.int .i64 (h.words.length : Nat)) w) := by
 have c1 := R.c1
 go_enter Tryz.func61, Tryz.ntmps61
 go_wp2_with fail
 go_ret
 exact ⟨rfl, rfl⟩
set_option maxRecDepth 100000 in
set_option maxHeartbeats 4000000 in
theorem like_any {W w : World} {p q : HP} {g : Nat} {h : HM} (L : Live W w p g h) (R : RAt w q h) :
 Calls Tryz.prog 15 #[.pointer (some ⟨g, 0, none⟩), .pointer (some ⟨q.g, 0, none⟩)] w (Told (.bool true) w) := by
 have hf := L.fit
 have r1 := hf.room
 have r2 := hf.hi
 have hrl := hf.roots
 have HSZ := Lib.hid (fun (w1 : World) (hb : Below w.heap.size w w1) => (L.after hb).size)
 have HTP := Lib.hid (fun (w1 : World) (hb : Below w.heap.size w w1) => (L.after hb).top)
 have HLS := Lib.hid (fun (w1 : World) (hb : Below w.heap.size w w1) => (L.after hb).last)
 have HWD := Lib.hid (fun (w1 : World) (hb : Below w.heap.size w w1) => (L.after hb).words)
 have HRT := Lib.hid (fun (w1 : World) (hb : Below w.heap.size w w1) => (L.after hb).roots)
 have HTQ := Lib.hid (fun (w1 : World) (hb : Below w.heap.size w w1) => rtop_any (R.below hb) (by omega))
 have HSW := Lib.hid (fun (w1 w2 : World) (hb : Below w.heap.size w w2) (g1 c1 : Nat) (r : Row w2 g1 32 c1 (u32s h.words)) => sameWords_any (some ⟨g1, 0, none⟩) (some ⟨q.gw, 0, none⟩) h.words.length h.words.length c1 q.cw h.words h.words w2 (by omega) (by omega)
  (by have := r.reads r.lt; rw [u32s_len] at this; exact this) (by have := (R.below hb).2.1.reads (R.below hb).2.1.lt; rw [u32s_len] at this; exact this))
 have HSO := Lib.hid (fun (w1 w2 : World) (hb : Below w.heap.size w w2) (g1 c1 : Nat) (r : Row w2 g1 54 c1 (u32s h.roots)) => sameOops_any (some ⟨g1, 0, none⟩) (some ⟨q.gr, 0, none⟩) h.roots.length h.roots.length c1 q.cr h.roots h.roots w2 (by omega) (by omega)
  (by have := r.reads r.lt; rw [u32s_len] at this; exact this) (by have := (R.below hb).2.2.2.reads (R.below hb).2.2.2.lt; rw [u32s_len] at this; exact this))
 rw [sameL_self] at HSW HSO
 have HC := Lib.hid (fun (w1 : World) (hb : Below w.heap.size w w1) => (R.below hb).1.cells5)
 obtain ⟨c0, c1, c2, c3, c4⟩ := R.1.cells5
 have HL1 := Lib.hid (u32s_len h.words)
 have HL2 := Lib.hid (u32s_len h.roots)
 have hB0 : Below w.heap.size w w.drew := below_drew (Below.refl _ _)
 clear L R hf hrl
 go_enter Tryz.func15, Tryz.ntmps15
 go_wp2_with fail
 go_region_held3 (fun w' => w'.cell? ⟨q.g, 0, none⟩ = some (.int .i64 h.size) ∧ w'.cell? ⟨q.g, 1, none⟩ = some (.slice (some ⟨q.gw, 0, none⟩) h.words.length q.cw) ∧ w'.cell? ⟨q.g, 2, none⟩ = some (.slice (some ⟨q.gr, 0, none⟩) h.roots.length q.cr) ∧ w'.cell? ⟨q.g, 3, none⟩ = some (.int .u32 h.last) ∧ w'.cell? ⟨q.g, 4, none⟩ = some (.slice (some ⟨q.gs, 0, none⟩) h.starts.length q.cs))
  (first | exact ⟨c0, c1, c2, c3, c4⟩ | exact HC.out _ (by assumption) | go_keep)
  (first
    | (go_at_call 59; refine (HSZ.out _ (by assumption)).mono ?_; rintro e w' ⟨rfl, rfl⟩)
    | (go_at_call 60; refine (HTP.out _ (by assumption)).mono ?_; rintro e w' ⟨rfl, rfl⟩)
    | (go_at_call 62; refine (HLS.out _ (by assumption)).mono ?_; rintro e w' ⟨rfl, rfl⟩)
    | (go_at_call 61; refine (HTQ.out _ (by assumption)).mono ?_; rintro e w' ⟨rfl, rfl⟩)
    | (go_at_call 35; refine (HWD.out _ (by assumption)).mono ?_; rintro e w1 ⟨g1, k1, rfl, rw1, -, hb1⟩; rw [HL1.out]; have hB1 := below_top (by assumption) hb1)
    | (go_at_call 54; refine (HRT.out _ (by assumption)).mono ?_; rintro e w3 ⟨g3, k3, rfl, rw3, -, hb3⟩; rw [HL2.out]; have hB3 := below_top (by assumption) hb3)
    | (go_at_call 38; refine (HSW.out w _ (by assumption) _ _ (by assumption)).mono ?_; rintro e w2 ⟨rfl, hb2⟩; have hB2 := below_top (by assumption) hb2)
    | (go_at_call 63; refine (HSO.out w _ (by assumption) _ _ (by assumption)).mono ?_; rintro e w4 ⟨rfl, hb4⟩; have hB4 := below_top (by assumption) hb4))
 all_goals go_wp2_with fail
 all_goals go_ret
 all_goals exact ⟨rfl, by assumption⟩
end
end Go.Proofs.YtlkahgagmfhdaaaGreatDoor
