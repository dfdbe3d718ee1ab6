import Derived.Test.YthadjmhipckelaaGreatDoorJDTh
import Derived.Test.YthadjmhipckelaaGreatDoorJIEq
import Derived.Test.YthadjmhipckelaaGreatDoorJRefQ
import Derived.Test.YthadjmhipckelaaGreatDoorJAll
import Derived.Test.YthadjmhipckelaaGreatDoorJIAppIn
import Derived.Test.YthadjmhipckelaaGreatDoorJIObjS
import Derived.Test.YthadjmhipckelaaGreatDoorJRefG
import Derived.IntWalk
set_option linter.unusedVariables false
set_option linter.unusedSimpArgs false
set_option linter.unusedSectionVars false
namespace Go.Proofs.YthadjmhipckelaaGreatDoor
section
open Go.RowKit
attribute [local go_sem] Oper.semAt_some
theorem info_th : (Tryz.prog.info? 105).map (fun i => (i.zero, i.size, i.bytes)) = some (some (Value.agg #[.int .i64 0, .int .i64 0, .int .i64 0, .int .u32 0, .int .u32 0, .int .u32 0, .slice none 0 0, .int .i64 0]), 8, 72) := by kernel_rfl
def Ths (w : World) (g : Nat) (us : List Wr) : Prop := ∃ cur, Blk w g 105 cur ∧ cur.toList.take (us.length * 8) = wrL us
section
variable {w w' : World} {g : Nat} {us : List Wr}
theorem Ths.lt (h : Ths w g us) : g < w.heap.size := by obtain ⟨_, h, _⟩ := h; exact h.lt
theorem Ths.same (h : Ths w g us) (hs : w'.heap[g]? = w.heap[g]?) : Ths w' g us := by obtain ⟨cur, hb, r⟩ := h; exact ⟨cur, hb.same hs, r⟩
theorem Ths.cell (h : Ths w g us) {i j : Nat} {u : Value} (hi : i < us.length) (hj : j < 8) (hu : ((us.getD i default).cells)[j]? = some u) : w.cell? ⟨g, i * 8 + j, none⟩ = some u := by
 obtain ⟨cur, hb, r⟩ := h
 rw [hb.cell (i * 8 + j)]
 have h1 : (wrL us)[i * 8 + j]? = some u := by rw [wrL_get us i j hi hj]; exact hu
 rw [← r, List.getElem?_take] at h1
 split at h1
 ·rw [← h1]; simp
 ·cases h1
end
theorem own_ths {w : World} {base n : Nat} {v : Value} {us : List Wr} (h : w.ownsRow base 105 8 v n (wrL us)) (hn : us.length = n) (h0 : 0 < n) : ∃ g c, v = .slice (some ⟨g, 0, none⟩) n c ∧ Ths w g us ∧ base ≤ g := by
 rcases h.2 with ⟨rfl, h1⟩ | ⟨g, cap, cur, rfl, hb, hg, hh, hc, hs, ht⟩
 ·omega
 ·refine ⟨g, cap, rfl, ⟨cur, hg, ?_⟩, hb⟩
  rw [hn]
  exact ht
end
section
open Go.RowKit
attribute [local go_sem] Oper.semAt_some
theorem dsmall_any (v : Int) (h1 : -1073741824 ≤ v) (h2 : v ≤ 1073741823) (w : World) : Calls Tryz.prog 86 #[.int .i64 v] w fun e w' => e = .returned (.int .u32 (smallO v : Nat)) ∧ w = w' := by
 have hw1 : wrap64 (2 * v) = 2 * v := IntWalk.wrap64_in _ (by omega)
 have hw2 : wrap64 (2 * v + 1) = 2 * v + 1 := IntWalk.wrap64_in _ (by omega)
 by_cases hn : v < 0
 ·have hd : decide (2 * v + 1 < 0) = true := by simp; omega
  have hw3 : wrap64 (2 * v + 1 + 4294967296) = 2 * v + 1 + 4294967296 := IntWalk.wrap64_in _ (by omega)
  have hu : IntKind.u32.wrap (2 * v + 1 + 4294967296) = ((smallO v : Nat) : Int) := by show (2 * v + 1 + 4294967296) % 4294967296 = _; unfold smallO; omega
  have hu2 : (2 * v + 1 + 4294967296) % 4294967296 = ((smallO v : Nat) : Int) := hu
  have hu3 : (2 * v + 1) % 4294967296 = ((smallO v : Nat) : Int) := by unfold smallO; omega
  generalize smallO v = q at *
  go_enter Tryz.func86, Tryz.ntmps86
  go_wp2_with fail
  go_ret
  exact ⟨by first | rfl | (congr 2; omega), rfl⟩
 ·have hd : decide (2 * v + 1 < 0) = false := by simp; omega
  have hu : IntKind.u32.wrap (2 * v + 1) = ((smallO v : Nat) : Int) := by show (2 * v + 1) % 4294967296 = _; unfold smallO; omega
  have hu2 : (2 * v + 1) % 4294967296 = ((smallO v : Nat) : Int) := hu
  generalize smallO v = q at *
  go_enter Tryz.func86, Tryz.ntmps86
  go_wp2_with fail
  go_ret
  exact ⟨by first | rfl | (congr 2; omega), rfl⟩
def RdC (a b c d e f : Value) (wrong : Bool) : Array Value := #[a, b, c, d, e, f, .bool wrong]
structure AllD (w : World) (A : Option Addr) (us : List Wr) : Prop where
 row : 0 < us.length → ∃ g, A = some ⟨g, 0, none⟩ ∧ Ths w g us
 pl : ∀ i, i < us.length → (us.getD i default).pl = placeT ((us.map Wr.th).take i)
 top : placeT (us.map Wr.th) ≤ 1000000000000
 len : us.length ≤ 9000000
theorem AllD.same {w w' : World} {A : Option Addr} {us : List Wr} (D : AllD w A us) (h : ∀ g, A = some ⟨g, 0, none⟩ → 0 < us.length → w'.heap[g]? = w.heap[g]?) : AllD w' A us :=
 ⟨fun h0 => by obtain ⟨g, h1, h2⟩ := D.row h0; exact ⟨g, h1, h2.same (h g h1 h0)⟩, D.pl, D.top, D.len⟩
def RoopP (xg : Nat) (a b c d e f : Value) (v : Nat) (wrong : Bool) (w : World) (en : Ending) (w' : World) : Prop :=
 en = .returned (.int .u32 (v : Nat)) ∧ Blk w' xg 63 (RdC a b c d e f wrong) ∧ Fr1 xg w w'
set_option maxRecDepth 100000 in
set_option maxHeartbeats 4000000 in
theorem roop_any {w : World} {xg k : Nat} {a b c d e f : Value} {wrong : Bool} {A : Option Addr} {us : List Wr} (bx : Blk w xg 63 (RdC a b c d e f wrong)) (D : AllD w A us) (n : Nat) (hn : n < 4294967296) :
 Calls Tryz.prog 54 #[.pointer (some ⟨xg, 0, none⟩), .int .u32 n, .slice A us.length k] w (RoopP xg a b c d e f (valT (us.map Wr.th) n) (wrong || wrongV (us.map Wr.th) n) w) := by
 have hlen := D.len
 have hul : (us.map Wr.th).length = us.length := List.length_map ..
 by_cases h0 : n = 0
 ·subst h0
  have HF := Lib.hid (show RoopP xg a b c d e f (valT (us.map Wr.th) 0) (wrong || wrongV (us.map Wr.th) 0) w (.returned (.int .u32 0)) w from
   ⟨rfl, by rw [show (wrong || wrongV (us.map Wr.th) 0) = wrong by unfold wrongV wrongN; simp]; exact bx, Fr1.refl _ _⟩)
  clear D bx
  go_enter Tryz.func54, Tryz.ntmps54
  go_wp2_with fail
  go_ret
  exact HF.out
 have hz : ((n : Int) == 0) = false := by simp; omega
 by_cases he : n % 2 = 0
 ·obtain ⟨m, hm⟩ : ∃ m, n = 2 * m := ⟨n / 2, by omega⟩
  subst hm
  have hm0 : ¬ m = 0 := by omega
  have HE := Lib.hid (show valT (us.map Wr.th) (2 * m) = namedT (us.map Wr.th) m ∧ wrongV (us.map Wr.th) (2 * m) = wrongN (us.map Wr.th) m from ⟨by unfold valT; rw [if_pos he, show 2 * m / 2 = m by omega], by unfold wrongV; rw [decide_eq_true he, Bool.true_and, show 2 * m / 2 = m by omega]⟩)
  have hr : (((2 * m : Nat) : Int) % 2 == 0) = true := by simp
  have hr0 : ((2 * m : Nat) : Int) % 2 = 0 := by omega
  have hq : ((2 * m : Nat) : Int) / 2 = (m : Int) := by omega
  obtain ⟨N, hN⟩ : ∃ N, N = 2 * m := ⟨_, rfl⟩
  rw [← hN] at hr hr0 hq hz ⊢
  rw [← hN] at HE
  by_cases hbig : us.length < m
  ·have hd : decide ((us.length : Int) < (m : Int)) = true := by simp; omega
   have y6 := bx.frozen 6
   have q6 := bx.cell 6
   have HF := Lib.hid (show RoopP xg a b c d e f (valT (us.map Wr.th) N) (wrong || wrongV (us.map Wr.th) N) w (.returned (.int .u32 0)) (w.setCell ⟨xg, 6, none⟩ (.bool true)) from by
    rw [HE.out.1, HE.out.2]
    refine ⟨by unfold namedT; rw [if_neg hm0, if_pos (by rw [hul]; exact hbig)]; rfl, ?_, Fr1.set _ _ _ _⟩
    rw [show (wrong || wrongN (us.map Wr.th) m) = true by unfold wrongN; rw [hul]; simp [hbig]]
    exact bx.set_ 6 _)
   clear D h0 HE he hN hul bx
   go_enter Tryz.func54, Tryz.ntmps54
   go_wp2_with fail
   go_ret
   exact HF.out
  ·have hd : decide ((us.length : Int) < (m : Int)) = false := by simp; omega
   obtain ⟨g, hA, hrow⟩ := D.row (by omega)
   subst hA
   have hpl := D.pl (m - 1) (by omega)
   have hcl := hrow.cell (i := m - 1) (j := 7) (u := .int .i64 (us.getD (m - 1) default).pl) (by omega) (by omega) rfl
   have hp2 : (us.getD (m - 1) default).pl ≤ 1000000000000 := by rw [hpl]; exact Nat.le_trans (placeT_le _ _) D.top
   have HF := Lib.hid (show RoopP xg a b c d e f (valT (us.map Wr.th) N) (wrong || wrongV (us.map Wr.th) N) w (.returned (.int .u32 ((2 * (us.getD (m - 1) default).pl % 4294967296 : Nat) : Int))) w from by
    rw [HE.out.1, HE.out.2]
    refine ⟨?_, ?_, Fr1.refl _ _⟩
    ·unfold namedT
     rw [if_neg hm0, if_neg (by rw [hul]; omega), ← hpl]
    ·rw [show (wrong || wrongN (us.map Wr.th) m) = wrong by unfold wrongN; rw [hul]; simp; omega]
     exact bx)
   clear D hrow hpl HE
   generalize (us.getD (m - 1) default).pl = pl at *
   obtain ⟨j, rfl⟩ : ∃ j, m = j + 1 := ⟨m - 1, by omega⟩
   have hm1 : ((j + 1 : Nat) : Int) - 1 = (j : Int) := by omega
   have hm2 : IntKind.u32.wrap (((j + 1 : Nat) : Int) - 1) = (j : Int) := by show (((j + 1 : Nat) : Int) - 1) % 4294967296 = _; omega
   have hlt : (j : Int) < (us.length : Int) := by omega
   have hw1 : wrap64 (2 * (pl : Int)) = 2 * (pl : Int) := IntWalk.wrap64_in _ (by omega)
   have hu : IntKind.u32.wrap (2 * (pl : Int)) = ((2 * pl % 4294967296 : Nat) : Int) := by show (2 * (pl : Int)) % 4294967296 = _; omega
   simp only [Nat.add_sub_cancel] at hcl
   clear h0 hm0 he hN hul bx
   go_enter Tryz.func54, Tryz.ntmps54
   go_wp2_with fail
   go_ret
   refine (show ∀ z : Int, z = ((2 * pl % 4294967296 : Nat) : Int) → RoopP xg a b c d e f (valT (us.map Wr.th) N) (wrong || wrongV (us.map Wr.th) N) w (.returned (.int .u32 z)) w from fun z hz => by rw [hz]; exact HF.out) _ ?_
   first | rfl | omega
 ·have h1 : n % 2 = 1 := by omega
  have HE := Lib.hid (show valT (us.map Wr.th) n = smallO (zagI (n / 2)) ∧ (wrong || wrongV (us.map Wr.th) n) = wrong from ⟨by unfold valT; rw [if_neg he], by unfold wrongV; rw [decide_eq_false he]; simp⟩)
  have HB := Lib.hid bx
  have hr : ((n : Int) % 2 == 0) = false := by simp; omega
  have hr1 : (n : Int) % 2 = 1 := by omega
  obtain ⟨z, hzz⟩ : ∃ z, z = n / 2 := ⟨_, rfl⟩
  have hzl : z < 2147483648 := by omega
  have hzi : (n : Int) / 2 = (z : Int) := by omega
  clear D bx he hul
  by_cases hp : z % 2 = 0
  ·have HV := Lib.hid (show zagI (n / 2) = ((z / 2 : Nat) : Int) by rw [← hzz]; unfold zagI; rw [if_pos hp])
   have hm : (z : Int).tmod 2 = 0 := by have := Int.ofNat_tmod z 2; rw [hp] at this; exact this.symm
   have hq : (z : Int).tdiv 2 = ((z / 2 : Nat) : Int) := (Int.ofNat_tdiv _ _).symm
   have HS := Lib.hid (dsmall_any ((z / 2 : Nat) : Int) (by omega) (by omega) w)
   rw [HV.out] at HE
   have hyl : z / 2 < 1073741824 := by omega
   clear hp hzz h1 HV hzl
   generalize z / 2 = y at *
   generalize (z : Int) = Z at *
   have hwy : wrap64 (y : Int) = (y : Int) := IntWalk.wrap64_in _ (by omega)
   go_enter Tryz.func54, Tryz.ntmps54
   go_wp2_with fail
   refine HS.out.mono ?_
   rintro e w1 ⟨rfl, rfl⟩
   go_wp2_with fail
   go_ret
   rw [HE.out.1, HE.out.2]
   exact ⟨rfl, HB.out, Fr1.refl _ _⟩
  ·obtain ⟨y, hy⟩ : ∃ y, y = (z + 1) / 2 := ⟨_, rfl⟩
   have hyb : y ≤ 1073741824 := by omega
   have HV := Lib.hid (show zagI (n / 2) = -(y : Int) by rw [← hzz]; unfold zagI; rw [if_neg hp, hy])
   have hm : (z : Int).tmod 2 = 1 := by have := Int.ofNat_tmod z 2; rw [show z % 2 = 1 by omega] at this; exact this.symm
   have HS := Lib.hid (dsmall_any (-(y : Int)) (by omega) (by omega) w)
   have hw1 : wrap64 ((z : Int) + 1) = (z : Int) + 1 := IntWalk.wrap64_in _ (by omega)
   have hw2 : wrap64 (-((z : Int) + 1)) = -((z : Int) + 1) := IntWalk.wrap64_in _ (by omega)
   have hq : (-((z : Int) + 1)).tdiv 2 = -(y : Int) := by rw [Int.neg_tdiv, Int.tdiv_eq_ediv_of_nonneg (by omega)]; omega
   rw [HV.out] at HE
   clear hp hzz h1 HV hy
   go_enter Tryz.func54, Tryz.ntmps54
   go_wp2_with fail
   refine HS.out.mono ?_
   rintro e w1 ⟨rfl, rfl⟩
   go_wp2_with fail
   go_ret
   rw [HE.out.1, HE.out.2]
   exact ⟨rfl, HB.out, Fr1.refl _ _⟩
end
section
open Go.RowKit
attribute [local go_sem] Oper.semAt_some
structure BkSt (w0 w : World) (B bR bb mb : Nat) (v : Value) (K L : List Nat) : Prop where
 own : w.ownsRow B 72 1 v K.length (u32s K)
 box : Blk w bb 67 #[.map (some mb), v]
 res : Blk w bR 67 #[.map none, .slice none 0 0]
 map : MapU 72 w mb L
 base : Below w0.heap.size w0 w
 hB : w0.heap.size ≤ B
 top : B ≤ w.heap.size
 hR : w0.heap.size ≤ bR
 hb : w0.heap.size ≤ bb
 hm : w0.heap.size ≤ mb
 ne : bR ≠ bb
 nb : bb < B
 nR : bR < B
section
variable {w0 w w' : World} {B bR bb mb : Nat} {v v' : Value} {K L : List Nat}
theorem BkSt.below (S : BkSt w0 w B bR bb mb v K L) (hb : Below w.heap.size w w') : BkSt w0 w' B bR bb mb v K L :=
 ⟨own_sameI S.own (fun k hk => hb.block k (S.own.lt k hk).2), S.box.below hb S.box.lt, S.res.below hb S.res.lt, S.map.below hb, below_top S.base hb, S.hB, Nat.le_trans S.top hb.size, S.hR, S.hb, S.hm, S.ne, S.nb, S.nR⟩
theorem BkSt.app {x : Nat} (S : BkSt w0 w B bR bb mb v K L) (ho : w'.ownsRow B 72 1 v' (K.length + 1) (u32s K ++ u32s [x])) (hg : w.grownBy w' v.ownBlock) : BkSt w0 (w'.setCell ⟨bb, 1, none⟩ v') B bR bb mb v' (K ++ [x]) L := by
 have hk : ∀ g, g < B → w'.heap[g]? = w.heap[g]? := fun g hgB => hg.block g (by have := S.top; omega) (fun e => by have := (S.own.lt g (by first | exact e | exact e.symm)).1; omega)
 have hfar : ∀ g, g ≠ bb → (w'.setCell ⟨bb, 1, none⟩ v').heap[g]? = w'.heap[g]? := fun g hne => Below.heap_setCell w' ⟨bb, 1, none⟩ v' g hne
 have hsz : (w'.setCell ⟨bb, 1, none⟩ v').heap.size = w'.heap.size := by simp [World.setCell]
 refine ⟨?_, (S.box.same (hk _ S.nb)).set_ 1 v', S.res.same ((hfar _ S.ne).trans (hk _ S.nR)), S.map.same ?_, (S.base.grown hg S.base.size (fun k e => by have := (S.own.lt k e).1; have := S.hB; omega)).setCell (p := ⟨bb, 1, none⟩) S.hb v', S.hB, by rw [hsz]; exact Nat.le_trans S.top hg.size, S.hR, S.hb, S.hm, S.ne, S.nb, S.nR⟩
 ·have h1 := own_sameI (w' := w'.setCell ⟨bb, 1, none⟩ v') ho (fun k e => hfar k (fun e2 => by have := (ho.lt k e).1; have := S.nb; omega))
  simpa [u32s] using h1
 ·obtain ⟨es, c, hm⟩ := S.map.obj
  have h1 : w'.heap[mb]? = w.heap[mb]? := hg.block mb S.map.lt (fun e => own_typeI S.own hm (fun cs e2 => by cases e2) (by first | exact e | exact e.symm))
  refine (hfar _ (fun e => ?_)).trans h1
  subst e
  have h2 := S.box
  unfold Blk at h2
  rw [hm] at h2
  injection h2 with h2
  cases h2
theorem BkSt.room (S : BkSt w0 w B bR bb mb v K L) (hg : w.grownBy w' v.ownBlock) : w'.frozen? ⟨bb, 1, none⟩ = false ∧ w'.cell? ⟨bb, 1, none⟩ = some v := by
 have hk : w'.heap[bb]? = w.heap[bb]? := hg.block bb S.box.lt (fun e => by have := (S.own.lt bb (by first | exact e | exact e.symm)).1; have := S.nb; omega)
 have h := S.box.same hk
 exact ⟨h.frozen 1, h.cell 1⟩
theorem BkSt.put {x : Nat} (S : BkSt w0 w B bR bb mb v K L) (hM : MapU 72 w' mb (L ++ [x])) (hg : w.grownBy w' (some mb)) : BkSt w0 w' B bR bb mb v K (L ++ [x]) := by
 obtain ⟨es, c, hm⟩ := S.map.obj
 have hk : ∀ g, g < w.heap.size → g ≠ mb → w'.heap[g]? = w.heap[g]? := fun g h1 h2 => hg.block g h1 (fun e => h2 (by injection e))
 have hb : ∀ g t cs, Blk w g t cs → g ≠ mb := fun g t cs b e => by
  subst e
  unfold Blk at b
  rw [hm] at b
  injection b with b
  cases b
 refine ⟨own_sameI S.own (fun k e => hk k (S.own.lt k e).2 (fun e2 => own_typeI S.own hm (fun cs e3 => by cases e3) (e2 ▸ e))), S.box.same (hk _ S.box.lt (hb _ _ _ S.box)), S.res.same (hk _ S.res.lt (hb _ _ _ S.res)), hM, S.base.grown hg S.base.size (fun k e => by injection e with e; have := S.hm; omega), S.hB, Nat.le_trans S.top hg.size, S.hR, S.hb, S.hm, S.ne, S.nb, S.nR⟩
end
def RBookP (L : List Nat) (w : World) (e : Ending) (w' : World) : Prop :=
 ∃ mb v, e = .returned (bookV mb v) ∧ MapU 72 w' mb L ∧ w'.ownsRow w.heap.size 72 1 v L.length (u32s L) ∧ w.heap.size ≤ mb ∧ Below w.heap.size w w'
set_option maxRecDepth 100000 in
set_option maxHeartbeats 4000000 in
theorem rbook_any {w : World} {p : HP} {h : HM} {l : List Ob} (R : RAt w p h) (G : h.Good l) : Calls Tryz.prog 27 #[ptr p.g] w (RBookP (oopsL l) w) := by
 have hroom := G.fit.room
 have hhi := G.fit.hi
 have hlen := oopsL_le G
 have HH := Lib.hid (fun (w' : World) (hb : Below w.heap.size w w') => R.below hb)
 have HF := Lib.hid (fun (w' : World) (hb : Below w.heap.size w w') => rfirst_any (R.below hb) G.fit)
 have HN := Lib.hid (fun (w' : World) (hb : Below w.heap.size w w') (k : Nat) (hk : k < l.length) => rnext_any (R.below hb) G.fit G.laid.heads (2 * posOf (l.take k)) (by have := posOf_take_lt G k hk; omega) (isB_at G k hk))
 unfold ptr at HF HN ⊢
 have hmm := @run_makeMap Tryz.prog
 clear R
 go_enter Tryz.func27, Tryz.ntmps27
 obtain ⟨i0, hi0, hz0, hz1, hz2⟩ := info_parts info_oop
 go_wp2_with fail
 have hB0 : Below w.heap.size w (((w.alloc (.cells #[.map none, .slice none 0 0] 67)).alloc (.map #[] 0)).alloc (.cells #[.map (some (w.heap.size + 1)), .slice none 0 0] 67)) :=
  (((Below.refl _ w).alloc (Nat.le_refl _) _).alloc (by simp) _).alloc (by simp; omega) _
 have hS0 : BkSt w (((w.alloc (.cells #[.map none, .slice none 0 0] 67)).alloc (.map #[] 0)).alloc (.cells #[.map (some (w.heap.size + 1)), .slice none 0 0] 67)) (w.heap.size + 3) w.heap.size (w.heap.size + 1 + 1) (w.heap.size + 1) (.slice none 0 0) [] [] := by
  have b2 := Blk.new ((w.alloc (.cells #[.map none, .slice none 0 0] 67)).alloc (.map #[] 0)) 67 #[.map (some (w.heap.size + 1)), .slice none 0 0]
  have m1 := MapU.made (w.alloc (.cells #[.map none, .slice none 0 0] 67)) 72
  rw [World.size_alloc, World.size_alloc] at b2
  rw [World.size_alloc] at m1
  exact ⟨⟨rfl, .inl ⟨rfl, rfl⟩⟩, b2, ((Blk.new w _ _).alloc _).alloc _, m1.below ((Below.refl _ _).alloc (Nat.le_refl _) _), hB0, by omega, by simp, Nat.le_refl _, by omega, by omega, by omega, by omega, by omega⟩
 have HS0 := Lib.hid hS0
 have hf := HF.out _ hB0
 rw [first_oopI G] at hf
 clear hS0 HF
 generalize ((w.alloc (.cells #[.map none, .slice none 0 0] 67)).alloc (.map #[] 0)).alloc (.cells #[.map (some (w.heap.size + 1)), .slice none 0 0] 67) = W0 at *
 refine hf.mono ?_
 rintro e W1 ⟨rfl, rfl⟩
 clear hf hB0
 go_wp2_with fail
 go_loopw [4] (fun o wr => ∃ (k : Nat) (v : Value), k ≤ l.length ∧ o = .int .u32 ((oopI l k : Nat) : Int) ∧ BkSt w wr (w.heap.size + 3) w.heap.size (w.heap.size + 1 + 1) (w.heap.size + 1) v ((oopsL l).take k) ((oopsL l).take k)) (fun o _ => mesO o)
 case atStart => exact ⟨0, _, by omega, rfl, HS0.out⟩
 case round =>
  clear HS0
  obtain ⟨k, v, hk, rfl, S⟩ := hrel
  by_cases hlt : k < l.length
  ·have hO := Lib.hid (show oopI l k = 2 * posOf (l.take k) by unfold oopI; rw [if_pos hlt])
   have hpl := posOf_take_lt G k hlt
   have hpp := posOf_pos (l.take k)
   have HME := Lib.hid (show oopI l (k + 1) = 0 ∨ 2 * posOf (l.take k) < oopI l (k + 1) by
    unfold oopI
    split
    ·have := posOf_take_succ k hlt; right; omega
    ·exact .inl rfl)
   have HMX := Lib.hid (show oopI l (k + 1) < 4294967296 by
    unfold oopI
    split
    ·rename_i h1; have := posOf_take_lt G (k + 1) h1; omega
    ·omega)
   have HTK := Lib.hid (oopsL_take1 hlt)
   have HNW := Lib.hid (oopsL_new hlt)
   have HKL := Lib.hid (show ((oopsL l).take k).length = k by rw [List.length_take, oopsL_len]; omega)
   have HST := Lib.hid (show (stL ((oopsL l).take k)).2.1 = k by rw [(stL_nodup _ ((List.take_sublist k _).nodup (oopsL_nodup l))).1]; exact HKL.out)
   have HNX := Lib.hid (fun (w' : World) (hb : Below w.heap.size w w') => HN.out w' hb k hlt)
   rw [next_oopI G k hlt] at HNX
   rw [hO.out]
   have HOB := Lib.hid (show 2 * posOf (l.take k) < 4294967296 ∧ 0 < 2 * posOf (l.take k) by omega)
   have ho : (((2 * posOf (l.take k) : Nat) : Int) != 0) = true := by simp; omega
   have hkk : k ≤ 1048576 := by rw [oopsL_len] at hlen; omega
   clear hpl hpp hO HN
   generalize hq : 2 * posOf (l.take k) = o at *
   clear hq
   generalize hK : (oopsL l).take k = K at *
   clear hK
   have hown := S.own
   rw [HKL.out] at hown
   obtain ⟨A, c, rfl, -⟩ := own_sliceI hown
   have HO := Lib.hid hown
   have HS := Lib.hid S
   have c0 := S.box.cell 0
   have c1 := S.box.cell 1
   have z1 := S.box.frozen 1
   have hbt := S.box.lt
   clear hown S
   go_upto_region 6 with (at_builtin; refine wpList_append_any _ rfl (.tmp 15) (.tmp 17) _ rfl (w.heap.size + 3) 72 i0 _ 1 4 Tryz.underlying45 hi0 hz0 hz1 hz2 rfl (by omega) (.slice A k c) k _ rfl (HO.out.alloc _) (wr.heap.size + 1) (some ⟨wr.heap.size, 0, none⟩) 1 1 (u32s [o]) rfl ⟨rfl, fun _ => ⟨_, rfl, by simp, cell_one_new _ _ _⟩⟩ (one_u32s _) (by simp only [maxLen]; omega) (by omega) (by have := HS.out.top; simp; omega) ?_; intro v1 w5 hown5 hgrow hat5; obtain ⟨g5, c5, rfl, -, -, hge5⟩ := Row.of_any hown5 (by omega); have hS4 := HS.out.below ((Below.refl _ _).alloc (Nat.le_refl _) (.cells #[.int .u32 (o : Int)] 72)); obtain ⟨hfz, hcu⟩ := hS4.room hgrow; have HS5 := Lib.hid (hS4.app (x := o) (by rw [HKL.out]; exact hown5) hgrow); clear hS4 hown5 hgrow hat5 hge5 c0 c1 z1)
   clear hfz hcu
   generalize w5.setCell ⟨w.heap.size + 1 + 1, 1, none⟩ (.slice (some ⟨g5, 0, none⟩) (k + 1) c5) = W6 at *
   have c0 := HS5.out.box.cell 0
   have c1 := HS5.out.box.cell 1
   have hwk : IntKind.u32.wrap ((k : Int) + 1) = (k : Int) + 1 := by show ((k : Int) + 1) % 4294967296 = _; omega
   obtain ⟨W7, hpt, HM7, hg7⟩ := HS5.out.map.put oopTyU HOB.out.1 (by rw [HKL.out]; omega)
   rw [HST.out] at hpt
   have HS7 := Lib.hid (HS5.out.put HM7 hg7)
   clear HM7 hg7 HS5
   go_wp2_with fail
   refine (HNX.out _ HS7.out.base).mono ?_
   rintro e W8 ⟨rfl, hb8⟩
   have HS8 := Lib.hid (HS7.out.below hb8)
   clear HS7 hb8 c0 c1 hpt
   generalize hno : oopI l (k + 1) = no at *
   have HNO := Lib.hid hno
   clear hno
   go_wp2_with fail
   go_roundw
   case rel => exact ⟨k + 1, _, by omega, by rw [HNO.out], by rw [HTK.out]; exact HS8.out⟩
   case measure => exact mesO_lt HME.out HOB.out.2 HOB.out.1 HMX.out
  ·obtain rfl : k = l.length := by omega
   have hO := Lib.hid (show oopI l l.length = 0 by unfold oopI; rw [if_neg hlt])
   rw [hO.out]
   have hS := S
   rw [List.take_of_length_le (by rw [oopsL_len]; omega)] at hS
   obtain ⟨A, c, rfl, -⟩ := own_sliceI hS.own
   have HS := Lib.hid hS
   have c0 := hS.box.cell 0
   have c1 := hS.box.cell 1
   have d0 := hS.res.cell 0
   have d1 := hS.res.cell 1
   have z0 := hS.res.frozen 0
   have z1 := hS.res.frozen 1
   have BF := Lib.hid ((hS.res.set_ 0 (.map (some (w.heap.size + 1)))).set_ 1 (.slice A (oopsL l).length c))
   clear S hS hlt hk
   go_wp2_with fail
   have f0 := BF.out.cell 0
   have f1 := BF.out.cell 1
   refine bodyPost_ret (v := .agg #[.map (some (w.heap.size + 1)), .slice A (oopsL l).length c]) (by simp [results, Tryz.results27, go_sem, f0, f1]) rfl ?_
   have hfar : ∀ g, g ≠ w.heap.size → ((wr.setCell ⟨w.heap.size, 0, none⟩ (.map (some (w.heap.size + 1)))).setCell ⟨w.heap.size, 1, none⟩ (.slice A (oopsL l).length c)).heap[g]? = wr.heap[g]? := fun g hne =>
    (Below.heap_setCell _ ⟨w.heap.size, 1, none⟩ _ g hne).trans (Below.heap_setCell _ ⟨w.heap.size, 0, none⟩ _ g hne)
   exact ⟨w.heap.size + 1, _, rfl, HS.out.map.same (hfar _ (by omega)), own_lessI (own_sameI HS.out.own (fun k e => hfar k (by have := (HS.out.own.lt k e).1; omega))) (by omega), by omega, (HS.out.base.setCell (p := ⟨w.heap.size, 0, none⟩) (Nat.le_refl _) _).setCell (p := ⟨w.heap.size, 1, none⟩) (Nat.le_refl _) _⟩
end
section
open Go.RowKit
attribute [local go_sem] Oper.semAt_some
theorem ibM_at (ys : List Nat) : ∀ i, i < 4 * ys.length → (bytesM ys)[i]? = some (byteOf (ys.getD (i / 4) 0) (i % 4)) := by
 intro i hi
 have h := bytesM_getD4 ys (i / 4) (by omega) (i % 4) (by omega)
 have hl : i < (bytesM ys).length := by rw [bytesM_len]; exact hi
 rw [show 4 * (i / 4) + i % 4 = i by omega, List.getD_eq_getElem?_getD, List.getElem?_eq_getElem hl] at h
 rw [List.getElem?_eq_getElem hl]
 simp only [Option.getD_some] at h
 rw [h]
 unfold byteOf bytes4
 have hr : i % 4 = 0 ∨ i % 4 = 1 ∨ i % 4 = 2 ∨ i % 4 = 3 := by omega
 rcases hr with e | e | e | e <;> rw [e] <;> simp
section
variable {w : World} {p : HP} {h : HM} {l : List Ob}
theorem hdAt_at (G : h.Good l) (k : Nat) (hk : k < l.length) : h.hdAt (2 * posOf (l.take k) / 2) := by
 have hb := isB_at G k hk
 unfold HM.isB at hb
 simp only [Bool.and_eq_true] at hb
 exact G.laid.heads _ hb.2
theorem roget_any (R : RAt w p h) (G : h.Good l) (k : Nat) (hk : k < l.length) (i : Nat) (hi : i < (l[k]).fs.length) (hf : (l[k]).x.fmt = 1 ∨ (l[k]).x.fmt = 4) (ho : 2 * posOf (l.take k) < 4294967296) :
 Calls Tryz.prog 64 #[ptr p.g, .int .u32 (2 * posOf (l.take k) : Nat), .int .i64 i] w (Told (.tuple #[.int .u32 ((l[k]).fs.getD i 0 : Nat), .int .i64 0]) w) := by
 obtain ⟨h1, K, h3, h4, h5⟩ := ob_at G k hk
 have hz := ok_size K
 have hG := rget_any R G.fit G.laid.heads _ ho (i : Int) (by omega)
 have hln : (l[k]).x.len = (l[k]).fs.length := by unfold Hd.len; rw [if_neg (by omega), K.size]
 have he : h.lookE (2 * posOf (l.take k)) (i : Int) [1, 4] = 0 := by
  unfold HM.lookE
  rw [h4, h5, if_neg (by decide), if_neg (by rcases hf with e | e <;> rw [e] <;> decide), if_neg (by omega)]
 unfold HM.readN at hG
 rw [he, if_pos rfl, Int.toNat_natCast, h3 i hi] at hG
 exact hG
theorem roword_any (R : RAt w p h) (G : h.Good l) (k : Nat) (hk : k < l.length) (i : Nat) (hi : i < (l[k]).fs.length) (hf : (l[k]).x.fmt = 3) (ho : 2 * posOf (l.take k) < 4294967296) :
 Calls Tryz.prog 63 #[ptr p.g, .int .u32 (2 * posOf (l.take k) : Nat), .int .i64 i] w (Told (.tuple #[.int .u32 ((l[k]).fs.getD i 0 : Nat), .int .i64 0]) w) := by
 obtain ⟨h1, K, h3, h4, h5⟩ := ob_at G k hk
 have hz := ok_size K
 have hG := rword_any R G.fit G.laid.heads _ ho (i : Int) (by omega)
 have hln : (l[k]).x.len = (l[k]).fs.length := by unfold Hd.len; rw [if_neg (by omega), K.size]
 have he : h.lookE (2 * posOf (l.take k)) (i : Int) [3] = 0 := by
  unfold HM.lookE
  rw [h4, h5, if_neg (by decide), if_neg (by rw [hf]; decide), if_neg (by omega)]
 unfold HM.readN at hG
 rw [he, if_pos rfl, Int.toNat_natCast, h3 i hi] at hG
 exact hG
theorem robyte_any (R : RAt w p h) (G : h.Good l) (k : Nat) (hk : k < l.length) (i : Nat) (hi : i < (l[k]).x.len) (hf : (l[k]).x.fmt = 2) (ho : 2 * posOf (l.take k) < 4294967296) :
 Calls Tryz.prog 62 #[ptr p.g, .int .u32 (2 * posOf (l.take k) : Nat), .int .i64 i] w (Told (.tuple #[.int .u8 ((bytesM (l[k]).fs).getD i 0 : Nat), .int .i64 0]) w) := by
 obtain ⟨h1, K, h3, h4, h5⟩ := ob_at G k hk
 have hz := ok_size K
 have hln : (l[k]).x.len = 4 * (l[k]).fs.length - (l[k]).x.spare := by unfold Hd.len; rw [if_pos hf, K.size]
 have hG := rbyte_any R G.fit G.laid.heads _ ho (i : Int) (by omega)
 have he : h.lookE (2 * posOf (l.take k)) (i : Int) [2] = 0 := by
  unfold HM.lookE
  rw [h4, h5, if_neg (by decide), if_neg (by rw [hf]; decide), if_neg (by omega)]
 have hb : (bytesM (l[k]).fs).getD i 0 = fb h (2 * posOf (l.take k)) i := by
  rw [List.getD_eq_getElem?_getD, ibM_at _ i (by omega)]
  unfold fb
  rw [h3 (i / 4) (by omega)]
  rfl
 unfold HM.byteN at hG
 rw [he, if_pos rfl, Int.toNat_natCast, ← hb] at hG
 exact hG
end
structure ROb (w2 W : World) (B bk mb : Nat) (va : Value) (b9 : Nat) (X : Hd) (v : Value) (bs : List Nat) : Prop where
 rb : RB w2 W B v bs
 bk : Blk W bk 67 #[.map (some mb), va]
 hd : Blk W b9 103 X.cells
section
variable {w2 W W' : World} {B bk mb b9 : Nat} {va v v' : Value} {X : Hd} {bs cs : List Nat} {e : Ending}
theorem ROb.below (S : ROb w2 W B bk mb va b9 X v bs) (hb : Below W.heap.size W W') : ROb w2 W' B bk mb va b9 X v bs := ⟨S.rb.below hb, S.bk.below hb S.bk.lt, S.hd.below hb S.hd.lt⟩
theorem ROb.bytes (S : ROb w2 W B bk mb va b9 X v bs) (h : BytesB B v bs cs W e W') : ∃ v', e = .returned v' ∧ ROb w2 W' B bk mb va b9 X v' (bs ++ cs) := by
 obtain ⟨v', rfl, C⟩ := S.rb.bytes h
 exact ⟨v', rfl, C, h.blk S.bk (own_blkI S.rb.own S.bk (by decide)), h.blk S.hd (own_blkI S.rb.own S.hd (by decide))⟩
theorem ROb.grown (S : ROb w2 W B bk mb va b9 X v bs) (C : RB w2 W' B v' cs) (hg : W.grownBy W' v.ownBlock) : ROb w2 W' B bk mb va b9 X v' cs :=
 ⟨C, S.bk.same (hg.block bk S.bk.lt (fun e => own_blkI S.rb.own S.bk (by decide) (by first | exact e | exact e.symm))), S.hd.same (hg.block b9 S.hd.lt (fun e => own_blkI S.rb.own S.hd (by decide) (by first | exact e | exact e.symm)))⟩
end
set_option maxRecDepth 100000 in
set_option maxHeartbeats 8000000 in
theorem robject_any {w2 w : World} {p : HP} {h : HM} {l : List Ob} {mb B : Nat} {va v : Value} {bs : List Nat} (R : RAt w2 p h) (G : h.Good l) (M : MapU 72 w2 mb (oopsL l)) (C : RB w2 w B v bs) (hn : bs.length ≤ 500000000000) (kk : Nat) (hkk : kk < l.length) :
 Calls Tryz.prog 30 #[bookV mb va, v, ptr p.g, .int .u32 (2 * posOf (l.take kk) : Nat)] w (fun e w' => ∃ v', e = .returned v' ∧ RB w2 w' B v' (bs ++ objB' (oopsL l) l[kk])) := by
 obtain ⟨hfl, hok, hfw, hib, hhd⟩ := ob_at G kk hkk
 have hpl := posOf_take_lt G kk hkk
 have hroom := G.fit.room
 have hhi := G.fit.hi
 have ho : 2 * posOf (l.take kk) < 4294967296 := by omega
 have hL := oopsL_le G
 have hnd := oopsL_nodup l
 have h00 := oopsL_zero l
 have hd := hdAt_at G kk hkk
 have HHD := Lib.hid (fun W' (hb : Below w2.heap.size w2 W') => rheader_any (R.below hb) G.fit _ ho hd)
 have HLN := Lib.hid (fun W' (hb : Below w2.heap.size w2 W') => rlen_any (R.below hb) G.fit _ ho hd)
 rw [hhd] at HHD HLN
 have HGT := Lib.hid (fun W' (hb : Below w2.heap.size w2 W') i hi hf => roget_any (R.below hb) G kk hkk i hi hf ho)
 have HWD := Lib.hid (fun W' (hb : Below w2.heap.size w2 W') i hi hf => roword_any (R.below hb) G kk hkk i hi hf ho)
 have HBY := Lib.hid (fun W' (hb : Below w2.heap.size w2 W') i hi hf => robyte_any (R.below hb) G kk hkk i hi hf ho)
 have HMP := Lib.hid (fun W' (hb : Below w2.heap.size w2 W') => M.below hb)
 have HVL := Lib.hid (fun W' (hb : Below w2.heap.size w2 W') o (ho : o < 4294967296) => rbvalue_any (va := va) (M.below hb) hL hnd h00 o ho)
 have HNB := Lib.hid (fun (w' : World) (v' : Value) (bs' : List Nat) (C : RB w2 w' B v' bs') (hn' : bs'.length ≤ 10000000000000) (x : Nat) (hx : x < 4294967296) => rnumber_any C.own C.top hn' x hx)
 have HLK := Lib.hid (fun W' (hb : Below w2.heap.size w2 W') o (ho : o < 4294967296) => (M.below hb).look hnd oopTyU (x := o) ho)
 unfold ptr at HHD HLN HGT HWD HBY ⊢
 unfold bookV at HVL ⊢
 clear R G M hfl hfw hib hhd hpl hd
 generalize (l[kk]) = b at *
 generalize 2 * posOf (l.take kk) = o at *
 generalize oopsL l = L at *
 have hcl := hok.fit.cls
 have hnl : numL L b.x.cls < 4294967296 := by have := numL_le L b.x.cls; omega
 have hsz2 := ok_size hok
 have HSZQ := Lib.hid hok.size
 have hsz3 : b.x.size ≤ 65535 := by rw [hok.size]; exact hsz2
 have hser := hok.fit.ser
 have hxl : b.x.len ≤ 300000 := by unfold Hd.len; split <;> omega
 have hfm := hok.fit.fmt
 have hfp := hok.fit.spare
 have HBN := Lib.hid (show (cnt7 (numL L b.x.cls)).length ≤ 5 ∧ (cnt7 b.x.size).length ≤ 5 ∧ (cnt7 b.x.ser).length ≤ 5 from ⟨cnt7I_len5 hnl, cnt7I_len5 (by omega), cnt7I_len5 hser⟩)
 have HEQ := Lib.hid (show objB' L b = cnt7 (numL L b.x.cls) ++ ([b.x.fmt + 16 * b.x.spare] ++ (cnt7 b.x.size ++ (cnt7 b.x.ser ++ payB L b))) from rfl)
 have HC0 := Lib.hid (C.alloc (.cells #[.map (some mb), va] 67))
 have HV := Lib.hid (show b.x.val = .agg #[.int .i64 b.x.size, .int .i64 b.x.fmt, .int .i64 b.x.spare, .int .u32 b.x.cls, .int .u32 b.x.ser] from rfl)
 have BK0 := Blk.new w 67 #[.map (some mb), va]
 have hBw : B ≤ w.heap.size := C.top
 have hwsz : IntKind.u32.wrap (b.x.size : Int) = (b.x.size : Int) := by show (b.x.size : Int) % 4294967296 = _; omega
 clear C
 go_enter Tryz.func30, Tryz.ntmps30
 go_wp2_with fail
 have HBK := Lib.hid BK0
 clear BK0
 have hbk : w.heap.size < (w.alloc (.cells #[.map (some mb), va] 67)).heap.size := by simp
 generalize w.alloc (.cells #[.map (some mb), va] 67) = W0 at *
 refine (HHD.out _ HC0.out.base).mono ?_
 rintro e W1 ⟨rfl, hb1⟩
 rw [HV.out]
 have HS := Lib.hid (show ROb w2 (W1.alloc (.cells b.x.cells 103)) B w.heap.size mb va W1.heap.size b.x v bs from ⟨(HC0.out.below hb1).alloc _, (HBK.out.below hb1 HBK.out.lt).alloc _, Blk.new W1 _ _⟩)
 unfold Hd.cells at HS
 clear HC0 HBK hb1 hbk
 go_upto_region 2 with fail
 generalize W1.alloc (.cells #[.int .i64 b.x.size, .int .i64 b.x.fmt, .int .i64 b.x.spare, .int .u32 b.x.cls, .int .u32 b.x.ser] 103) = W2 at *
 have q0 := HS.out.bk.cell 0
 have q1 := HS.out.bk.cell 1
 have x0 := HS.out.hd.cell 0
 have x1 := HS.out.hd.cell 1
 have x2 := HS.out.hd.cell 2
 have x3 := HS.out.hd.cell 3
 have x4 := HS.out.hd.cell 4
 unfold Hd.cells at x0 x1 x2 x3 x4
 have hlk := HLK.out _ HS.out.rb.base _ hcl
 go_wp2_with fail
 refine (HNB.out _ _ _ HS.out.rb (by omega) _ hnl).mono ?_
 rintro e w3 hB3
 obtain ⟨v3, rfl, S3⟩ := HS.out.bytes hB3
 clear HS q0 q1 x0 x1 x2 x3 x4 hlk hB3
 have HS := Lib.hid S3
 clear S3
 have q0 := HS.out.bk.cell 0
 have q1 := HS.out.bk.cell 1
 have x0 := HS.out.hd.cell 0
 have x1 := HS.out.hd.cell 1
 have x2 := HS.out.hd.cell 2
 have x3 := HS.out.hd.cell 3
 have x4 := HS.out.hd.cell 4
 unfold Hd.cells at x0 x1 x2 x3 x4
 go_wp2_with (at_builtin; refine wpList_app_RB (.tmp 27) (.tmp 35) (HS.out.rb.alloc _) (reads_one w3 (b.x.fmt + 16 * b.x.spare)) rfl rfl (by have := HBN.out; simp only [List.length_append]; omega) rfl rfl ?_; intro v7 w7 C7 hg7; have HS7 := Lib.hid ((HS.out.below ((Below.refl _ _).alloc (Nat.le_refl _) (.cells #[.int .u8 ((b.x.fmt + 16 * b.x.spare : Nat) : Int)] 5))).grown C7 hg7); clear C7 hg7 HS q0 q1 x0 x1 x2 x3 x4; have HS := Lib.hid HS7.out; clear HS7; have x0 := HS.out.hd.cell 0; unfold Hd.cells at x0)
 refine (HNB.out _ _ _ HS.out.rb (by have := HBN.out; simp only [List.length_append, List.length_cons, List.length_nil]; omega) b.x.size (by omega)).mono ?_
 rintro e w4 hB4
 obtain ⟨v4, rfl, S4⟩ := HS.out.bytes hB4
 clear HS x0 hB4
 have HS := Lib.hid S4
 clear S4
 have q0 := HS.out.bk.cell 0
 have q1 := HS.out.bk.cell 1
 have x0 := HS.out.hd.cell 0
 have x1 := HS.out.hd.cell 1
 have x2 := HS.out.hd.cell 2
 have x3 := HS.out.hd.cell 3
 have x4 := HS.out.hd.cell 4
 unfold Hd.cells at x0 x1 x2 x3 x4
 go_wp2_with fail
 refine (HNB.out _ _ _ HS.out.rb (by have := HBN.out; simp only [List.length_append, List.length_cons, List.length_nil]; omega) b.x.ser hser).mono ?_
 rintro e w5 hB5
 obtain ⟨v5, rfl, S5⟩ := HS.out.bytes hB5
 clear HS q0 q1 x0 x1 x2 x3 x4 hB5
 have HS := Lib.hid S5
 clear S5
 generalize hbs4 : bs ++ cnt7 (numL L b.x.cls) ++ [b.x.fmt + 16 * b.x.spare] ++ cnt7 b.x.size ++ cnt7 b.x.ser = bs4 at *
 have HBS := Lib.hid hbs4
 have HB4L := Lib.hid (show bs4.length ≤ 500000000100 by rw [← hbs4]; obtain ⟨a1, a2, a3⟩ := HBN.out; simp only [List.length_append, List.length_cons, List.length_nil]; omega)
 clear hbs4
 have q0 := HS.out.bk.cell 0
 have q1 := HS.out.bk.cell 1
 have x0 := HS.out.hd.cell 0
 have x1 := HS.out.hd.cell 1
 have x2 := HS.out.hd.cell 2
 have x3 := HS.out.hd.cell 3
 have x4 := HS.out.hd.cell 4
 unfold Hd.cells at x0 x1 x2 x3 x4
 by_cases h2 : b.x.fmt = 2
 ·have hd2 : ((b.x.fmt : Int) == 2) = true := by simp; omega
  have HPE := Lib.hid (show payB L b = (bytesM b.fs).take b.x.len by unfold payB; rw [if_pos h2])
  have HF := Lib.hid h2
  clear h2
  go_wp2_with fail
  go_loopw [1, 10] (fun b' i wr => ∃ k : Nat, i = .int .i64 k ∧ k ≤ b.x.len ∧ ROb w2 wr B w.heap.size mb va W1.heap.size b.x b' (bs4 ++ (bytesM b.fs).take k)) (fun _ i _ => b.x.len - (intOf i).toNat)
  case atStart => exact ⟨0, rfl, Nat.zero_le _, by simpa using HS.out⟩
  case round =>
   clear HS q0 q1 x0 x1 x2 x3 x4
   obtain ⟨k, rfl, hk, hS⟩ := hrel
   have HS := Lib.hid hS
   clear hS
   by_cases hkn : k < b.x.len
   ·have hd : decide ((k : Int) < (b.x.len : Int)) = true := by simp; omega
    have hbl : (bytesM b.fs).length = 4 * b.fs.length := bytesM_len _
    have hln : b.x.len = 4 * b.fs.length - b.x.spare := by unfold Hd.len; rw [if_pos HF.out, HSZQ.out]
    have hy : (bytesM b.fs).getD k 0 < 256 := by
     rw [List.getD_eq_getElem?_getD, List.getElem?_eq_getElem (by omega)]
     obtain ⟨x, _, h1⟩ := List.mem_flatMap.1 (show (bytesM b.fs)[k] ∈ bytesM b.fs from List.getElem_mem (by omega))
     simp [bytes4] at h1
     simp
     omega
    have HTK := Lib.hid (show (bytesM b.fs).take (k + 1) = (bytesM b.fs).take k ++ [(bytesM b.fs).getD k 0] by rw [List.take_add_one, List.getD_eq_getElem?_getD, List.getElem?_eq_getElem (by omega)]; simp)
    have HPL := Lib.hid (show ((bytesM b.fs).take k).length ≤ 4 * 65535 by rw [List.length_take]; omega)
    have HG := Lib.hid (fun W' hb => HBY.out W' hb k hkn HF.out)
    clear hbl hln
    generalize (bytesM b.fs).getD k 0 = y at *
    generalize (bytesM b.fs).take k = pk at *
    clear hk
    go_wp2_with fail
    refine (HLN.out _ HS.out.rb.base).mono ?_
    rintro e w5 ⟨rfl, hb5⟩
    have HS5 := Lib.hid (HS.out.below hb5)
    have x1 := HS5.out.hd.cell 1
    unfold Hd.cells at x1
    clear hb5 HS
    go_wp2_with fail
    refine (HG.out _ HS5.out.rb.base).mono ?_
    rintro e w6 ⟨rfl, hb6⟩
    have HS6 := Lib.hid (HS5.out.below hb6)
    clear hb6 HS5 x1
    go_wp2_with (at_builtin; refine wpList_app_RB (.tmp 76) (.tmp 78) (HS6.out.rb.alloc _) (reads_one w6 y) rfl rfl (by have := HB4L.out; have := HPL.out; simp only [List.length_append]; omega) rfl rfl ?_; intro v7 w7 C7 hg7; have HS7 := Lib.hid ((HS6.out.below ((Below.refl _ _).alloc (Nat.le_refl _) (.cells #[.int .u8 (y : Int)] 5))).grown C7 hg7); clear C7 hg7)
    go_roundw
    case rel => exact ⟨k + 1, by go_num, by omega, by rw [HTK.out, ← List.append_assoc]; exact HS7.out⟩
    case measure => simp [intOf]; omega
   ·obtain rfl : k = b.x.len := by omega
    have hd : decide ((b.x.len : Int) < (b.x.len : Int)) = false := by simp
    have HS9 := Lib.hid HS.out
    clear hk hkn
    go_wp2_with fail
    refine (HLN.out _ HS.out.rb.base).mono ?_
    rintro e w5 ⟨rfl, hb5⟩
    have HS5 := Lib.hid (HS9.out.rb.below hb5)
    clear hb5 HS HS9
    go_wp2_with fail
    go_ret
    have hfin := HS5.out
    refine ⟨_, rfl, ?_⟩
    rw [HEQ.out, HPE.out]
    rw [← HBS.out] at hfin
    simp only [List.append_assoc] at hfin ⊢
    exact hfin
 ·have hd2 : ((b.x.fmt : Int) == 2) = false := by simp; omega
  have HF2 := Lib.hid h2
  by_cases h3 : b.x.fmt = 3
  ·have hd3 : ((b.x.fmt : Int) == 3) = true := by simp; omega
   have HPE := Lib.hid (show payB L b = b.fs.flatMap cnt7 by unfold payB; rw [if_neg h2, if_pos h3])
   have HF := Lib.hid h3
   clear h2 h3
   go_wp2_with fail
   go_loopw [1, 10] (fun b' i wr => ∃ k : Nat, i = .int .i64 k ∧ k ≤ b.x.len ∧ ROb w2 wr B w.heap.size mb va W1.heap.size b.x b' (bs4 ++ (b.fs.take k).flatMap cnt7)) (fun _ i _ => b.x.len - (intOf i).toNat)
   case atStart => exact ⟨0, rfl, Nat.zero_le _, by simpa using HS.out⟩
   case round =>
    clear HS q0 q1 x0 x1 x2 x3 x4
    obtain ⟨k, rfl, hk, hS⟩ := hrel
    have HS := Lib.hid hS
    clear hS
    by_cases hkn : k < b.x.len
    ·have hd : decide ((k : Int) < (b.x.len : Int)) = true := by simp; omega
     have hln : b.x.len = b.fs.length := by unfold Hd.len; rw [if_neg HF2.out, HSZQ.out]
     have hkf : k < b.fs.length := by omega
     have hy : b.fs.getD k 0 < 4294967296 := by rw [List.getD_eq_getElem?_getD, List.getElem?_eq_getElem hkf]; exact hok.f32 _ (List.getElem_mem hkf)
     have HTK := Lib.hid (show (b.fs.take (k + 1)).flatMap cnt7 = (b.fs.take k).flatMap cnt7 ++ cnt7 (b.fs.getD k 0) by rw [List.take_add_one, List.getElem?_eq_getElem hkf, List.flatMap_append, List.getD_eq_getElem?_getD, List.getElem?_eq_getElem hkf]; simp)
     have HPL := Lib.hid (show ((b.fs.take k).flatMap cnt7).length ≤ 5 * 65535 from Nat.le_trans (words_len (fun x hx => hok.f32 x (List.mem_of_mem_take hx))) (by rw [List.length_take]; omega))
     have HG := Lib.hid (fun W' hb => HWD.out W' hb k hkf HF.out)
     clear hln hkf
     generalize b.fs.getD k 0 = y at *
     generalize (b.fs.take k).flatMap cnt7 = pk at *
     clear hk
     go_wp2_with fail
     refine (HLN.out _ HS.out.rb.base).mono ?_
     rintro e w5 ⟨rfl, hb5⟩
     have HS5 := Lib.hid (HS.out.below hb5)
     have x1 := HS5.out.hd.cell 1
     unfold Hd.cells at x1
     clear hb5 HS
     go_wp2_with fail
     refine (HG.out _ HS5.out.rb.base).mono ?_
     rintro e w6 ⟨rfl, hb6⟩
     have HS6 := Lib.hid (HS5.out.below hb6)
     clear hb6 HS5 x1
     go_wp2_with fail
     refine (HNB.out _ _ _ HS6.out.rb (by have := HB4L.out; have := HPL.out; simp only [List.length_append]; omega) y hy).mono ?_
     rintro e w7 hB7
     obtain ⟨v7, rfl, S7⟩ := HS6.out.bytes hB7
     have HS7 := Lib.hid S7
     clear hB7 S7 HS6
     go_wp2_with fail
     go_roundw
     case rel => exact ⟨k + 1, by go_num, by omega, by rw [HTK.out, ← List.append_assoc]; exact HS7.out⟩
     case measure => simp [intOf]; omega
    ·obtain rfl : k = b.x.len := by omega
     have hd : decide ((b.x.len : Int) < (b.x.len : Int)) = false := by simp
     have hln : b.x.len = b.fs.length := by unfold Hd.len; rw [if_neg HF2.out, HSZQ.out]
     have hS := HS.out
     rw [show b.fs.take b.x.len = b.fs by rw [hln]; exact List.take_length] at hS
     have HS9 := Lib.hid hS
     clear hS hln
     clear hk hkn
     go_wp2_with fail
     refine (HLN.out _ HS.out.rb.base).mono ?_
     rintro e w5 ⟨rfl, hb5⟩
     have HS5 := Lib.hid (HS9.out.rb.below hb5)
     clear hb5 HS HS9
     go_wp2_with fail
     go_ret
     have hfin := HS5.out
     refine ⟨_, rfl, ?_⟩
     rw [HEQ.out, HPE.out]
     rw [← HBS.out] at hfin
     simp only [List.append_assoc] at hfin ⊢
     exact hfin
  ·have hd3 : ((b.x.fmt : Int) == 3) = false := by simp; omega
   have HPE := Lib.hid (show payB L b = valsB L b.fs by unfold payB; rw [if_neg h2, if_neg h3])
   have HF := Lib.hid (show b.x.fmt = 1 ∨ b.x.fmt = 4 by have hm := hok.may; unfold Hd.may at hm; simp at hm; omega)
   clear h2 h3
   go_wp2_with fail
   go_loopw [1, 10] (fun b' i wr => ∃ k : Nat, i = .int .i64 k ∧ k ≤ b.x.len ∧ ROb w2 wr B w.heap.size mb va W1.heap.size b.x b' (bs4 ++ valsB L (b.fs.take k))) (fun _ i _ => b.x.len - (intOf i).toNat)
   case atStart => exact ⟨0, rfl, Nat.zero_le _, by simpa [valsB] using HS.out⟩
   case round =>
    clear HS q0 q1 x0 x1 x2 x3 x4
    obtain ⟨k, rfl, hk, hS⟩ := hrel
    have HS := Lib.hid hS
    clear hS
    by_cases hkn : k < b.x.len
    ·have hd : decide ((k : Int) < (b.x.len : Int)) = true := by simp; omega
     have hln : b.x.len = b.fs.length := by unfold Hd.len; rw [if_neg HF2.out, HSZQ.out]
     have hkf : k < b.fs.length := by omega
     have hy : b.fs.getD k 0 < 4294967296 := by rw [List.getD_eq_getElem?_getD, List.getElem?_eq_getElem hkf]; exact hok.f32 _ (List.getElem_mem hkf)
     have HTK := Lib.hid (valsB_take1 (L := L) hkf)
     have HPL := Lib.hid (show (valsB L (b.fs.take k)).length ≤ 5 * 65535 from Nat.le_trans (valsB_len hL _ (fun x hx => hok.f32 x (List.mem_of_mem_take hx))) (by rw [List.length_take]; omega))
     have HG := Lib.hid (fun W' hb => HGT.out W' hb k hkf HF.out)
     clear hln hkf
     generalize b.fs.getD k 0 = y at *
     generalize valsB L (b.fs.take k) = pk at *
     clear hk
     go_wp2_with fail
     refine (HLN.out _ HS.out.rb.base).mono ?_
     rintro e w5 ⟨rfl, hb5⟩
     have HS5 := Lib.hid (HS.out.below hb5)
     have x1 := HS5.out.hd.cell 1
     unfold Hd.cells at x1
     clear hb5 HS
     go_wp2_with fail
     refine (HG.out _ HS5.out.rb.base).mono ?_
     rintro e w6 ⟨rfl, hb6⟩
     have HS6 := Lib.hid (HS5.out.below hb6)
     clear hb6 HS5 x1
     have q0 := HS6.out.bk.cell 0
     have q1 := HS6.out.bk.cell 1
     go_wp2_with fail
     refine (HVL.out _ HS6.out.rb.base y hy).mono ?_
     rintro e w8 ⟨rfl, hb8⟩
     have HS8 := Lib.hid (HS6.out.below hb8)
     clear hb8 HS6 q0 q1
     go_wp2_with fail
     refine (HNB.out _ _ _ HS8.out.rb (by have := HB4L.out; have := HPL.out; simp only [List.length_append]; omega) (vnum L y) (vnum_lt hL hy)).mono ?_
     rintro e w7 hB7
     obtain ⟨v7, rfl, S7⟩ := HS8.out.bytes hB7
     have HS7 := Lib.hid S7
     clear hB7 S7 HS8
     go_wp2_with fail
     go_roundw
     case rel => exact ⟨k + 1, by go_num, by omega, by rw [HTK.out, ← List.append_assoc]; exact HS7.out⟩
     case measure => simp [intOf]; omega
    ·obtain rfl : k = b.x.len := by omega
     have hd : decide ((b.x.len : Int) < (b.x.len : Int)) = false := by simp
     have hln : b.x.len = b.fs.length := by unfold Hd.len; rw [if_neg HF2.out, HSZQ.out]
     have hS := HS.out
     rw [show b.fs.take b.x.len = b.fs by rw [hln]; exact List.take_length] at hS
     have HS9 := Lib.hid hS
     clear hS hln
     clear hk hkn
     go_wp2_with fail
     refine (HLN.out _ HS.out.rb.base).mono ?_
     rintro e w5 ⟨rfl, hb5⟩
     have HS5 := Lib.hid (HS9.out.rb.below hb5)
     clear hb5 HS HS9
     go_wp2_with fail
     go_ret
     have hfin := HS5.out
     refine ⟨_, rfl, ?_⟩
     rw [HEQ.out, HPE.out]
     rw [← HBS.out] at hfin
     simp only [List.append_assoc] at hfin ⊢
     exact hfin
end
end Go.Proofs.YthadjmhipckelaaGreatDoor
