/- rename: every name becomes another one. Printed by wip/gw.py from wip/src/XKRenP.src. -/
/- fits: whether two lists may be exchanged or forwarded. Printed by wip/src/XKFits.py. -/
/- twice: whether an oop stands twice in lists. -/
/- Names exchanged and given away, plain: the pairs. -/
import Derived.Test.YtblekggklimpeaaGreatDoorJKRenM
import Derived.Test.YtblekggklimpeaaGreatDoorJUntil
import Derived.Test.YtblekggklimpeaaGreatDoorJRoundW
import Derived.Test.YtblekggklimpeaaGreatDoorJLive
import Derived.Test.YtblekggklimpeaaGreatDoorJKNamed
import Derived.Laws.EntriesVeiled
import Derived.Carry
import Derived.Sort.CutIn
set_option linter.unusedVariables false
set_option linter.unusedSimpArgs false
set_option linter.unusedSectionVars false
namespace Go.Proofs.YtblekggklimpeaaGreatDoor
open Go.RowKit
attribute [local go_sem] Oper.semAt_some
/-- The relation of a round: the heap's own blocks apart, what holds cells is kept. -/
structure KpN (p : HP) (A B : World) : Prop where
  os : B.os = A.os
  tape : B.tape = A.tape
  output : B.output = A.output
  size : A.heap.size ≤ B.heap.size
  cells : ∀ k cs t fr, ¬ p.has k → A.heap[k]? = some (.cells cs t fr) → B.heap[k]? = some (.cells cs t fr)
theorem KpN.trans {p : HP} {A B C : World} (h : KpN p A B) (k : KpN p B C) : KpN p A C :=
  ⟨k.os.trans h.os, k.tape.trans h.tape, k.output.trans h.output, Nat.le_trans h.size k.size, fun j cs t fr hj ha => k.cells j cs t fr hj (h.cells j cs t fr hj ha)⟩
theorem KpN.book {p : HP} (W : World) (l : Nat) (o o' : Obj) (h : W.heap[l]? = some o) (hc : o.isCells = false) : KpN p W (W.putObj l o') := by
  have hg := grownBy_putObj' W l o'
  refine ⟨rfl, rfl, rfl, by simp, fun k cs t fr _ hk => ?_⟩
  have hne : k ≠ l := by rintro rfl; rw [hk] at h; injection h with h; subst h; simp [Obj.isCells] at hc
  exact (hg.block k (lt_of_get hk) (fun e => hne (by injection e))).trans hk
theorem KpN.of_step {p : HP} {A B : World} (s : Step p p A B) : KpN p A B :=
  ⟨s.os, s.tape, s.output, s.size, fun k cs t fr hn hk => (s.block k (lt_of_get hk) hn).trans hk⟩
theorem HAt.cells_at {w : World} {p : HP} {h : HM} (H : HAt w p h) {j : Nat} (hj : p.has j) : ∃ cs t fr, w.heap[j]? = some (.cells cs t fr) := by
  obtain ⟨h0, ⟨c1, h1, r1⟩, ⟨c2, h2, r2⟩, ⟨c3, h3, r3⟩⟩ := H
  rcases hj with rfl | rfl | rfl | rfl
  · exact ⟨_, _, _, h0⟩
  · exact ⟨_, _, _, h1⟩
  · exact ⟨_, _, _, h2⟩
  · exact ⟨_, _, _, h3⟩
theorem KeepsFrom.of_step {p : HP} {B : Nat} {A C : World} (hn : ∀ k, B ≤ k → ¬ p.has k) (s : Step p p A C) : KeepsFrom B A C :=
  ⟨s.size, fun k o hk ho _ => (s.block k (lt_of_get ho) (hn k hk)).trans ho⟩
/-- What lies in memory under way. -/
def RnAt (r : Nat → Nat) (h : HM) (l : List Ob) (W0 : World) (p : HP) (L : List Ob) (rt : List Nat) (W : World) : Prop :=
  ∃ hk, HAt W p hk ∧ RenSt r h l L hk ∧ hk.roots = rt ∧ W.os = W0.os ∧ W.tape = W0.tape ∧ W.output = W0.output ∧ W0.heap.size ≤ W.heap.size ∧ ∀ k, k < W0.heap.size → ¬ p.has k → W.heap[k]? = W0.heap[k]?
section
variable {r : Nat → Nat} {h : HM} {l L : List Ob} {W0 W W1 : World} {p : HP} {rt : List Nat}
theorem RnAt.below (R : RnAt r h l W0 p L rt W) (hb : Below W.heap.size W W1) : RnAt r h l W0 p L rt W1 := by
  obtain ⟨hk, H, S, e, o1, o2, o3, hz, hbk⟩ := R
  exact ⟨hk, H.below hb, S, e, hb.os.trans o1, hb.tape.trans o2, hb.output.trans o3, Nat.le_trans hz hb.size, fun k hk hn => (hb.block k (Nat.lt_of_lt_of_le hk hz)).trans (hbk k hk hn)⟩
theorem RnAt.own' (R : RnAt r h l W0 p L rt W) {row : Option Nat} (hg : W.grownBy W1 row) (hr : ∀ k, row = some k → W0.heap.size ≤ k ∧ ∃ o : Obj, W.heap[k]? = some o ∧ o.isCells = false) : RnAt r h l W0 p L rt W1 := by
  obtain ⟨hk, H, S, e, o1, o2, o3, hz, hbk⟩ := R
  refine ⟨hk, H.safe (fun j cs t fr hj hh => (hg.block j (lt_of_get hh) (fun e' => ?_)).trans hh), S, e, hg.os.trans o1, hg.tape.trans o2, hg.output.trans o3, Nat.le_trans hz hg.size, fun k hk hn => (hg.block k (Nat.lt_of_lt_of_le hk hz) (fun e' => by have := (hr k e'.symm).1; omega)).trans (hbk k hk hn)⟩
  obtain ⟨_, o, ho, hc⟩ := hr j e'.symm
  rw [hh] at ho
  injection ho with ho
  subst ho
  cases hc
theorem RnAt.blk (R : RnAt r h l W0 p L rt W) {g : Nat} {t : TypeId} {cs : Array Value} (b : Blk W0 g t cs) (hn : ¬ p.has g) : Blk W g t cs := by
  obtain ⟨hk, H, S, e, o1, o2, o3, hz, hbk⟩ := R
  exact b.same (hbk g b.lt hn)
theorem RnAt.obj (R : RnAt r h l W0 p L rt W) {g : Nat} {o : Obj} (b : W0.heap[g]? = some o) (hn : ¬ p.has g) : W.heap[g]? = some o := by
  obtain ⟨hk, H, S, e, o1, o2, o3, hz, hbk⟩ := R
  exact (hbk g (lt_of_get b) hn).trans b
theorem RnAt.step (R : RnAt r h l W0 p L rt W) {hk' : HM} {L' : List Ob} {rt' : List Nat} (H : HAt W1 p hk') (S : RenSt r h l L' hk') (e : hk'.roots = rt') (s : Step p p W W1) : RnAt r h l W0 p L' rt' W1 := by
  obtain ⟨hk, _, _, _, o1, o2, o3, hz, hbk⟩ := R
  exact ⟨hk', H, S, e, s.os.trans o1, s.tape.trans o2, s.output.trans o3, Nat.le_trans hz s.size, fun k hk hn => (s.block k (Nat.lt_of_lt_of_le hk hz) hn).trans (hbk k hk hn)⟩
theorem RnAt.spares (R : RnAt r h l W0 p L rt W) (hs : Spares W0) (hf : Far p) : Spares W := by
  obtain ⟨hk, H, S, e, o1, o2, o3, hz, hbk⟩ := R
  exact hs.safe fun cs t fr hh => (hbk _ (lt_of_get hh) (fun hp => (hf _ hp).1 rfl)).trans hh
end
set_option maxRecDepth 100000 in
set_option maxHeartbeats 8000000 in
theorem rename_any {w : World} {p : HP} {h : HM} {l : List Ob} {mb n : Nat} {pl : List (Nat × Nat)} (H : HAt w p h) (G : h.Good l) (hs : Spares w) (hfar : Far p) (M : MapR w mb n pl) (R : RenOk h (renO pl)) :
    Calls Tryz.prog 31 #[ptr p.g, .map (some mb)] w (fun e w' => (∃ v, e = .returned v) ∧ HAt w' p (renH (renO pl) h l) ∧ (renH (renO pl) h l).Good (l.map (ren (renO pl))) ∧ Step p p w w') := by
  refine (callsIn_wide (n := 6)).1 ?_
  refine callsIn_of_wp_marks Tryz.func31 rfl trivial ?_ rfl
  simp only [Tryz.ntmps31, List.size_toArray, List.length_cons, List.length_nil, Nat.reduceAdd, Nat.reduceSub, Array.replicate_succ, Array.replicate_zero, List.push_toArray, List.append_toArray, List.nil_append, List.cons_append]
  have HPA := Lib.hid (fun W => all_any p.g W)
  unfold ptr at HPA ⊢
  gi_wp2_with fail
  refine ⟨trivial, (callsIn_wide.2 (HPA.out _)).mono ?_⟩
  rintro e W2 ⟨rfl, rfl⟩
  have b1 := Blk.new w 27 #[.pointer (some ⟨p.g, 0, none⟩)]
  have b2 := Blk.new (w.alloc (.cells #[.pointer (some ⟨p.g, 0, none⟩)] 27)) 71 #[.map (some mb)]
  have b3 := Blk.new ((w.alloc (.cells #[.pointer (some ⟨p.g, 0, none⟩)] 27)).alloc (.cells #[.map (some mb)] 71)) 110 #[.func (.func 60) #[] #[.pointer (some ⟨w.heap.size + 1, 0, none⟩)]]
  have b4 := Blk.new (((w.alloc (.cells #[.pointer (some ⟨p.g, 0, none⟩)] 27)).alloc (.cells #[.map (some mb)] 71)).alloc (.cells #[.func (.func 60) #[] #[.pointer (some ⟨w.heap.size + 1, 0, none⟩)]] 110)) 27 #[.pointer (some ⟨p.g, 0, none⟩)]
  have b1' := (((b1.alloc (.cells #[.map (some mb)] 71)).alloc (.cells #[.func (.func 60) #[] #[.pointer (some ⟨w.heap.size + 1, 0, none⟩)]] 110))).alloc (.cells #[.pointer (some ⟨p.g, 0, none⟩)] 27)
  have b2' := ((b2.alloc (.cells #[.func (.func 60) #[] #[.pointer (some ⟨w.heap.size + 1, 0, none⟩)]] 110))).alloc (.cells #[.pointer (some ⟨p.g, 0, none⟩)] 27)
  have b3' := b3.alloc (.cells #[.pointer (some ⟨p.g, 0, none⟩)] 27)
  have hB0 : Below w.heap.size w ((((w.alloc (.cells #[.pointer (some ⟨p.g, 0, none⟩)] 27)).alloc (.cells #[.map (some mb)] 71)).alloc (.cells #[.func (.func 60) #[] #[.pointer (some ⟨w.heap.size + 1, 0, none⟩)]] 110)).alloc (.cells #[.pointer (some ⟨p.g, 0, none⟩)] 27)) := ((((Below.refl _ w).alloc (Nat.le_refl _) _).alloc (by simp) _).alloc (by simp; omega) _).alloc (by simp; omega) _
  have hsz : ((((w.alloc (.cells #[.pointer (some ⟨p.g, 0, none⟩)] 27)).alloc (.cells #[.map (some mb)] 71)).alloc (.cells #[.func (.func 60) #[] #[.pointer (some ⟨w.heap.size + 1, 0, none⟩)]] 110)).alloc (.cells #[.pointer (some ⟨p.g, 0, none⟩)] 27)).heap.size = w.heap.size + 4 := by simp
  clear b1 b2 b3
  simp only [World.size_alloc] at b1' b2' b3' b4
  gi_wp2_with fail
  obtain ⟨W0, hW0⟩ : ∃ W0, (((w.alloc (.cells #[.pointer (some ⟨p.g, 0, none⟩)] 27)).alloc (.cells #[.map (some mb)] 71)).alloc (.cells #[.func (.func 60) #[] #[.pointer (some ⟨w.heap.size + 1, 0, none⟩)]] 110)).alloc (.cells #[.pointer (some ⟨p.g, 0, none⟩)] 27) = W0 := ⟨_, rfl⟩
  rw [hW0] at b1' b2' b3' b4 hB0 hsz
  rw [hW0]
  clear hW0
  have hnn : ∀ k, w.heap.size ≤ k → ¬ p.has k := fun k hk hp => by have := H.lt hp; omega
  have HNN := Lib.hid hnn
  have hmb : ¬ p.has mb := fun hp => by
    obtain ⟨es, cl, hm⟩ := M.obj
    obtain ⟨cs, t, fr, hc⟩ := H.cells_at hp
    rw [hm] at hc
    cases hc
  have HI := Lib.hid (show HAt W0 p h ∧ Spares W0 from ⟨H.below hB0, hs.below hB0⟩)
  have HM0 := Lib.hid (M.below hB0)
  have R0 : RnAt (renO pl) h l W0 p l h.roots W0 := ⟨h, HI.out.1, RenSt.start G, rfl, rfl, rfl, rfl, Nat.le_refl _, fun _ _ _ => rfl⟩
  have HBX := Lib.hid (fun (L : List Ob) (rt : List Nat) (W : World) (C : RnAt (renO pl) h l W0 p L rt W) => And.intro (C.blk b1' (hnn _ (by omega))) (And.intro (C.blk b2' (hnn _ (by omega))) (C.blk b3' (hnn _ (by omega)))))
  have HRN := Lib.hid (fun (L : List Ob) (rt : List Nat) (W : World) (C : RnAt (renO pl) h l W0 p L rt W) (o : Nat) (ho : o < 4294967296) => ren1_any (HBX.out L rt W C).2.1 (show MapR W mb n pl from HM0.out.same (by
      obtain ⟨es, cl, hm⟩ := HM0.out.obj
      exact (C.obj hm hmb).trans hm.symm)) ho)
  have HSPA := Lib.hid (fun (L : List Ob) (rt : List Nat) (W : World) (C : RnAt (renO pl) h l W0 p L rt W) => C.spares HI.out.2 hfar)
  have HB0 := Lib.hid hB0
  have HG := Lib.hid G
  have HRK := Lib.hid R
  have hlen2 : l.length ≤ 1048576 := by have h1 := oopsL_le G; rw [oopsL_len] at h1; exact h1
  have hsp : ¬ p.has 0 := fun hp => (hfar _ hp).1 rfl
  refine wpIn_rangeFunc_ownH (F := Fence.wide) rfl (by omega) (gf := 70) (lb := #[.pointer (some ⟨w.heap.size + 1 + 1 + 1, 0, none⟩)]) rfl trivial (enters_of Tryz.func70 (by kernel_rfl) rfl)
    (all_stopsG HI.out.1 G HI.out.2 5 (w.heap.size + 1 + 1 + 1) (b4.cell 0) (KpN p) (fun _ k => ¬ p.has k)
      (fun A B k cs t fr h1 h2 h3 => ⟨h1.cells k cs t fr h2 h3, h2⟩) (fun A B k _ h2 => h2)
      (fun W W1 k h1 h2 h3 => hnn k (by have := h1.size; omega))
      (fun W h1 => hsp))
    KpN.trans (fun W l o o' h0 h1 h2 _ => KpN.book W l o o' h1 h2) (Below.refl _ _) (fun _ => rfl)
    (fun pre W => RnAt (renO pl) h l W0 p (rensL (renO pl) l pre) h.roots W)
    (fun c pre W => False)
    (fun pre A B row hs hg hr => RnAt.own' hs hg hr)
    (fun c pre A B row hs hg hr => hs.elim)
    R0
    (fun x a' W => ∃ Bx, W0.heap.size ≤ Bx ∧ Blk W Bx 102 (l[x.1]'x.2).x.cells ∧ a' = { tmps := #[.pointer (some ⟨p.g, 0, none⟩), .map (some mb), .pointer (some ⟨w.heap.size, 0, none⟩), .pointer (some ⟨w.heap.size + 1, 0, none⟩), .pointer (some ⟨w.heap.size + 1 + 1, 0, none⟩), .int .u32 ((2 * posOf (l.take x.1) : Nat) : Int), .pointer (some ⟨Bx, 0, none⟩), undef, undef, undef, undef, undef, .func (.func 60) #[] #[.pointer (some ⟨w.heap.size + 1, 0, none⟩)], .pointer (some ⟨p.g, 0, none⟩), .func (.func 70) #[] #[.pointer (some ⟨w.heap.size + 1 + 1 + 1, 0, none⟩)], .int .u32 ((2 * posOf (l.take x.1) : Nat) : Int), (l[x.1]'x.2).x.val, undef, undef, undef, undef, undef, undef, undef, undef, undef, undef, undef, undef, undef, undef, undef, undef, undef, undef, undef, undef, undef, undef, undef, undef, undef, undef, undef, undef, undef, undef, undef, undef, undef, undef, undef, undef, undef, undef, undef, undef, undef, undef, undef, undef, undef, undef, undef, undef, undef, undef], defers := [] })
    (fun x a' _ X Y row hs hg hr => by
      obtain ⟨Bx, h1, h2, h3⟩ := hs
      refine ⟨Bx, h1, h2.same (hg.block Bx h2.lt (fun e => ?_)), h3⟩
      obtain ⟨_, o, ho, hc⟩ := hr Bx e.symm
      unfold Blk at h2
      rw [h2] at ho
      injection ho with ho
      subst ho
      simp [Obj.isCells] at hc)
    ?assign ?body ?done ?stop
  case assign =>
    rintro lp pre x W K C hK
    rw [show allV l x = #[.int .u32 ((2 * posOf (l.take x.1) : Nat) : Int), .agg #[.int .i64 ((l[x.1]'x.2).x.size : Nat), .int .i64 ((l[x.1]'x.2).x.fmt : Nat), .int .i64 ((l[x.1]'x.2).x.spare : Nat), .int .u32 ((l[x.1]'x.2).x.cls : Nat), .int .u32 ((l[x.1]'x.2).x.ser : Nat)]] from rfl]
    have HC := Lib.hid C
    have HK := Lib.hid hK
    have hsW : W0.heap.size ≤ W.heap.size := by obtain ⟨hk, _, _, _, _, _, _, hz, _⟩ := C; exact hz
    clear hK C
    unfold Hd.val Hd.cells at HK
    generalize (l[x.1]'x.2).x = X at *
    generalize 2 * posOf (l.take x.1) = o at *
    gi_wp2_with fail
    have hb5 : Below W.heap.size W (W.alloc (.cells #[.int .i64 (X.size : Int), .int .i64 (X.fmt : Int), .int .i64 (X.spare : Int), .int .u32 (X.cls : Int), .int .u32 (X.ser : Int)] 102)) := (Below.refl _ _).alloc (Nat.le_refl _) _
    exact HK.out _ _ ((KeepsOthers.alloc _ _).from _) (KpN.of_step (Step.of_below hb5)) (HC.out.below hb5) ⟨W.heap.size, hsW, Blk.new W _ _, rfl⟩

  case body =>
    rintro lp pre x a' W hl ⟨r0, hr0⟩ C ⟨Bx, hBx, bX, rfl⟩ hltx
    apply wpIn_block
    apply wpIn_seq
    have HC := Lib.hid C
    obtain ⟨hk, Hk, S, ert, -, -, -, hz, -⟩ := C
    have hBW := bX.lt
    have hxl : x.1 < (rensL (renO pl) l pre).length := by rw [len_shp S.same_]; exact x.2
    have hshx := at_shp S.same_ hxl x.2
    have hok := S.good.laid.ok _ (List.getElem_mem hxl)
    have HXE := Lib.hid (show ((rensL (renO pl) l pre)[x.1]'hxl).x.fmt = (l[x.1]'x.2).x.fmt ∧ ((rensL (renO pl) l pre)[x.1]'hxl).x.ptrB = (l[x.1]'x.2).x.ptrB ∧ (l[x.1]'x.2).x.size = ((rensL (renO pl) l pre)[x.1]'hxl).fs.length from by
      have h1 := congrArg Prod.fst hshx
      unfold shp at h1
      simp only at h1
      have h2 := congrArg Hd.fmt h1
      have h3 := congrArg Hd.size h1
      simp only at h2 h3
      exact ⟨h2, by unfold Hd.ptrB; rw [h2], by rw [← h3]; exact hok.size⟩)
    have HSN := Lib.hid (rensL_snoc (renO pl) l pre x)
    unfold stepL at HSN
    rw [List.getD_eq_getElem?_getD, List.getElem?_eq_getElem hxl, Option.getD_some] at HSN
    unfold stepB at HSN
    have hc32 : (l[x.1]'x.2).x.cls < 4294967296 := (HG.out.laid.ok _ (List.getElem_mem x.2)).fit.cls
    have hcb := HG.out.sound.cls _ (List.getElem_mem x.2)
    have hr32 := HRK.out.lt _ hc32
    have hrcb : hk.clsB (renO pl (l[x.1]'x.2).x.cls) = true := by rw [HM.clsB_same S.starts]; exact HRK.out.cls _ hcb
    obtain ⟨sc1, sc2, sc3⟩ := S.setCls hxl hr32 hrcb
    have ho32 : 2 * posOf (l.take x.1) < 4294967296 := isB_u32 HG.out (isB_at HG.out x.1 x.2)
    have HSC := Lib.hid (fun (W' : World) (hb : Below W.heap.size W W') => setClass_any (Hk.below hb) S.good.fit S.good.laid.heads (2 * posOf (l.take x.1)) ho32 (renO pl (l[x.1]'x.2).x.cls) hr32)
    rw [sc1] at HSC
    have HS2 := Lib.hid (And.intro sc2 (sc3.trans ert))
    have HR1 := Lib.hid (fun (W' : World) (hb : Below W.heap.size W W') => HRN.out _ _ W' (HC.out.below hb) (l[x.1]'x.2).x.cls hc32)
    have hcells := HBX.out _ _ W HC.out
    have hsW : W0.heap.size ≤ W.heap.size := hz
    have hfl : ((rensL (renO pl) l pre)[x.1]'hxl).fs.length ≤ 16777216 := by have h1 := hok.size; have h2 := hok.fit.size; omega
    clear Hk S ert hz hshx hok hcb hrcb sc1 sc2 sc3
    unfold Hd.cells at bX
    unfold Hd.val
    generalize hXe : (l[x.1]'x.2).x = X at *
    have HXX := Lib.hid hXe
    clear hXe
    refine wpIn_region_U 6 (fun w' => w'.cell? ⟨w.heap.size, 0, none⟩ = some (.pointer (some ⟨p.g, 0, none⟩)) ∧ w'.cell? ⟨w.heap.size + 1 + 1, 0, none⟩ = some (.func (.func 60) #[] #[.pointer (some ⟨w.heap.size + 1, 0, none⟩)]) ∧ w'.cell? ⟨Bx, 3, none⟩ = some (.int .u32 (X.cls : Int))) (by kernel_rfl) (by kernel_rfl) ?_
    have hbd : Below W.heap.size W W.drew := ⟨rfl, rfl, rfl, Nat.le_refl _, fun _ _ => rfl⟩
    have HBD := Lib.hid hbd
    have HBXX := Lib.hid bX
    have hS : W.drew.cell? ⟨w.heap.size, 0, none⟩ = some (.pointer (some ⟨p.g, 0, none⟩)) ∧ W.drew.cell? ⟨w.heap.size + 1 + 1, 0, none⟩ = some (.func (.func 60) #[] #[.pointer (some ⟨w.heap.size + 1, 0, none⟩)]) ∧ W.drew.cell? ⟨Bx, 3, none⟩ = some (.int .u32 (X.cls : Int)) := ⟨(hcells.1.below hbd hcells.1.lt).cell 0, (hcells.2.2.below hbd hcells.2.2.lt).cell 0, (bX.below hbd bX.lt).cell 3⟩
    clear hbd bX hcells
    generalize hoE : 2 * posOf (l.take x.1) = o at *
    have HOE := Lib.hid hoE
    clear hoE
    generalize hcE : renO pl X.cls = c' at *
    have HCE := Lib.hid hcE
    clear hcE
    generalize W.drew = W7 at *
    refine U_readC 0 [6] (v := (.pointer (some ⟨p.g, 0, none⟩))) rfl (by kernel_rfl) (fun _ _ _ h => h) hS (by rfl) (fun w' hw' => by obtain ⟨h0, h1, h2⟩ := hw'; go_simp) ?_
    try simp only [Act.put, List.setIfInBounds_toArray, List.set_cons_zero, List.set_cons_succ]
    refine U_readC 1 [6] (v := (.int .u32 (o : Int))) rfl (by kernel_rfl) (fun _ _ _ h => h) hS (by rfl) (fun w' hw' => by obtain ⟨h0, h1, h2⟩ := hw'; go_simp) ?_
    try simp only [Act.put, List.setIfInBounds_toArray, List.set_cons_zero, List.set_cons_succ]
    refine U_readC 2 [5,6] (v := (.func (.func 60) #[] #[.pointer (some ⟨w.heap.size + 1, 0, none⟩)])) rfl (by kernel_rfl) (fun _ _ _ h => h) hS (by rfl) (fun w' hw' => by obtain ⟨h0, h1, h2⟩ := hw'; go_simp) ?_
    try simp only [Act.put, List.setIfInBounds_toArray, List.set_cons_zero, List.set_cons_succ]
    refine U_readC 3 [4,5,6] (v := (.pointer (some ⟨Bx, 3, none⟩))) rfl (by kernel_rfl) (fun _ _ _ h => h) hS (by rfl) (fun w' hw' => by obtain ⟨h0, h1, h2⟩ := hw'; go_simp) ?_
    try simp only [Act.put, List.setIfInBounds_toArray, List.set_cons_zero, List.set_cons_succ]
    refine U_readC 4 [5,6] (v := (.int .u32 (X.cls : Int))) rfl (by kernel_rfl) (fun _ _ _ h => h) hS (by rfl) (fun w' hw' => by obtain ⟨h0, h1, h2⟩ := hw'; go_simp) ?_
    try simp only [Act.put, List.setIfInBounds_toArray, List.set_cons_zero, List.set_cons_succ]
    refine U_one 5 (by kernel_rfl) rfl rfl (fun K hK => ?_)
    go_simp
    refine (HR1.out _ HBD.out).mono ?_
    rintro e w7' ⟨rfl, rfl⟩
    try dsimp only
    refine hK _ _ (fun _ => hS) ?_
    clear hK K HR1
    try simp only [Act.put, List.setIfInBounds_toArray, List.set_cons_zero, List.set_cons_succ]
    unfold ptr at HSC
    refine U_one 6 (by kernel_rfl) rfl rfl (fun K hK => ?_)
    go_simp
    refine (HSC.out _ HBD.out).mono ?_
    rintro e w8 ⟨rfl, H8, s8⟩
    try dsimp only
    refine hK _ _ (fun h => absurd h (by decide)) ?_
    clear hK K hS HSC
    try simp only [Act.put, List.setIfInBounds_toArray, List.set_cons_zero, List.set_cons_succ]
    refine U_done (by kernel_rfl) ?_ _
    simp only [Calm, Exit.then]
    have HST := Lib.hid ((Step.of_below (p := p) HBD.out).trans s8)
    have HR8 := Lib.hid (HC.out.step H8 HS2.out.1 HS2.out.2 HST.out)
    have bX8 : Blk w8 Bx 102 #[.int .i64 (X.size : Int), .int .i64 (X.fmt : Int), .int .i64 (X.spare : Int), .int .u32 (X.cls : Int), .int .u32 (X.ser : Int)] := HBXX.out.same (HST.out.block Bx HBXX.out.lt (HNN.out Bx (by omega)))
    have f1 := bX8.cell 1
    have f0 := bX8.cell 0
    clear H8 s8 HS2 HBXX HBD bX8
    obtain ⟨hfm, hptr, hsize⟩ := HXE.out
    have HPT := Lib.hid hptr
    clear hptr hfm
    generalize hfsE : ((rensL (renO pl) l pre)[x.1]'hxl).fs = fs at *
    have hsz2 : (X.size : Int) = (fs.length : Int) := by rw [hsize]
    rw [hsz2] at f0
    clear hsize hsz2
    have hxlen : x.1 < (rensL (renO pl) l pre).length := hxl
    generalize hYE : ((rensL (renO pl) l pre)[x.1]'hxl).x = Y at *
    have HKF := Lib.hid (fun (W' : World) (s : Step p p W W') => show KeepsFrom W0.heap.size W W' from KeepsFrom.of_step (fun k hk => HNN.out k (by omega)) s)
    have HKZ := HKF
    rw [hsz] at HKZ
    clear hYE hfsE HXE HXX
    generalize rensL (renO pl) l pre = L at *
    by_cases hpt : X.ptrB = true
    · have HP := Lib.hid (show Y.ptrB = true from HPT.out.trans hpt)
      have hfm : X.fmt = 1 ∨ X.fmt = 4 := by unfold Hd.ptrB at hpt; simpa using hpt
      rw [HPT.out, if_pos hpt] at HSN
      have hq : (((X.fmt : Int) != 1) = false ∧ True) ∨ (((X.fmt : Int) != 1) = true ∧ ((X.fmt : Int) != 4) = false) := by
        rcases hfm with e | e
        · exact .inl ⟨by rw [e]; rfl, trivial⟩
        · exact .inr ⟨by rw [e]; rfl, by rw [e]; rfl⟩
      clear hpt hfm HPT
      rcases hq with ⟨hq1, hq4⟩ | ⟨hq1, hq4⟩
      all_goals (
        gi_upto_region 8 with fail
        clear hq1 hq4 f0 f1
        gi_loopw [34] (fun iv wr => ∃ j : Nat, iv = .int .i64 j ∧ j ≤ fs.length ∧ RnAt (renO pl) h l W0 p (L.set x.1 ⟨{ Y with cls := c' }, (fs.take j).map (renO pl) ++ fs.drop j⟩) h.roots wr ∧ Step p p W wr) (fun iv _ => fs.length - (intOf iv).toNat)
        case atStart => exact ⟨0, rfl, Nat.zero_le _, HR8.out, HST.out⟩
        case round =>
          obtain ⟨j, rfl, hj, hrn, hst⟩ := hrel
          have HRk := Lib.hid hrn
          have HSk := Lib.hid hst
          by_cases hlt : j < fs.length
          · obtain ⟨hk2, H2, S2, e2, -⟩ := hrn
            obtain ⟨i1, i2, i3, i4, i5, i6, i7, i8, i9⟩ := S2.step hxlen HP.out hlt HRK.out
            have hsp2 := HSPA.out _ _ _ HRk.out
            have HGT := Lib.hid (kget_any H2 S2.good hsp2 i1 i2 j i3)
            rw [i4] at HGT
            have HPU := Lib.hid (fun (W' : World) (hb : Below wr.heap.size wr W') => put_any (H2.below hb) S2.good.fit S2.good.laid.heads (hsp2.below hb) _ (isB_u32 S2.good i1) (j : Int) _ i6)
            rw [i7] at HPU
            have HRE := Lib.hid (fun (W' : World) (hb : Below wr.heap.size wr W') => HRN.out _ _ W' (HRk.out.below hb) _ i5)
            have hcl := HBX.out _ _ _ HRk.out
            have HNX := Lib.hid (And.intro i8 (i9.trans e2))
            have HLT := Lib.hid hlt
            rw [HOE.out] at HGT HPU HNX
            clear hst H2 S2 e2 i1 i2 i3 i4 i7 i8 i9 hsp2
            generalize hvE : renO pl fs[j] = v' at *
            have HVE := Lib.hid hvE
            clear hvE
            generalize fs[j] = v at *
            have d1 := hcl.1.cell 0
            have HCL := Lib.hid hcl
            unfold ptr at HGT HPU
            clear hcl
            gi_wp2_with fail
            refine ⟨trivial, (CallsIn.inRound lp (callsIn_wide.2 HGT.out)).mono ?_⟩
            rintro e w9 ⟨rfl, hb9⟩
            have HB9 := Lib.hid hb9
            clear hb9 d1 HGT
            gi_upto_region 11 with fail
            refine wpIn_region_U 6 (fun w' => w'.cell? ⟨w.heap.size, 0, none⟩ = some (.pointer (some ⟨p.g, 0, none⟩)) ∧ w'.cell? ⟨w.heap.size + 1 + 1, 0, none⟩ = some (.func (.func 60) #[] #[.pointer (some ⟨w.heap.size + 1, 0, none⟩)])) (by kernel_rfl) (by kernel_rfl) ?_
            have hbd : Below wr.heap.size wr w9.drew := below_drew HB9.out
            have hS : w9.drew.cell? ⟨w.heap.size, 0, none⟩ = some (.pointer (some ⟨p.g, 0, none⟩)) ∧ w9.drew.cell? ⟨w.heap.size + 1 + 1, 0, none⟩ = some (.func (.func 60) #[] #[.pointer (some ⟨w.heap.size + 1, 0, none⟩)]) := ⟨(HCL.out.1.below hbd HCL.out.1.lt).cell 0, (HCL.out.2.2.below hbd HCL.out.2.2.lt).cell 0⟩
            have HBD := Lib.hid hbd
            clear hbd HCL
            generalize w9.drew = w10 at *
            refine U_readC 0 [6] (v := (.pointer (some ⟨p.g, 0, none⟩))) rfl (by kernel_rfl) (fun _ _ _ h => h) hS (by rfl) (fun w' hw' => by obtain ⟨h0, h1⟩ := hw'; go_simp) ?_
            try simp only [Act.put, List.setIfInBounds_toArray, List.set_cons_zero, List.set_cons_succ]
            refine U_readC 1 [6] (v := (.int .u32 (o : Int))) rfl (by kernel_rfl) (fun _ _ _ h => h) hS (by rfl) (fun w' hw' => by obtain ⟨h0, h1⟩ := hw'; go_simp) ?_
            try simp only [Act.put, List.setIfInBounds_toArray, List.set_cons_zero, List.set_cons_succ]
            refine U_readC 2 [6] (v := (.int .i64 (j : Int))) rfl (by kernel_rfl) (fun _ _ _ h => h) hS (by rfl) (fun w' hw' => by obtain ⟨h0, h1⟩ := hw'; go_simp) ?_
            try simp only [Act.put, List.setIfInBounds_toArray, List.set_cons_zero, List.set_cons_succ]
            refine U_readC 3 [5,6] (v := (.func (.func 60) #[] #[.pointer (some ⟨w.heap.size + 1, 0, none⟩)])) rfl (by kernel_rfl) (fun _ _ _ h => h) hS (by rfl) (fun w' hw' => by obtain ⟨h0, h1⟩ := hw'; go_simp) ?_
            try simp only [Act.put, List.setIfInBounds_toArray, List.set_cons_zero, List.set_cons_succ]
            refine U_readC 4 [5,6] (v := (.int .u32 (v : Int))) rfl (by kernel_rfl) (fun _ _ _ h => h) hS (by rfl) (fun w' hw' => by obtain ⟨h0, h1⟩ := hw'; go_simp) ?_
            try simp only [Act.put, List.setIfInBounds_toArray, List.set_cons_zero, List.set_cons_succ]
            refine U_one 5 (by kernel_rfl) rfl rfl (fun K hK => ?_)
            go_simp
            refine (HRE.out _ HBD.out).mono ?_
            rintro e w10' ⟨rfl, rfl⟩
            try dsimp only
            refine hK _ _ (fun _ => hS) ?_
            clear hK K HRE
            try simp only [Act.put, List.setIfInBounds_toArray, List.set_cons_zero, List.set_cons_succ]
            refine U_one 6 (by kernel_rfl) rfl rfl (fun K hK => ?_)
            go_simp
            refine (HPU.out _ HBD.out).mono ?_
            rintro e w11 ⟨rfl, H11, s11⟩
            try dsimp only
            refine hK _ _ (fun h => absurd h (by decide)) ?_
            clear hK K hS HPU
            try simp only [Act.put, List.setIfInBounds_toArray, List.set_cons_zero, List.set_cons_succ]
            refine U_done (by kernel_rfl) ?_ _
            simp only [Calm, Exit.then]
            have hst : Step p p wr w11 := (Step.of_below HBD.out).trans s11
            have HR11 := Lib.hid (HRk.out.step H11 HNX.out.1 HNX.out.2 hst)
            have HS11 := Lib.hid (HSk.out.trans hst)
            clear H11 s11 hst HNX HRk HSk
            gi_wp2_with fail
            go_roundw
            case rel => exact ⟨j + 1, by go_num, HLT.out, HR11.out, HS11.out⟩
            case measure => have := HLT.out; simp [intOf]; omega
          · obtain rfl : j = fs.length := by omega
            rw [List.take_of_length_le (Nat.le_refl _), List.drop_of_length_le (Nat.le_refl _), List.append_nil] at HRk
            clear hrn hst hlt hj
            gi_wp2_with fail
            exact ⟨by first | exact HKF.out _ HSk.out | exact HKZ.out _ HSk.out, KpN.of_step HSk.out, by show RnAt (renO pl) h l W0 p (rensL (renO pl) l (pre ++ [x])) h.roots _; rw [HSN.out]; exact HRk.out⟩)
    · rw [HPT.out, if_neg hpt] at HSN
      have hq1 : ((X.fmt : Int) != 1) = true := by unfold Hd.ptrB at hpt; simp at hpt ⊢; omega
      have hq4 : ((X.fmt : Int) != 4) = true := by unfold Hd.ptrB at hpt; simp at hpt ⊢; omega
      clear hpt
      gi_wp2_with fail
      exact ⟨by first | exact HKF.out _ HST.out | exact HKZ.out _ HST.out, KpN.of_step HST.out, by show RnAt (renO pl) h l W0 p (rensL (renO pl) l (pre ++ [x])) h.roots _; rw [HSN.out]; exact HR8.out⟩

  case done =>
    rintro D xs W hD rfl C hK
    show _
    have C : RnAt (renO pl) h l W0 p (rensL (renO pl) l (List.finRange l.length)) h.roots W := C
    rw [rens_all] at C
    have HC := Lib.hid C
    have HKD := Lib.hid hK
    have hcl := HBX.out _ _ _ C
    have d1 := hcl.1.cell 0
    have hwW : w.heap.size ≤ W.heap.size := by obtain ⟨_, _, _, _, _, _, _, hz, _⟩ := C; omega
    obtain ⟨hk, Hk, S, ert, -⟩ := C
    have HRT := Lib.hid (roots_any Hk S.good.fit)
    rw [ert] at HRT
    have HRL := Lib.hid (show (u32s h.roots).length = 64 by rw [u32s_len]; exact HG.out.fit.roots)
    have hnD := HNN.out D (by omega)
    have HND := Lib.hid hnD
    unfold ptr at HRT
    clear hcl Hk S ert hK hnD
    gi_wp2_with fail
    refine ⟨trivial, (callsIn_wide.2 HRT.out).mono ?_⟩
    rintro e w10 ⟨gr, cr, rfl, hrr, hgr, hb10⟩
    rw [HRL.out]
    have HRR := Lib.hid hrr
    have HR10 := Lib.hid (HC.out.below hb10)
    have HD10 := Lib.hid ((hb10.block D (lt_of_get HKD.out)).trans HKD.out)
    have hng := HNN.out gr (by omega)
    have HNG := Lib.hid hng
    have hDw : D < w10.heap.size := lt_of_get HD10.out
    clear hrr hb10 HRT HKD hng d1
    gi_wp2_with fail
    gi_loopw [55] (fun iv wr => ∃ k : Nat, iv = .int .i64 k ∧ k ≤ 64 ∧ RnAt (renO pl) h l W0 p (l.map (ren (renO pl))) ((h.roots.take k).map (renO pl) ++ h.roots.drop k) wr ∧ Step p p w10 wr) (fun iv _ => 64 - (intOf iv).toNat)
    case atStart => exact ⟨0, rfl, by omega, HR10.out, Step.refl _ _⟩
    case round =>
      obtain ⟨k, rfl, hk, hrn, hst⟩ := hrel
      have HRk := Lib.hid hrn
      have HSk := Lib.hid hst
      by_cases hlt : k < 64
      · have hlr : k < h.roots.length := by rw [HG.out.fit.roots]; exact hlt
        have hro := HRR.out.same (hst.block gr HRR.out.lt HNG.out)
        have hce := hro.cell (u32s_get hlr)
        rw [List.getD_eq_getElem?_getD, List.getElem?_eq_getElem hlr, Option.getD_some] at hce
        have hv32 : h.roots[k] < 4294967296 := HG.out.fit.r32 _ (List.getElem_mem hlr)
        have hvv := HG.out.sound.roots _ (List.getElem_mem hlr)
        obtain ⟨hk2, H2, S2, e2, -⟩ := hrn
        have hr32 := HRK.out.lt _ hv32
        have hrv : hk2.valB (renO pl h.roots[k]) = true := by rw [HM.valB_same S2.starts]; exact HRK.out.val _ hvv
        obtain ⟨i1, i2, i3⟩ := S2.root hlt hr32 hrv
        rw [e2, take_map_set _ _ hlr] at i3
        have HSR := Lib.hid (fun (W' : World) (hb : Below wr.heap.size wr W') => setRoot_any (H2.below hb) S2.good.fit (k : Int) _ hr32)
        rw [i1] at HSR
        have HRE := Lib.hid (fun (W' : World) (hb : Below wr.heap.size wr W') => HRN.out _ _ W' (HRk.out.below hb) _ hv32)
        have HNX := Lib.hid (And.intro i2 i3)
        have hcl := HBX.out _ _ _ HRk.out
        have HCL := Lib.hid hcl
        have HLT := Lib.hid hlt
        clear hst H2 S2 e2 i1 i2 i3 hro hvv hrv hcl hr32
        generalize hvE : renO pl h.roots[k] = v' at *
        have HVE := Lib.hid hvE
        clear hvE
        generalize h.roots[k] = v at *
        unfold ptr at HSR
        gi_upto_region 16 with fail
        refine wpIn_region_W 5 (fun w' => w'.cell? ⟨w.heap.size, 0, none⟩ = some (.pointer (some ⟨p.g, 0, none⟩)) ∧ w'.cell? ⟨w.heap.size + 1 + 1, 0, none⟩ = some (.func (.func 60) #[] #[.pointer (some ⟨w.heap.size + 1, 0, none⟩)])) (by kernel_rfl) (by kernel_rfl) ?_
        have hbd : Below wr.heap.size wr wr.drew := below_drew (Below.refl _ _)
        have hS : wr.drew.cell? ⟨w.heap.size, 0, none⟩ = some (.pointer (some ⟨p.g, 0, none⟩)) ∧ wr.drew.cell? ⟨w.heap.size + 1 + 1, 0, none⟩ = some (.func (.func 60) #[] #[.pointer (some ⟨w.heap.size + 1, 0, none⟩)]) := ⟨(HCL.out.1.below hbd HCL.out.1.lt).cell 0, (HCL.out.2.2.below hbd HCL.out.2.2.lt).cell 0⟩
        have HBD := Lib.hid hbd
        clear hbd HCL hce
        generalize wr.drew = w11 at *
        refine U_readC 0 [5] (v := (.pointer (some ⟨p.g, 0, none⟩))) rfl (by kernel_rfl) (fun _ _ _ h => h) hS (by rfl) (fun w' hw' => by obtain ⟨h0, h1⟩ := hw'; go_simp) ?_
        try simp only [Act.put, List.setIfInBounds_toArray, List.set_cons_zero, List.set_cons_succ]
        refine U_readC 1 [5] (v := (.int .i64 (k : Int))) rfl (by kernel_rfl) (fun _ _ _ h => h) hS (by rfl) (fun w' hw' => by obtain ⟨h0, h1⟩ := hw'; go_simp) ?_
        try simp only [Act.put, List.setIfInBounds_toArray, List.set_cons_zero, List.set_cons_succ]
        refine U_readC 2 [4,5] (v := (.func (.func 60) #[] #[.pointer (some ⟨w.heap.size + 1, 0, none⟩)])) rfl (by kernel_rfl) (fun _ _ _ h => h) hS (by rfl) (fun w' hw' => by obtain ⟨h0, h1⟩ := hw'; go_simp) ?_
        try simp only [Act.put, List.setIfInBounds_toArray, List.set_cons_zero, List.set_cons_succ]
        refine U_readC 3 [4,5] (v := (.int .u32 (v : Int))) rfl (by kernel_rfl) (fun _ _ _ h => h) hS (by rfl) (fun w' hw' => by obtain ⟨h0, h1⟩ := hw'; go_simp) ?_
        try simp only [Act.put, List.setIfInBounds_toArray, List.set_cons_zero, List.set_cons_succ]
        refine U_one 4 (by kernel_rfl) rfl rfl (fun K hK => ?_)
        go_simp
        refine (HRE.out _ HBD.out).mono ?_
        rintro e w11' ⟨rfl, rfl⟩
        try dsimp only
        refine hK _ _ (fun _ => hS) ?_
        clear hK K HRE
        try simp only [Act.put, List.setIfInBounds_toArray, List.set_cons_zero, List.set_cons_succ]
        refine U_one 5 (by kernel_rfl) rfl rfl (fun K hK => ?_)
        go_simp
        refine (HSR.out _ HBD.out).mono ?_
        rintro e w12 ⟨rfl, H12, s12⟩
        try dsimp only
        refine hK _ _ (fun h => absurd h (by decide)) ?_
        clear hK K hS HSR
        try simp only [Act.put, List.setIfInBounds_toArray, List.set_cons_zero, List.set_cons_succ]
        refine U_done (by kernel_rfl) ?_ _
        simp only [Calm, Exit.then]
        have hst : Step p p wr w12 := (Step.of_below HBD.out).trans s12
        have HR12 := Lib.hid (HRk.out.step H12 HNX.out.1 HNX.out.2 hst)
        have HS12 := Lib.hid (HSk.out.trans hst)
        clear H12 s12 hst HNX HRk HSk
        gi_wp2_with fail
        go_roundw
        case rel => exact ⟨k + 1, by go_num, HLT.out, HR12.out, HS12.out⟩
        case measure => have := HLT.out; simp [intOf]; omega
      · obtain rfl : k = 64 := by omega
        have h64 := HG.out.fit.roots
        rw [List.take_of_length_le (Nat.le_of_eq h64), List.drop_of_length_le (Nat.le_of_eq h64), List.append_nil] at HRk
        have hKD := (hst.block D hDw HND.out).trans HD10.out
        have HKX := Lib.hid hKD
        clear hrn hst hlt hk h64 hKD
        gi_wp2_with fail
        have hc := HRk.out.own' (grownBy_putObj' wr D (.deferred none)) (fun k e => by cases e; exact ⟨hD, _, HKX.out, rfl⟩)
        refine ⟨by simp, .inl ⟨_, _, rfl, run_takeDeferred HKX.out, ?_⟩⟩
        refine ⟨_, results_none rfl _ _ _, ?_⟩
        obtain ⟨hk, H2, S2, e2, o1, o2, o3, hz, hbk⟩ := hc
        have he := S2.fin e2
        subst he
        exact ⟨⟨_, rfl⟩, H2, S2.good, ⟨o1.trans HB0.out.os, o2.trans HB0.out.tape, o3.trans HB0.out.output, Nat.le_trans HB0.out.size hz, fun k hk hn => (hbk k (Nat.lt_of_lt_of_le hk HB0.out.size) hn).trans (HB0.out.block k hk), rfl, fun _ h => .inl h⟩⟩
  case stop =>
    rintro D c pre W hD hp hx hK
    exact hx.elim
end Go.Proofs.YtblekggklimpeaaGreatDoor

namespace Go.Proofs.YtblekggklimpeaaGreatDoor
open Go.RowKit Go.Sort
attribute [local go_sem] Oper.semAt_some
def fitsE (h : HM) (a b : List Nat) : Nat := if a.length = b.length then (if a.all (fun o => h.isB o) && b.all (fun o => h.isB o) then 0 else 3) else 2
theorem idx2_0 (A A' : Option Addr) (n c n' c' : Nat) (w : World) : (Instr.index 109 (.agg #[.slice A n c, .slice A' n' c']) (.int .i64 0)).run Tryz.prog w = .ok (.slice A n c) w := by
  kernel_rfl
theorem idx2_1 (A A' : Option Addr) (n c n' c' : Nat) (w : World) : (Instr.index 109 (.agg #[.slice A n c, .slice A' n' c']) (.int .i64 1)).run Tryz.prog w = .ok (.slice A' n' c') w := by
  kernel_rfl
section
variable {w : World} {p : HP} {h : HM} {A A' : Option Addr} {n c n' c' : Nat} {a b : List Nat}
set_option maxRecDepth 100000 in
set_option maxHeartbeats 8000000 in
theorem fits_any (H : HAt w p h) (f : h.Fit) (ha : Reads w w.heap.size 1 A n (u32s a)) (hb : Reads w w.heap.size 1 A' n' (u32s b)) (hn : n ≤ 9223372036854775807) (hn' : n' ≤ 9223372036854775807) (ha32 : ∀ x ∈ a, x < 4294967296) (hb32 : ∀ x ∈ b, x < 4294967296) :
    Calls Tryz.prog 29 #[ptr p.g, .slice A n c, .slice A' n' c'] w (fun e w' => e = .returned (.int .i64 (fitsE h a b : Nat)) ∧ w = w') := by
  have HIS := Lib.hid (fun (o : Nat) (ho : o < 4294967296) => is_any H f o ho)
  have HRA := Lib.hid ha
  have HRB := Lib.hid hb
  have HA32 := Lib.hid ha32
  have HB32 := Lib.hid hb32
  have la : a.length = n := by have := ha.1; rw [u32s_len] at this; omega
  have lb : b.length = n' := by have := hb.1; rw [u32s_len] at this; omega
  unfold ptr at HIS ⊢
  by_cases hl : n = n'
  · subst hl
    have HNA := Lib.hid (show a.all (fun o => h.isB o) = false → fitsE h a b = 3 from fun e => by unfold fitsE; rw [if_pos (by omega), e]; rfl)
    have HNB := Lib.hid (show b.all (fun o => h.isB o) = false → fitsE h a b = 3 from fun e => by unfold fitsE; rw [if_pos (by omega), e, Bool.and_false]; rfl)
    have HY := Lib.hid (show a.all (fun o => h.isB o) = true → b.all (fun o => h.isB o) = true → fitsE h a b = 0 from fun e1 e2 => by unfold fitsE; rw [if_pos (by omega), e1, e2]; rfl)
    clear H f ha hb ha32 hb32 la lb
    generalize fitsE h a b = fe at *
    have hi0 := fun w' => idx2_0 A A' n c n c' w'
    have hi1 := fun w' => idx2_1 A A' n c n c' w'
    go_enter Tryz.func29, Tryz.ntmps29
    go_upto_region 4 with fail
    go_loopw [19] (fun iv wr => wr = w ∧ ∃ z : Int, iv = .int .i64 z ∧ (z = 0 ∨ (z = 1 ∧ a.all (fun o => h.isB o) = true) ∨ (z = 2 ∧ a.all (fun o => h.isB o) = true ∧ b.all (fun o => h.isB o) = true))) (fun iv _ => (2 - intOf iv).toNat)
    case atStart => exact ⟨rfl, 0, rfl, .inl rfl⟩
    case round =>
      obtain ⟨hww, z, rfl, hz⟩ := hrel
      have hww' := hww.symm
      subst hww'
      rcases hz with rfl | ⟨rfl, hpa⟩ | ⟨rfl, hpa, hpb⟩
      · go_upto_region 7 with fail
  
        go_loopw [24] (fun jv w5 => w5 = w ∧ ∃ j : Nat, jv = .int .i64 j ∧ j ≤ n ∧ (a.take j).all (fun o => h.isB o) = true) (fun jv _ => n - (intOf jv).toNat)
        case atStart => exact ⟨rfl, 0, rfl, Nat.zero_le _, rfl⟩
        case round =>
          obtain ⟨hwv, j, rfl, hj, hal⟩ := hrel
          have hwv' := hwv.symm
          subst hwv'
          have HAL := Lib.hid hal
          clear hal
          by_cases hlt : j < n
          · obtain ⟨ad, u, rfl, _, hu, hc⟩ := HRA.out.at_ hlt
            obtain ⟨y, hy, rfl⟩ := u32s_at hu
            have HI := Lib.hid (HIS.out y (HA32.out y (List.mem_of_getElem? hy)))
            have HTK := Lib.hid (show (a.take (j + 1)).all (fun o => h.isB o) = ((a.take j).all (fun o => h.isB o) && h.isB y) from by rw [List.take_add_one, hy, List.all_append]; simp)
            have HNO := Lib.hid (show h.isB y = false → a.all (fun o => h.isB o) = false from fun hf => by
              rw [List.all_eq_false]
              exact ⟨y, List.mem_of_getElem? hy, by simp [hf]⟩)
            have HLT := Lib.hid hlt
            clear hu hy
            cases hb : h.isB y
            · rw [hb] at HI
              have HF := Lib.hid (HNO.out hb)
              clear hb HTK HNO
              go_wp2_with fail
              refine HI.out.mono ?_
              rintro e w6 ⟨rfl, rfl⟩
              go_wp2_with fail
              go_ret
              exact ⟨by rw [HNA.out HF.out]; rfl, rfl⟩
            · rw [hb] at HI HTK
              clear hb HNO
              go_wp2_with fail
              refine HI.out.mono ?_
              rintro e w6 ⟨rfl, rfl⟩
              go_wp2_with fail
              go_roundw
              case rel => exact ⟨trivial, j + 1, by go_num, HLT.out, by rw [HTK.out, HAL.out]; rfl⟩
              case measure => have := HLT.out; simp [intOf]; omega
          · obtain rfl : j = n := by omega
            have HALL := Lib.hid (show a.all (fun o => h.isB o) = true from by have := HAL.out; rwa [List.take_of_length_le (by have := HRA.out.1; rw [u32s_len] at this; omega)] at this)
            clear hlt hj
            go_wp2_with fail
            go_roundw
            case rel => exact ⟨trivial, 1, by go_num, .inr (.inl ⟨rfl, HALL.out⟩)⟩
            case measure => simp [intOf]
      · have HPA := Lib.hid hpa
        clear hpa
        go_upto_region 7 with fail
  
        go_loopw [24] (fun jv w5 => w5 = w ∧ ∃ j : Nat, jv = .int .i64 j ∧ j ≤ n ∧ (b.take j).all (fun o => h.isB o) = true) (fun jv _ => n - (intOf jv).toNat)
        case atStart => exact ⟨rfl, 0, rfl, Nat.zero_le _, rfl⟩
        case round =>
          obtain ⟨hwv, j, rfl, hj, hal⟩ := hrel
          have hwv' := hwv.symm
          subst hwv'
          have HAL := Lib.hid hal
          clear hal
          by_cases hlt : j < n
          · obtain ⟨ad, u, rfl, _, hu, hc⟩ := HRB.out.at_ hlt
            obtain ⟨y, hy, rfl⟩ := u32s_at hu
            have HI := Lib.hid (HIS.out y (HB32.out y (List.mem_of_getElem? hy)))
            have HTK := Lib.hid (show (b.take (j + 1)).all (fun o => h.isB o) = ((b.take j).all (fun o => h.isB o) && h.isB y) from by rw [List.take_add_one, hy, List.all_append]; simp)
            have HNO := Lib.hid (show h.isB y = false → b.all (fun o => h.isB o) = false from fun hf => by
              rw [List.all_eq_false]
              exact ⟨y, List.mem_of_getElem? hy, by simp [hf]⟩)
            have HLT := Lib.hid hlt
            clear hu hy
            cases hb : h.isB y
            · rw [hb] at HI
              have HF := Lib.hid (HNO.out hb)
              clear hb HTK HNO
              go_wp2_with fail
              refine HI.out.mono ?_
              rintro e w6 ⟨rfl, rfl⟩
              go_wp2_with fail
              go_ret
              exact ⟨by rw [HNB.out HF.out]; rfl, rfl⟩
            · rw [hb] at HI HTK
              clear hb HNO
              go_wp2_with fail
              refine HI.out.mono ?_
              rintro e w6 ⟨rfl, rfl⟩
              go_wp2_with fail
              go_roundw
              case rel => exact ⟨trivial, j + 1, by go_num, HLT.out, by rw [HTK.out, HAL.out]; rfl⟩
              case measure => have := HLT.out; simp [intOf]; omega
          · obtain rfl : j = n := by omega
            have HALL := Lib.hid (show b.all (fun o => h.isB o) = true from by have := HAL.out; rwa [List.take_of_length_le (by have := HRB.out.1; rw [u32s_len] at this; omega)] at this)
            clear hlt hj
            go_wp2_with fail
            go_roundw
            case rel => exact ⟨trivial, 2, by go_num, .inr (.inr ⟨rfl, HPA.out, HALL.out⟩)⟩
            case measure => simp [intOf]
      · have HF := Lib.hid (HY.out hpa hpb)
        clear hpa hpb
        go_wp2_with fail
        go_ret
        exact ⟨by rw [HF.out]; rfl, rfl⟩
  · have HF := Lib.hid (show fitsE h a b = 2 from by unfold fitsE; rw [if_neg (by omega)])
    have hne : ((n : Int) != (n' : Int)) = true := by simp; omega
    clear H f ha hb ha32 hb32 la lb hl
    generalize fitsE h a b = fe at *
    go_enter Tryz.func29, Tryz.ntmps29
    go_wp2_with fail
    go_ret
    exact ⟨by rw [HF.out]; rfl, rfl⟩
end
end Go.Proofs.YtblekggklimpeaaGreatDoor

namespace Go.Proofs.YtblekggklimpeaaGreatDoor
open Go.RowKit Go.Sort
attribute [local go_sem] Oper.semAt_some
/-- A row of oops as a slice of slices holds it. -/
structure RowR where
  A : Option Addr
  n : Nat
  c : Nat
  xs : List Nat
def RowR.val (r : RowR) : Value := .slice r.A r.n r.c
structure RowR.Ok (w : World) (r : RowR) : Prop where
  rd : Reads w w.heap.size 1 r.A r.n (u32s r.xs)
  n63 : r.n ≤ 9223372036854775807
  x32 : ∀ x ∈ r.xs, x < 4294967296
theorem RowR.Ok.len {w : World} {r : RowR} (h : r.Ok w) : r.xs.length = r.n := by have := h.rd.1; rw [u32s_len] at this; omega
def allX (rs : List RowR) : List Nat := rs.flatMap (·.xs)
theorem allX_take {rs : List RowR} {k : Nat} (hk : k < rs.length) : allX (rs.take (k + 1)) = allX (rs.take k) ++ (rs[k]).xs := by
  unfold allX
  rw [List.take_add_one, List.getElem?_eq_getElem hk, List.flatMap_append]
  simp
theorem allX_take_le (rs : List RowR) (k : Nat) : (allX (rs.take k)).length ≤ (allX rs).length := by
  have h : allX rs = allX (rs.take k) ++ allX (rs.drop k) := by
    unfold allX
    rw [← List.flatMap_append, List.take_append_drop]
  rw [h, List.length_append]
  omega
/-- What was seen. -/
structure SnSt (w : World) (mb : Nat) (seen : List Nat) (wr : World) : Prop where
  map : MapE 43 3 .i64 wr mb seen.length (fun x => if x ∈ seen then 1 else 0) (fun x => decide (x ∈ seen))
  nd : seen.Nodup
  low : Below w.heap.size w wr
  hm : w.heap.size ≤ mb
section
variable {w : World}
set_option maxRecDepth 100000 in
set_option maxHeartbeats 8000000 in
theorem twice_any {A : Option Addr} {c : Nat} {rs : List RowR} (hr : Reads w w.heap.size 1 A rs.length (rs.map RowR.val)) (hok : ∀ r ∈ rs, r.Ok w) (hn : rs.length ≤ 9223372036854775807) (hT : (allX rs).length ≤ 1000000000000000) :
    Calls Tryz.prog 30 #[.slice A rs.length c] w (fun e w' => e = .returned (.bool (decide (¬ (allX rs).Nodup))) ∧ Below w.heap.size w w') := by
  have HR := Lib.hid hr
  have HOK := Lib.hid hok
  have HT := Lib.hid hT
  have hmm := @run_makeMap Tryz.prog
  have HS0 := Lib.hid (show SnSt w w.heap.size [] (w.alloc (.map #[] 0)) from ⟨(MapE.made w _ _ _).ext (fun x => by simp) (fun x => by simp), List.nodup_nil, (Below.refl _ _).alloc (Nat.le_refl _) _, Nat.le_refl _⟩)
  clear hr hok hT
  go_enter Tryz.func30, Tryz.ntmps30
  go_upto_region 3 with fail
  generalize w.alloc (.map #[] 0) = w1 at *
  clear hmm
  go_loopw [11] (fun iv wr => ∃ k : Nat, iv = .int .i64 k ∧ k ≤ rs.length ∧ SnSt w w.heap.size (allX (rs.take k)) wr) (fun iv _ => rs.length - (intOf iv).toNat)
  case atStart => exact ⟨0, rfl, Nat.zero_le _, HS0.out⟩
  case round =>
    obtain ⟨k, rfl, hk, hst⟩ := hrel
    have HST := Lib.hid hst
    clear hst
    by_cases hlt : k < rs.length
    · have hbr := HST.out.low
      obtain ⟨ad, u, rfl, _, hu, hc⟩ := ((HR.out.below hbr).more hbr.size).at_ hlt
      rw [List.getElem?_map, List.getElem?_eq_getElem hlt] at hu
      injection hu with hu
      subst hu
      have HO := Lib.hid (HOK.out _ (List.getElem_mem hlt))
      have HTK := Lib.hid (allX_take hlt)
      have hlen := Nat.le_trans (allX_take_le rs (k + 1)) HT.out
      rw [HTK.out, List.length_append] at hlen
      have HLT := Lib.hid hlt
      have HND := Lib.hid (show ¬ (allX (rs.take k) ++ rs[k].xs).Nodup → decide (¬ (allX rs).Nodup) = true from fun h => decide_eq_true (fun h2 => h (by
        have e : allX rs = allX (rs.take (k + 1)) ++ allX (rs.drop (k + 1)) := by
          unfold allX
          rw [← List.flatMap_append, List.take_append_drop]
        rw [e, HTK.out] at h2
        exact (List.nodup_append.1 h2).1)))
      unfold RowR.val at hc
      generalize rs[k] = r at *
      generalize allX (rs.take k) = S0 at *
      obtain ⟨Ar, nr, cr, xs⟩ := r
      simp only at hc hlen HTK HND
      have hnr : nr ≤ 9223372036854775807 := HO.out.n63
      have HXL := Lib.hid (show xs.length = nr from HO.out.len)
      obtain ⟨wz, hwz⟩ : ∃ wz, wr = wz := ⟨_, rfl⟩
      subst hwz
      clear hbr
      go_upto_region 6 with fail
      clear hc
      go_loopw [17] (fun jv wx => ∃ j : Nat, jv = .int .i64 j ∧ j ≤ nr ∧ SnSt w w.heap.size (S0 ++ xs.take j) wx) (fun jv _ => nr - (intOf jv).toNat)
      case atStart => exact ⟨0, rfl, Nat.zero_le _, by simpa using HST.out⟩
      case round =>
        obtain ⟨j, rfl, hj, hst⟩ := hrel
        have HSJ := Lib.hid hst
        clear hst
        by_cases hlj : j < nr
        · have hbx := HSJ.out.low
          obtain ⟨ad2, u, rfl, _, hu, hc2⟩ := ((HO.out.rd.below hbx).more hbx.size).at_ hlj
          obtain ⟨y, hy, rfl⟩ := u32s_at hu
          have hy32 : y < 4294967296 := HO.out.x32 y (List.mem_of_getElem? hy)
          have HTJ := Lib.hid (show S0 ++ xs.take (j + 1) = (S0 ++ xs.take j) ++ [y] from by rw [List.take_add_one, hy, List.append_assoc]; rfl)
          have HLJ := Lib.hid hlj
          have hlk := HSJ.out.map.look tyOI hy32
          have hln : (S0 ++ xs.take j).length ≤ 1000000000000000 := by rw [List.length_append, List.length_take]; have := HXL.out; omega
          have HPF := Lib.hid (show ((S0 ++ xs.take j) ++ [y]) <+: (S0 ++ xs) from ⟨xs.drop (j + 1), by rw [← HTJ.out, List.append_assoc, List.take_append_drop]⟩)
          by_cases hm : y ∈ S0 ++ xs.take j
          · rw [if_pos hm] at hlk
            obtain ⟨w7, hpt, hm7, hg7⟩ := HSJ.out.map.put tyOI (v := 2) hy32 (by decide) (by omega)
            have hlk7 := hm7.look tyOI hy32
            rw [if_pos rfl] at hlk7
            have HFD := Lib.hid (HND.out (fun hnd => by
              have h1 : ((S0 ++ xs.take j) ++ [y]).Nodup := HPF.out.sublist.nodup hnd
              rw [List.nodup_append] at h1
              exact h1.2.2 y hm y (by simp) rfl))
            have HB7 := Lib.hid (HSJ.out.low.grown hg7 (Nat.le_trans (Nat.le_refl _) HSJ.out.low.size) (fun q e => by injection e with e; omega))
            clear hm7 hg7 hm hu hy HPF HND HTJ
            go_wp2_with fail
            go_ret
            exact ⟨by rw [HFD.out]; rfl, HB7.out⟩
          · rw [if_neg hm] at hlk
            obtain ⟨w7, hpt, hm7, hg7⟩ := HSJ.out.map.put tyOI (v := 1) hy32 (by decide) (by omega)
            have hlk7 := hm7.look tyOI hy32
            rw [if_pos rfl] at hlk7
            have HS7 := Lib.hid (show SnSt w w.heap.size (S0 ++ xs.take (j + 1)) w7 from ⟨by
                rw [HTJ.out, List.length_append]
                refine hm7.ext (fun x => ?_) (fun x => ?_)
                · by_cases hx : x = y
                  · subst hx; simp
                  · rw [if_neg hx]; simp [hx]
                · by_cases hx : x = y
                  · subst hx; simp
                  · rw [if_neg hx]; simp [hx], by
                rw [HTJ.out, List.nodup_append]
                exact ⟨HSJ.out.nd, by simp, fun a ha b hb e => by rcases List.mem_singleton.1 hb with rfl; exact hm (e ▸ ha)⟩,
              HSJ.out.low.grown hg7 HSJ.out.low.size (fun q e => by injection e with e; omega), Nat.le_refl _⟩)
            clear hm7 hg7 hm hu hy HPF HTJ
            go_wp2_with fail
            go_roundw
            case rel => exact ⟨j + 1, by go_num, HLJ.out, HS7.out⟩
            case measure => have := HLJ.out; simp [intOf]; omega
        · obtain rfl : j = nr := by omega
          have HSF := Lib.hid (show SnSt w w.heap.size (allX (rs.take (k + 1))) wr from by
            have := HSJ.out
            rw [List.take_of_length_le (by have := HXL.out; omega)] at this
            rw [HTK.out]
            exact this)
          clear hlj hj
          go_wp2_with fail
          go_roundw
          case rel => exact ⟨k + 1, by go_num, HLT.out, HSF.out⟩
          case measure => have := HLT.out; simp [intOf]; omega
    · obtain rfl : k = rs.length := by omega
      have HF := Lib.hid (show decide (¬ (allX rs).Nodup) = false ∧ Below w.heap.size w wr from by
        have h1 := HST.out.nd
        rw [List.take_of_length_le (Nat.le_refl _)] at h1
        exact ⟨decide_eq_false (fun h => h h1), HST.out.low⟩)
      clear hlt hk
      go_wp2_with fail
      go_ret
      exact ⟨by rw [HF.out.1]; rfl, HF.out.2⟩
end
end Go.Proofs.YtblekggklimpeaaGreatDoor

namespace Go.Proofs.YtblekggklimpeaaGreatDoor
open Go.RowKit
def pairsB (a b : List Nat) : List (Nat × Nat) := (a.zip b).flatMap (fun q => [(q.1, q.2), (q.2, q.1)])
theorem zip_take_succ {a b : List Nat} {k : Nat} (ha : k < a.length) (hb : k < b.length) : (a.take (k + 1)).zip (b.take (k + 1)) = (a.take k).zip (b.take k) ++ [(a[k], b[k])] := by
  rw [List.take_add_one, List.take_add_one, List.getElem?_eq_getElem ha, List.getElem?_eq_getElem hb, List.zip_append (by simp; omega)]
  rfl
theorem pairsB_take {a b : List Nat} {k : Nat} (ha : k < a.length) (hb : k < b.length) : pairsB (a.take (k + 1)) (b.take (k + 1)) = (pairsB (a.take k) (b.take k) ++ [(a[k], b[k])]) ++ [(b[k], a[k])] := by
  unfold pairsB
  rw [zip_take_succ ha hb, List.flatMap_append]
  simp
theorem pairsB_mem {a b : List Nat} {q : Nat × Nat} (h : q ∈ pairsB a b) : (q.1 ∈ a ∧ q.2 ∈ b) ∨ (q.1 ∈ b ∧ q.2 ∈ a) := by
  unfold pairsB at h
  obtain ⟨p, hp, hq⟩ := List.mem_flatMap.1 h
  have h1 := List.of_mem_zip hp
  rcases List.mem_cons.1 hq with rfl | hq
  · exact .inl h1
  · rcases List.mem_singleton.1 hq with rfl
    exact .inr ⟨h1.2, h1.1⟩
theorem pairsB_keys {a b : List Nat} {x : Nat} (h : x ∈ (pairsB a b).map (·.1)) : x ∈ a ∨ x ∈ b := by
  obtain ⟨q, hq, rfl⟩ := List.mem_map.1 h
  exact (pairsB_mem hq).imp (·.1) (·.1)
theorem goesM_mem {pl : List (Nat × Nat)} {x : Nat} (h : x ∈ pl.map (·.1)) : ∃ q ∈ pl, q.1 = x ∧ goesM pl x = q.2 := by
  unfold goesM
  cases hf : pl.find? (fun p => p.1 == x) with
  | some p => exact ⟨p, List.mem_of_find?_eq_some hf, by have := List.find?_some hf; simpa using this, rfl⟩
  | none =>
    rw [List.find?_eq_none] at hf
    obtain ⟨q, hq, rfl⟩ := List.mem_map.1 h
    exact absurd (by simp) (hf q hq)
theorem goesM_put {pl : List (Nat × Nat)} {x v : Nat} (hx : x ∉ pl.map (·.1)) (y : Nat) : goesM (pl ++ [(x, v)]) y = if y = x then v else goesM pl y := by
  unfold goesM
  rw [List.find?_append]
  by_cases hy : y = x
  · subst hy
    rw [if_pos rfl]
    have hf : pl.find? (fun p => p.1 == y) = none := by
      rw [List.find?_eq_none]
      intro q hq he
      exact hx (List.mem_map.2 ⟨q, hq, by simpa using he⟩)
    rw [hf]
    simp
  · rw [if_neg hy]
    have hf : [(x, v)].find? (fun p => p.1 == y) = none := by
      rw [List.find?_eq_none]
      intro q hq
      rcases List.mem_singleton.1 hq with rfl
      simp
      omega
    rw [hf]
    cases pl.find? (fun p => p.1 == y) <;> rfl
theorem MapR.put {w w' : World} {mb n x v : Nat} {pl : List (Nat × Nat)} (hx : x ∉ pl.map (·.1))
    (h : MapE 43 43 .u32 w' mb n (fun y => if y = x then (v : Int) else (goesM pl y : Nat)) (fun y => if y = x then true else decide (y ∈ pl.map (·.1)))) : MapR w' mb n (pl ++ [(x, v)]) := by
  refine h.ext (fun y => ?_) (fun y => ?_)
  · rw [goesM_put hx]
    split <;> rfl
  · rw [List.map_append]
    by_cases hy : y = x
    · subst hy; simp
    · rw [if_neg hy]; simp [hy]
/-- Renaming by pairs of objects. -/
theorem renOk_of {h : HM} {l : List Ob} (G : h.Good l) {pl : List (Nat × Nat)} (hq : ∀ q ∈ pl, h.isB q.2 = true) : RenOk h (renO pl) := by
  have key : ∀ o, o ∈ pl.map (·.1) → h.isB (renO pl o) = true := fun o ho => by
    rw [renO_yes ho]
    obtain ⟨q, hm, _, e⟩ := goesM_mem ho
    rw [e]
    exact hq q hm
  refine ⟨fun o ho => ?_, fun o ho => ?_, fun o ho => ?_⟩
  · by_cases hm : o ∈ pl.map (·.1)
    · exact isB_u32 G (key o hm)
    · rw [renO_no hm]; exact ho
  · by_cases hm : o ∈ pl.map (·.1)
    · unfold HM.clsB; rw [key o hm, Bool.or_true]
    · rw [renO_no hm]; exact ho
  · by_cases hm : o ∈ pl.map (·.1)
    · unfold HM.valB; rw [key o hm, Bool.or_true]
    · rw [renO_no hm]; exact ho
/-- What an exchange answers, and leaves. -/
def becE (h : HM) (a b : List Nat) : Nat := if fitsE h a b = 0 then (if (a ++ b).Nodup then 0 else 30) else fitsE h a b
def becH (h : HM) (l : List Ob) (a b : List Nat) : HM := if becE h a b = 0 then renH (renO (pairsB a b)) h l else h
def becL (h : HM) (l : List Ob) (a b : List Nat) : List Ob := if becE h a b = 0 then l.map (ren (renO (pairsB a b))) else l
theorem fits_ok {h : HM} {a b : List Nat} (hf : fitsE h a b = 0) : a.length = b.length ∧ (∀ x ∈ a, h.isB x = true) ∧ ∀ x ∈ b, h.isB x = true := by
  unfold fitsE at hf
  split at hf
  · rename_i hl
    split at hf
    · rename_i hx
      rw [Bool.and_eq_true, List.all_eq_true, List.all_eq_true] at hx
      exact ⟨hl, hx.1, hx.2⟩
    · cases hf
  · cases hf
theorem bec_keys {a b : List Nat} (hnd : (a ++ b).Nodup) {k : Nat} (ha : k < a.length) (hb : k < b.length) :
    a[k] ∉ (pairsB (a.take k) (b.take k)).map (·.1) ∧ b[k] ∉ (pairsB (a.take k) (b.take k) ++ [(a[k], b[k])]).map (·.1) := by
  obtain ⟨na, nb, hd⟩ := List.nodup_append.1 hnd
  have h1 : a[k] ∉ a.take k := fun h => by
    have := (List.take_sublist (k + 1) a).nodup na
    rw [List.take_add_one, List.getElem?_eq_getElem ha, List.nodup_append] at this
    exact this.2.2 _ h _ (by simp) rfl
  have h2 : b[k] ∉ b.take k := fun h => by
    have := (List.take_sublist (k + 1) b).nodup nb
    rw [List.take_add_one, List.getElem?_eq_getElem hb, List.nodup_append] at this
    exact this.2.2 _ h _ (by simp) rfl
  refine ⟨fun h => ?_, fun h => ?_⟩
  · rcases pairsB_keys h with h | h
    · exact h1 h
    · exact hd _ (List.getElem_mem ha) _ (List.mem_of_mem_take h) rfl
  · rw [List.map_append, List.mem_append] at h
    rcases h with h | h
    · rcases pairsB_keys h with h | h
      · exact hd _ (List.mem_of_mem_take h) _ (List.getElem_mem hb) rfl
      · exact h2 h
    · have e : b[k] = a[k] := by simpa using h
      exact hd _ (List.getElem_mem ha) _ (List.getElem_mem hb) e.symm
end Go.Proofs.YtblekggklimpeaaGreatDoor
