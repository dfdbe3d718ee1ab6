import Derived.Test.YthadjmhipckelaaGreatDoorJRefQ
import Derived.Test.YthadjmhipckelaaGreatDoorJAll
import Derived.Test.YthadjmhipckelaaGreatDoorJUntil
import Derived.Carry
set_option linter.unusedVariables false
set_option linter.unusedSimpArgs false
set_option linter.unusedSectionVars false
namespace Go.Proofs.YthadjmhipckelaaGreatDoor
section
open Go.RowKit
attribute [local go_sem] Oper.semAt_some
theorem SvAt.own' {B sg mb g : Nat} {L : List Nat} {w w' : World} {row : Option Nat} (S : SvAt w sg mb g L) (hm : mb < B) (hg : w.grownBy w' row) (hr : ∀ r, row = some r → B ≤ r ∧ ∃ o : Obj, w.heap[r]? = some o ∧ o.isCells = false) : SvAt w' sg mb g L := by
 refine ⟨S.box.same (hg.block _ S.box.lt (fun e => ?_)), S.map.same (hg.block _ S.map.lt (fun e => by have := (hr mb e.symm).1; omega))⟩
 obtain ⟨_, o, ho, hc⟩ := hr sg e.symm
 have hb := S.box
 unfold Blk at hb
 rw [hb] at ho
 injection ho with ho
 subst ho
 cases hc
theorem blk_ownI {B g : Nat} {w w' : World} {row : Option Nat} {t : TypeId} {cs : Array Value} (b : Blk w g t cs) (hg : w.grownBy w' row) (hr : ∀ r, row = some r → B ≤ r ∧ ∃ o : Obj, w.heap[r]? = some o ∧ o.isCells = false) : Blk w' g t cs :=
 b.same (hg.block g b.lt (fun e => by
  obtain ⟨_, o, ho, hc⟩ := hr g e.symm
  unfold Blk at b; rw [b] at ho; injection ho with ho; subst ho; cases hc))
def NewSvP (g : Nat) (L : List Nat) (w : World) (e : Ending) (w' : World) : Prop :=
 ∃ sg mb, e = .returned (.pointer (some ⟨sg, 0, none⟩)) ∧ SvAt w' sg mb g L ∧ w.heap.size ≤ sg ∧ w.heap.size ≤ mb ∧ Below w.heap.size w w'
set_option maxRecDepth 100000 in
set_option maxHeartbeats 4000000 in
theorem newSaver_any {w : World} {p : HP} {h : HM} {l : List Ob} (H : HAt w p h) (G : h.Good l) (hs : Spares w) :
 Calls Tryz.prog 40 #[ptr p.g] w (NewSvP p.g (oopsL l) w) := by
 refine (callsIn_wide (n := 6)).1 ?_
 refine callsIn_of_wp_marks Tryz.func40 rfl trivial ?_ rfl
 simp only [Tryz.ntmps40, List.size_toArray, List.length_cons, List.length_nil, Nat.reduceAdd, Nat.reduceSub, Array.replicate_succ, Array.replicate_zero, List.push_toArray, List.append_toArray, List.nil_append, List.cons_append]
 unfold ptr
 have hmm := @run_makeMap Tryz.prog
 gi_wp2_with fail
 refine ⟨trivial, (callsIn_wide.2 (all_any p.g _)).mono ?_⟩
 rintro e W2 ⟨rfl, rfl⟩
 have hsz : ((((w.alloc (.map #[] 0)).alloc (.cells #[.pointer (some ⟨p.g, 0, none⟩), .map (some w.heap.size)] 141)).alloc (.cells #[.pointer (some ⟨w.heap.size + 1, 0, none⟩)] 88)).alloc (.cells #[ptr p.g] 23)).heap.size = w.heap.size + 4 := by simp
 have M0 := MapU.made w 72
 have S0 : SvAt ((((w.alloc (.map #[] 0)).alloc (.cells #[.pointer (some ⟨p.g, 0, none⟩), .map (some w.heap.size)] 141)).alloc (.cells #[.pointer (some ⟨w.heap.size + 1, 0, none⟩)] 88)).alloc (.cells #[ptr p.g] 23)) (w.heap.size + 1) w.heap.size p.g [] := by
  have b0 := Blk.new (w.alloc (.map #[] 0)) 141 #[.pointer (some ⟨p.g, 0, none⟩), .map (some w.heap.size)]
  rw [World.size_alloc] at b0
  exact ⟨(b0.alloc _).alloc _, ((M0.below ((Below.refl _ _).alloc (Nat.le_refl _) _)).below ((Below.refl _ _).alloc (Nat.le_refl _) _)).below ((Below.refl _ _).alloc (Nat.le_refl _) _)⟩
 have B0 : Blk ((((w.alloc (.map #[] 0)).alloc (.cells #[.pointer (some ⟨p.g, 0, none⟩), .map (some w.heap.size)] 141)).alloc (.cells #[.pointer (some ⟨w.heap.size + 1, 0, none⟩)] 88)).alloc (.cells #[ptr p.g] 23)) (w.heap.size + 1 + 1) 88 #[.pointer (some ⟨w.heap.size + 1, 0, none⟩)] := by
  have b0 := Blk.new ((w.alloc (.map #[] 0)).alloc (.cells #[.pointer (some ⟨p.g, 0, none⟩), .map (some w.heap.size)] 141)) 88 #[.pointer (some ⟨w.heap.size + 1, 0, none⟩)]
  rw [World.size_alloc, World.size_alloc] at b0
  exact b0.alloc _
 have BH : Blk ((((w.alloc (.map #[] 0)).alloc (.cells #[.pointer (some ⟨p.g, 0, none⟩), .map (some w.heap.size)] 141)).alloc (.cells #[.pointer (some ⟨w.heap.size + 1, 0, none⟩)] 88)).alloc (.cells #[ptr p.g] 23)) (w.heap.size + 1 + 1 + 1) 23 #[ptr p.g] := by
  have b0 := Blk.new (((w.alloc (.map #[] 0)).alloc (.cells #[.pointer (some ⟨p.g, 0, none⟩), .map (some w.heap.size)] 141)).alloc (.cells #[.pointer (some ⟨w.heap.size + 1, 0, none⟩)] 88)) 23 #[ptr p.g]
  rw [World.size_alloc, World.size_alloc, World.size_alloc] at b0
  exact b0
 have hB0 : Below w.heap.size w ((((w.alloc (.map #[] 0)).alloc (.cells #[.pointer (some ⟨p.g, 0, none⟩), .map (some w.heap.size)] 141)).alloc (.cells #[.pointer (some ⟨w.heap.size + 1, 0, none⟩)] 88)).alloc (.cells #[ptr p.g] 23)) :=
  ((((Below.refl _ w).alloc (Nat.le_refl _) _).alloc (by simp) _).alloc (by simp; omega) _).alloc (by simp; omega) _
 gi_wp2_with fail
 unfold ptr at *
 generalize (((w.alloc (.map #[] 0)).alloc (.cells #[.pointer (some ⟨p.g, 0, none⟩), .map (some w.heap.size)] 141)).alloc (.cells #[.pointer (some ⟨w.heap.size + 1, 0, none⟩)] 88)).alloc (.cells #[.pointer (some ⟨p.g, 0, none⟩)] 23) = W0 at *
 clear M0 hmm
 have HI := Lib.hid (show HAt W0 p h ∧ Spares W0 from ⟨H.below hB0, hs.below hB0⟩)
 have hlt := World.block_lt_of_cell? _ _ (hs 0 (by omega))
 simp only at hlt
 have hroom := G.fit.room
 have hhi := G.fit.hi
 have hlen := oopsL_le G
 refine wpIn_rangeFunc_ownH (F := Fence.wide) rfl (by omega) (gf := 73) (lb := #[.pointer (some ⟨w.heap.size + 1 + 1 + 1, 0, none⟩)]) rfl trivial (enters_of Tryz.func73 (by kernel_rfl) rfl)
  (all_stops HI.out.1 G HI.out.2 5 (w.heap.size + 1 + 1 + 1) w.heap.size (BH.cell 0) hlt) KpB.trans (fun W l o o' _ h1 h2 _ => KpB.book W l o o' h1 h2) (Below.refl _ _) (fun _ => rfl)
  (fun pre W => SvAt W (w.heap.size + 1) w.heap.size p.g (pre.map fun i => 2 * posOf (l.take i.1)) ∧ Blk W (w.heap.size + 1 + 1) 88 #[.pointer (some ⟨w.heap.size + 1, 0, none⟩)] ∧ Below w.heap.size w W)
  (fun c pre W => False)
  (fun pre A B row hs hg hr => ⟨hs.1.own' (by omega) hg hr, blk_ownI hs.2.1 hg hr, hs.2.2.grown hg hs.2.2.size (fun k e => by have := (hr k e).1; omega)⟩)
  (fun c pre A B row hs hg hr => hs.elim)
  ⟨S0, B0, hB0⟩
  (fun x a' W => a' = { tmps := #[.pointer (some ⟨p.g, 0, none⟩), undef, .pointer none, .pointer (some ⟨w.heap.size + 1 + 1, 0, none⟩), .int .u32 ((2 * posOf (l.take x.1) : Nat) : Int), .pointer (some ⟨p.g, 0, none⟩), .map (some w.heap.size), .agg #[.pointer (some ⟨p.g, 0, none⟩), .map (some w.heap.size)], .pointer (some ⟨w.heap.size + 1, 0, none⟩), .pointer (some ⟨p.g, 0, none⟩), .func (.func 73) #[] #[.pointer (some ⟨w.heap.size + 1 + 1 + 1, 0, none⟩)], .int .u32 ((2 * posOf (l.take x.1) : Nat) : Int), (l[x.1]'x.2).x.val, undef, undef, undef, undef, undef, undef, undef, undef, undef, undef, undef, undef, undef], defers := [] })
  (fun x a' _ X Y row hs hg hr => hs)
  ?assign ?body ?done ?stop
 case assign =>
  rintro lp pre x W K hI hK
  rw [show allV l x = #[.int .u32 ((2 * posOf (l.take x.1) : Nat) : Int), (l[x.1]'x.2).x.val] from rfl]
  have HI0 := Lib.hid hI
  have HK := Lib.hid hK
  clear hK hI
  generalize (l[x.1]'x.2).x.val = X at *
  generalize 2 * posOf (l.take x.1) = o at *
  gi_wp2_with fail
  exact HK.out _ _ ((KeepsOthers.refl _).from _) (KpB.refl _ _ _) HI0.out rfl
 case body =>
  rintro lp pre x a' W hl hlr ⟨S1, B1, hB1⟩ rfl hltx
  have hpl := posOf_take_lt G x.1 x.2
  have ho : 2 * posOf (l.take x.1) < 4294967296 := by omega
  have hmp : (pre ++ [x]).map (fun i => 2 * posOf (l.take i.1)) = (pre.map fun i => 2 * posOf (l.take i.1)) ++ [2 * posOf (l.take x.1)] := by rw [List.map_append]; rfl
  have hLl : (pre.map fun i => 2 * posOf (l.take i.1)).length ≤ 1048576 := by rw [List.length_map]; rw [oopsL_len] at hlen; omega
  generalize (pre.map fun i => 2 * posOf (l.take i.1)) = L at *
  generalize 2 * posOf (l.take x.1) = o at *
  generalize (l[x.1]'x.2).x.val = X at *
  have hm := stL_le L
  have HMP := Lib.hid hmp
  clear hpl hmp
  apply wpIn_block
  refine wpIn_region_U 12 (fun w' => w'.cell? ⟨w.heap.size + 1 + 1, 0, none⟩ = some (.pointer (some ⟨w.heap.size + 1, 0, none⟩)) ∧ w'.cell? ⟨w.heap.size + 1, 1, none⟩ = some (.map (some w.heap.size)) ∧ ∀ ty, (Builtin.len_ #[65] ty #[.map (some w.heap.size)]).run Tryz.prog w' = .ok (.int .i64 ((stL L).2.1 : Nat)) w') (by kernel_rfl) (by kernel_rfl) ?_
  have hbd : Below W.heap.size W W.drew := ⟨rfl, rfl, rfl, Nat.le_refl _, fun _ _ => rfl⟩
  have S2 := S1.below hbd
  have B2 := B1.below hbd B1.lt
  have hB2 := below_top hB1 hbd
  have hwc : IntKind.u32.wrap (((stL L).2.1 : Int) + 1) = ((stL L).2.1 : Int) + 1 := by show (((stL L).2.1 : Int) + 1) % 4294967296 = _; omega
  have hwi : IntKind.i64.wrap (((stL L).2.1 : Int) + 1) = ((stL L).2.1 : Int) + 1 := IntWalk.i64_in _ (by omega)
  have HBD := Lib.hid hbd
  clear S1 B1 hB1 hbd
  generalize W.drew = W7 at *
  obtain ⟨W9, hpt, HM9, hg9⟩ := S2.map.put oopTyU ho (by omega)
  obtain ⟨mes, mc, hmo⟩ := S2.map.obj
  have hS : W7.cell? ⟨w.heap.size + 1 + 1, 0, none⟩ = some (.pointer (some ⟨w.heap.size + 1, 0, none⟩)) ∧ W7.cell? ⟨w.heap.size + 1, 1, none⟩ = some (.map (some w.heap.size)) ∧ ∀ ty, (Builtin.len_ #[65] ty #[.map (some w.heap.size)]).run Tryz.prog W7 = .ok (.int .i64 ((stL L).2.1 : Nat)) W7 := ⟨B2.cell 0, S2.box.cell 1, fun ty => S2.map.len oopTyU ty⟩
  have HFIN := Lib.hid (show KeepsFrom W0.heap.size W W9 ∧ KpB w.heap.size W0.heap.size W W9 ∧ SvAt W9 (w.heap.size + 1) w.heap.size p.g ((pre ++ [x]).map fun i => 2 * posOf (l.take i.1)) ∧ Blk W9 (w.heap.size + 1 + 1) 88 #[.pointer (some ⟨w.heap.size + 1, 0, none⟩)] ∧ Below w.heap.size w W9 from by
   have hb := HBD.out
   have hne : ∀ k, k < W7.heap.size → k ≠ w.heap.size → W9.heap[k]? = W7.heap[k]? := fun k hk hn => hg9.block k hk (fun e => hn (by injection e))
   refine ⟨⟨Nat.le_trans hb.size hg9.size, fun k o' hk ho' hc => ?_⟩, ⟨hg9.os.trans hb.os, hg9.tape.trans hb.tape, hg9.output.trans hb.output, Nat.le_trans hb.size hg9.size, fun k cs t fr hk hh => ?_⟩, ⟨S2.box.same (hne _ S2.box.lt (by omega)), by rw [HMP.out]; exact HM9⟩, B2.same (hne _ B2.lt (by omega)), hB2.grown hg9 hB2.size (fun k e => by injection e with e; omega)⟩
   ·have h1 := lt_of_get ho'
    have h2 := hb.size
    exact (hne k (by omega) (by omega)).trans ((hb.block k h1).trans ho')
   ·have h1 := lt_of_get hh
    have h2 := hb.size
    have h3 := (hb.block k h1).trans hh
    exact (hne k (by omega) (fun e => by subst e; rw [hmo] at h3; injection h3 with h3; cases h3)).trans h3)
  clear S2 B2 hB2 HM9 hg9 hmo
  refine U_read 0 (v := (.pointer (some ⟨w.heap.size + 1, 0, none⟩))) rfl (by kernel_rfl) (fun _ _ _ h => h) hS (by rfl) (fun w' hw' => by obtain ⟨h0, h1, h2⟩ := hw'; go_simp) ?_
  try simp only [Act.put, List.setIfInBounds_toArray, List.set_cons_zero, List.set_cons_succ]
  refine U_read 1 (v := (.pointer (some ⟨w.heap.size + 1, 0, none⟩))) rfl (by kernel_rfl) (fun _ _ _ h => h) hS (by rfl) (fun w' hw' => by obtain ⟨h0, h1, h2⟩ := hw'; go_simp) ?_
  try simp only [Act.put, List.setIfInBounds_toArray, List.set_cons_zero, List.set_cons_succ]
  refine U_read 2 (v := (.pointer (some ⟨w.heap.size + 1, 1, none⟩))) rfl (by kernel_rfl) (fun _ _ _ h => h) hS (by rfl) (fun w' hw' => by obtain ⟨h0, h1, h2⟩ := hw'; go_simp) ?_
  try simp only [Act.put, List.setIfInBounds_toArray, List.set_cons_zero, List.set_cons_succ]
  refine U_read 3 (v := (.map (some w.heap.size))) rfl (by kernel_rfl) (fun _ _ _ h => h) hS (by rfl) (fun w' hw' => by obtain ⟨h0, h1, h2⟩ := hw'; go_simp) ?_
  try simp only [Act.put, List.setIfInBounds_toArray, List.set_cons_zero, List.set_cons_succ]
  refine U_read 4 (v := (.int .u32 (o : Int))) rfl (by kernel_rfl) (fun _ _ _ h => h) hS (by rfl) (fun w' hw' => by obtain ⟨h0, h1, h2⟩ := hw'; go_simp) ?_
  try simp only [Act.put, List.setIfInBounds_toArray, List.set_cons_zero, List.set_cons_succ]
  refine U_read 5 (v := (.pointer (some ⟨w.heap.size + 1, 0, none⟩))) rfl (by kernel_rfl) (fun _ _ _ h => h) hS (by rfl) (fun w' hw' => by obtain ⟨h0, h1, h2⟩ := hw'; go_simp) ?_
  try simp only [Act.put, List.setIfInBounds_toArray, List.set_cons_zero, List.set_cons_succ]
  refine U_read 6 (v := (.pointer (some ⟨w.heap.size + 1, 0, none⟩))) rfl (by kernel_rfl) (fun _ _ _ h => h) hS (by rfl) (fun w' hw' => by obtain ⟨h0, h1, h2⟩ := hw'; go_simp) ?_
  try simp only [Act.put, List.setIfInBounds_toArray, List.set_cons_zero, List.set_cons_succ]
  refine U_read 7 (v := (.pointer (some ⟨w.heap.size + 1, 1, none⟩))) rfl (by kernel_rfl) (fun _ _ _ h => h) hS (by rfl) (fun w' hw' => by obtain ⟨h0, h1, h2⟩ := hw'; go_simp) ?_
  try simp only [Act.put, List.setIfInBounds_toArray, List.set_cons_zero, List.set_cons_succ]
  refine U_read 8 (v := (.map (some w.heap.size))) rfl (by kernel_rfl) (fun _ _ _ h => h) hS (by rfl) (fun w' hw' => by obtain ⟨h0, h1, h2⟩ := hw'; go_simp) ?_
  try simp only [Act.put, List.setIfInBounds_toArray, List.set_cons_zero, List.set_cons_succ]
  refine U_read 9 (v := (.int .i64 ((stL L).2.1 : Int))) rfl (by kernel_rfl) (fun _ _ _ h => h) hS (by rfl) (fun w' hw' => by obtain ⟨h0, h1, h2⟩ := hw'; go_simp) ?_
  try simp only [Act.put, List.setIfInBounds_toArray, List.set_cons_zero, List.set_cons_succ]
  refine U_read 10 (v := (.int .i64 (((stL L).2.1 : Int) + 1))) rfl (by kernel_rfl) (fun _ _ _ h => h) hS (by rfl) (fun w' hw' => by obtain ⟨h0, h1, h2⟩ := hw'; go_simp) ?_
  try simp only [Act.put, List.setIfInBounds_toArray, List.set_cons_zero, List.set_cons_succ]
  refine U_read 11 (v := (.int .u32 (((stL L).2.1 : Int) + 1))) rfl (by kernel_rfl) (fun _ _ _ h => h) hS (by rfl) (fun w' hw' => by obtain ⟨h0, h1, h2⟩ := hw'; go_simp) ?_
  try simp only [Act.put, List.setIfInBounds_toArray, List.set_cons_zero, List.set_cons_succ]
  refine U_one 12 (by kernel_rfl) rfl rfl (fun K hK => ?_)
  go_simp
  refine hK _ _ (fun h => absurd h (by decide)) ?_
  clear hK K
  try simp only [Act.put, List.setIfInBounds_toArray, List.set_cons_zero, List.set_cons_succ]
  refine U_done (by kernel_rfl) ?_ _
  simp only [Calm, Exit.then]
  exact HFIN.out
 case done =>
  rintro D xs W hD rfl ⟨S1, B1, hB1⟩ hK
  rw [oopsL_eq] at S1
  have c1 := B1.cell 0
  have HFN := Lib.hid (And.intro S1 hB1)
  clear S1 B1 hB1
  gi_wp2_with fail
  refine ⟨by simp, .inl ⟨_, _, rfl, run_takeDeferred hK, ?_⟩⟩
  have hc := HFN.out.1.own' (B := W0.heap.size) (by omega) (grownBy_putObj' W D (.deferred none)) (fun r e => by cases e; exact ⟨hD, _, hK, rfl⟩)
  refine ⟨.pointer (some ⟨w.heap.size + 1, 0, none⟩), by simp [results, Tryz.results40, go_sem], _, _, rfl, hc, by omega, by omega, ?_⟩
  exact HFN.out.2.trans (belowK_b (w := w) (Nat.le_refl _) _ D _ _ (by omega) hK rfl rfl)
 case stop =>
  rintro D c pre W hD hp hx hK
  exact hx.elim
end
section
open Go.RowKit
attribute [local go_sem] Oper.semAt_some
structure NeedA (Kp : World → World → Prop) (n0 : Nat) (h : HM) : Prop where
 heap : ∀ {A B : World} {pc : HP}, Kp A B → (∀ j, pc.has j → n0 ≤ j) → HAt A pc h → HAt B pc h
 spares : ∀ {A B : World}, Kp A B → Spares A → Spares B
set_option maxRecDepth 100000 in
set_option maxHeartbeats 4000000 in
theorem all_stopsK {w : World} {p : HP} {h : HM} {l : List Ob} (H : HAt w p h) (G : h.Good l) (hs : Spares w) (n Bh : Nat) (hbox : w.cell? ⟨Bh, 0, none⟩ = some (ptr p.g)) (Kp : World → World → Prop) (K : NeedA Kp w.heap.size h) :
 SeqStopsK Fence.wide n Tryz.prog 73 #[.pointer (some ⟨Bh, 0, none⟩)] (allV l) Kp (fun xs => xs = List.finRange l.length) (fun pre => pre <+: List.finRange l.length) l.length w :=
 fun lp J Jx W hW hJ hJx hY h0 => by
 have hBh := World.block_lt_of_cell? _ _ hbox
 have HW := H.below hW
 have hbW : W.cell? ⟨Bh, 0, none⟩ = some (ptr p.g) := (hW.cell (p := ⟨Bh, 0, none⟩) hBh).trans hbox
 have HC := Lib.hid (Clone_any HW G.fit)
 have HsW := hs.below hW
 refine callsIn_of_wp Tryz.func73 rfl trivial ?_ rfl
 simp only [Tryz.ntmps73, List.size_toArray, List.length_cons, List.length_nil, Nat.reduceAdd, Nat.reduceSub, Array.replicate_succ, Array.replicate_zero, List.push_toArray, List.append_toArray, List.nil_append, List.cons_append]
 unfold ptr at hbW HC
 have HY := Lib.hid hY
 have KN := Lib.hid K
 have HJ := Lib.hid (show ∀ s A B, J s A → Below A.heap.size A B → J s B from fun s A B hs hb => hJ s A B none hs ⟨hb.os, hb.tape, hb.output, hb.size, fun k hk _ => hb.block k hk⟩ (fun r e => by cases e))
 have HJ0 := Lib.hid h0
 have HWD := Lib.hid hW
 clear hY hJ hJx h0 hW
 gi_wp2_with fail
 refine ⟨trivial, fun hh => (by cases hh), (callsIn_wide.2 HC.out).mono ?_⟩
 rintro e W1 ⟨pc, rfl, Hc, hnew, hb1⟩
 have HJ1 := HJ.out _ _ _ HJ0.out hb1
 have Hs1 := HsW.below hb1
 have HN := Lib.hid hnew
 have HF := Lib.hid (first_any Hc G.fit)
 rw [first_oopI G] at HF
 unfold ptr at HF
 clear hbW hnew
 gi_wp2_with fail
 refine ⟨trivial, fun hh => (by cases hh), (callsIn_wide.2 HF.out).mono ?_⟩
 rintro e W2 ⟨rfl, rfl⟩
 have HH := Lib.hid (show HAt W1 pc h ∧ Spares W1 ∧ J ((List.finRange l.length).take 0) W1 from ⟨Hc, Hs1, HJ1⟩)
 clear Hc Hs1 HJ1 hb1
 gi_wp2_with fail
 gi_loopw [4] (fun o wr => ∃ k : Nat, k ≤ l.length ∧ o = .int .u32 ((oopI l k : Nat) : Int) ∧ HAt wr pc h ∧ Spares wr ∧ J ((List.finRange l.length).take k) wr) (fun o wr => mesO o)
 case atStart => exact ⟨0, by omega, rfl, HH.out.1, HH.out.2.1, HH.out.2.2⟩
 case round =>
  obtain ⟨k, hk, rfl, Hk, hsk, hjk⟩ := hrel
  by_cases hlt : k < l.length
  ·have hroom := G.fit.room
   have hhi := G.fit.hi
   have hpl := posOf_take_lt G k hlt
   have hpp := posOf_pos (l.take k)
   have hO := Lib.hid (show oopI l k = 2 * posOf (l.take k) by unfold oopI; rw [if_pos hlt])
   have hN := Lib.hid (next_oopI G k hlt)
   have hB := isB_at G k hlt
   have HX := Lib.hid (hd_at' G k hlt)
   have HAT := Lib.hid (fun w => at_any pc.g (2 * posOf (l.take k)) (by omega) (objB_pos _) w)
   have HHD := Lib.hid (fun w' (H : HAt w' pc h) (hs : Spares w') => header_any H G.fit hs (posOf (l.take k)) (G.laid.heads _ (by unfold HM.isB at hB; simp only [Bool.and_eq_true, half_pos] at hB; exact hB.2)))
   have HNX := Lib.hid (fun w' (H : HAt w' pc h) (hs : Spares w') => next_any H G.fit G.laid.heads hs (2 * posOf (l.take k)) (by omega))
   have HNV := Lib.hid (show h.nextV (2 * posOf (l.take k)) = .tuple #[.int .u32 (oopI l (k + 1) : Nat), .int .i64 0] by unfold HM.nextV; rw [if_pos hB, hN.out])
   have HME := Lib.hid (show oopI l (k + 1) = 0 ∨ 2 * posOf (l.take k) < oopI l (k + 1) by
    unfold oopI
    split
    ·have := posOf_take_succ k hlt; right; omega
    ·exact .inl rfl)
   have HMX := Lib.hid (show oopI l (k + 1) < 4294967296 by
    unfold oopI
    split
    ·rename_i h1; have := posOf_take_lt G (k + 1) h1; omega
    ·omega)
   have HTK := Lib.hid (show (List.finRange l.length).take k ++ [⟨k, hlt⟩] = (List.finRange l.length).take (k + 1) by
    rw [List.take_add_one, List.getElem?_eq_getElem (by simpa using hlt)]; simp)
   have HPL := Lib.hid (show ((List.finRange l.length).take k).length < l.length by simp; omega)
   have HAV := Lib.hid (show allV l ⟨k, hlt⟩ = #[.int .u32 ((2 * posOf (l.take k) : Nat) : Int), .agg #[.int .i64 (l[k].x.size : Nat), .int .i64 (l[k].x.fmt : Nat), .int .i64 (l[k].x.spare : Nat), .int .u32 (l[k].x.cls : Nat), .int .u32 (l[k].x.ser : Nat)]] from rfl)
   have HXV := Lib.hid (show (h.hd (posOf (l.take k))).val = .agg #[.int .i64 (l[k].x.size : Nat), .int .i64 (l[k].x.fmt : Nat), .int .i64 (l[k].x.spare : Nat), .int .u32 (l[k].x.cls : Nat), .int .u32 (l[k].x.ser : Nat)] by rw [HX.out]; rfl)
   have HK := Lib.hid (show HAt wr pc h ∧ Spares wr ∧ J ((List.finRange l.length).take k) wr from ⟨Hk, hsk, hjk⟩)
   have HYk := Lib.hid (fun W1 hj => HY.out ((List.finRange l.length).take k) ⟨k, hlt⟩ W1 hj HPL.out)
   rw [HAV.out] at HYk
   rw [hO.out]
   rw [HXV.out] at HHD
   rw [HNV.out] at HNX
   rw [half_pos] at HAT
   clear Hk hsk hjk hB hO HX hN HXV HNV HAV HPL HH
   generalize (⟨k, hlt⟩ : Fin l.length) = xk at *
   generalize l[k].x = X at *
   have ho : (((2 * posOf (l.take k) : Nat) : Int) != 0) = true := by simp; omega
   have HO32 := Lib.hid (show 2 * posOf (l.take k) < 4294967296 ∧ 0 < 2 * posOf (l.take k) by omega)
   generalize hq : 2 * posOf (l.take k) = o at *
   clear hq
   generalize posOf (l.take k) = q at *
   unfold ptr at HAT HHD HNX
   gi_wp2_with fail
   refine ⟨trivial, fun hh => (by cases hh), (callsIn_wide.2 (HAT.out _)).mono ?_⟩
   rintro e W3 ⟨rfl, rfl⟩
   gi_wp2_with fail
   refine ⟨trivial, fun hh => (by cases hh), (callsIn_wide.2 (HHD.out _ HK.out.1 HK.out.2.1)).mono ?_⟩
   rintro e W4 ⟨rfl, hb4⟩
   have HK4 := Lib.hid (show HAt W4 pc h ∧ Spares W4 ∧ J ((List.finRange l.length).take k) W4 from ⟨HK.out.1.below hb4, HK.out.2.1.below hb4, HJ.out _ _ _ HK.out.2.2 hb4⟩)
   clear hb4 HK
   obtain ⟨fn, tmps, assign, body, hy, hR⟩ := HYk.out W4 HK4.out.2.2
   gi_wp2_with fail
   refine ⟨fun hh => (by cases hh), hR.mono ?_⟩
   rintro e W5 (⟨rfl, hJ5, hk5⟩ | ⟨rfl, hx5⟩)
   ·have HK5 := Lib.hid (show HAt W5 pc h ∧ Spares W5 ∧ J ((List.finRange l.length).take (k + 1)) W5 from
     ⟨KN.out.heap hk5 (fun j hj => Nat.le_trans HWD.out.size (HN.out j hj)) HK4.out.1, KN.out.spares hk5 HK4.out.2.1, by rw [← HTK.out]; exact hJ5⟩)
    clear hJ5 hk5 hy hR HK4
    gi_wp2_with fail
    refine ⟨trivial, fun hh => (by cases hh), (callsIn_wide.2 (HNX.out _ HK5.out.1 HK5.out.2.1)).mono ?_⟩
    rintro e W6 ⟨rfl, hb6⟩
    have HK6 := Lib.hid (show HAt W6 pc h ∧ Spares W6 ∧ J ((List.finRange l.length).take (k + 1)) W6 from ⟨HK5.out.1.below hb6, HK5.out.2.1.below hb6, HJ.out _ _ _ HK5.out.2.2 hb6⟩)
    clear hb6 HK5
    generalize hno : oopI l (k + 1) = no at *
    have HNO := Lib.hid hno
    clear hno
    gi_wp2_with fail
    go_roundw
    case rel => exact ⟨k + 1, by omega, by rw [HNO.out], HK6.out.1, HK6.out.2.1, HK6.out.2.2⟩
    case measure => exact mesO_lt HME.out HO32.out.2 HO32.out.1 HMX.out
   ·clear hy HK4
    gi_wp2_with fail
    refine bodyPost_ret (results_none rfl _ _ _) rfl ?_
    exact ⟨⟨_, rfl⟩, .inr ⟨_, ⟨(List.finRange l.length).drop (k + 1), by rw [HTK.out, List.take_append_drop]⟩, hx5⟩⟩
  ·obtain rfl : k = l.length := by omega
   have hO := Lib.hid (show oopI l l.length = 0 by unfold oopI; rw [if_neg hlt])
   have HFin := Lib.hid (show J (List.finRange l.length) wr by have := hjk; rw [List.take_of_length_le (by simp)] at this; exact this)
   rw [hO.out]
   clear Hk hsk hjk hlt hk
   gi_wp2_with fail
   go_end0
   exact ⟨⟨_, rfl⟩, .inl ⟨_, rfl, HFin.out⟩⟩
end
end Go.Proofs.YthadjmhipckelaaGreatDoor
