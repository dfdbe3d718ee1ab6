/- The program's Refs. -/
/- CollectOwn: what the lists hold, and how they lie. -/
import Derived.Test.YtblekggklimpeaaGreatDoorJKRObjs
import Derived.Test.YtblekggklimpeaaGreatDoorJKRenM
import Derived.Test.YtblekggklimpeaaGreatDoorJKLay
import Derived.Test.YtblekggklimpeaaGreatDoorJUntil
import Derived.Test.YtblekggklimpeaaGreatDoorJKNamed
import Derived.Test.YtblekggklimpeaaGreatDoorJKPathP
import Derived.Test.YtblekggklimpeaaGreatDoorJKBuilt
set_option linter.unusedVariables false
set_option linter.unusedSimpArgs false
set_option linter.unusedSectionVars false
namespace Go.Proofs.YtblekggklimpeaaGreatDoor
open Go.RowKit
attribute [local go_sem] Oper.semAt_some
/-- What Refs answers. -/
def refsL (h : HM) (l : List Ob) (o : Nat) : List Nat := if h.isB o = true then selL (refP h l o) l l.length else []
theorem mem_names_k2 {h : HM} {l : List Ob} (G : h.Good l) {o x : Nat} (hi : h.isB o = true) : ((namM h x false).filter k2).contains o = decide (o ∈ namesM h x) := by
  have hk : k2 o = true := by
    obtain ⟨k, hk, rfl⟩ := isB_k G hi
    have := posOf_pos (l.take k)
    unfold k2 kindM
    rw [if_neg (by omega), if_neg (by omega)]
    rfl
  rw [Bool.eq_iff_iff]
  simp [namM, hk]
set_option maxRecDepth 100000 in
set_option maxHeartbeats 4000000 in
theorem refs_any {w : World} {p : HP} {h : HM} {l : List Ob} (H : HAt w p h) (G : h.Good l) (hs : Spares w) (o : Nat) (ho : o < 4294967296) :
    Calls Tryz.prog 16 #[ptr p.g, .int .u32 o] w (OopsE (refsL h l o) (if h.isB o = true then 0 else 3) w) := by
  have HER := Lib.hid (show ∃ er : Nat, (if h.isB o = true then 0 else 3) = er from ⟨_, rfl⟩)
  obtain ⟨er, her⟩ := HER.out
  rw [her]
  have HE0 := Lib.hid her
  clear her HER
  refine (callsIn_wide (n := 6)).1 ?_
  refine callsIn_of_wp_marks Tryz.func16 rfl trivial ?_ rfl
  simp only [Tryz.ntmps16, List.size_toArray, List.length_cons, List.length_nil, Nat.reduceAdd, Nat.reduceSub, Array.replicate_succ, Array.replicate_zero, List.push_toArray, List.append_toArray, List.nil_append, List.cons_append]
  have HPA := Lib.hid (fun W => all_any p.g W)
  have HIS := Lib.hid (fun (w' : World) (hb : Below w.heap.size w w') => is_any (H.below hb) G.fit o ho)
  have bh := (Blk.new w 27 #[.pointer (some ⟨p.g, 0, none⟩)]).alloc (.cells #[.int .u32 (o : Int)] 43)
  have bo := Blk.new (w.alloc (.cells #[.pointer (some ⟨p.g, 0, none⟩)] 27)) 43 #[.int .u32 (o : Int)]
  have hB1 : Below w.heap.size w ((w.alloc (.cells #[.pointer (some ⟨p.g, 0, none⟩)] 27)).alloc (.cells #[.int .u32 (o : Int)] 43)) := ((Below.refl _ w).alloc (Nat.le_refl _) _).alloc (by simp) _
  have hsz : ((w.alloc (.cells #[.pointer (some ⟨p.g, 0, none⟩)] 27)).alloc (.cells #[.int .u32 (o : Int)] 43)).heap.size = w.heap.size + 2 := by simp
  simp only [World.size_alloc] at bo
  unfold ptr at HPA HIS ⊢
  gi_upto_region 1 with fail
  generalize (w.alloc (.cells #[.pointer (some ⟨p.g, 0, none⟩)] 27)).alloc (.cells #[.int .u32 (o : Int)] 43) = W1 at *
  have c1 := bh.cell 0
  have c2 := bo.cell 0
  gi_wp2_with fail
  refine ⟨trivial, (callsIn_wide.2 (HIS.out _ hB1)).mono ?_⟩
  rintro e W1' ⟨rfl, rfl⟩
  by_cases hi : h.isB o = true
  rotate_left
  · have hi' : h.isB o = false := by simpa using hi
    rw [hi']
    have HR := Lib.hid (show refsL h l o = [] by unfold refsL; rw [if_neg hi])
    have HB1 := Lib.hid hB1
    have he : er = 3 := by have := HE0.out; rw [if_neg hi] at this; exact this.symm
    subst he
    clear hi hi' hB1 HE0
    gi_wp2_with fail
    exact ⟨.tuple #[.slice none 0 0, .int .i64 3], by simp [results, Tryz.results16, go_sem], _, rfl, by rw [HR.out]; exact ⟨rfl, .inl ⟨rfl, rfl⟩⟩, HB1.out⟩
  rw [hi]
  have HR := Lib.hid (show refsL h l o = selL (refP h l o) l l.length by unfold refsL; rw [if_pos hi])
  have he : er = 0 := by have := HE0.out; rw [if_pos hi] at this; exact this.symm
  subst he
  have HI := Lib.hid hi
  clear hi
  gi_wp2_with fail
  refine ⟨trivial, (callsIn_wide.2 (HPA.out _)).mono ?_⟩
  rintro e W2 ⟨rfl, rfl⟩
  have bl := (Blk.new W1 23 #[.slice none 0 0]).alloc (.cells #[.pointer (some ⟨p.g, 0, none⟩)] 27)
  have bh2 := Blk.new (W1.alloc (.cells #[.slice none 0 0] 23)) 27 #[.pointer (some ⟨p.g, 0, none⟩)]
  have hb2 : Below W1.heap.size W1 ((W1.alloc (.cells #[.slice none 0 0] 23)).alloc (.cells #[.pointer (some ⟨p.g, 0, none⟩)] 27)) := ((Below.refl _ _).alloc (Nat.le_refl _) _).alloc (by simp) _
  have hsz2 : ((W1.alloc (.cells #[.slice none 0 0] 23)).alloc (.cells #[.pointer (some ⟨p.g, 0, none⟩)] 27)).heap.size = w.heap.size + 4 := by simp; omega
  have hs1 : W1.heap.size < (W1.alloc (.cells #[.slice none 0 0] 23)).heap.size := by simp
  rw [World.size_alloc, hsz] at bh2
  rw [hsz] at bl
  have bh0 := bh.below hb2 bh.lt
  have bo0 := bo.below hb2 bo.lt
  have hB0 := below_top hB1 hb2
  clear hb2
  gi_wp2_with fail
  obtain ⟨W0, hW0⟩ : ∃ W0, (W1.alloc (.cells #[.slice none 0 0] 23)).alloc (.cells #[.pointer (some ⟨p.g, 0, none⟩)] 27) = W0 := ⟨_, rfl⟩
  rw [hW0] at bo0 bl bh0 bh2 hB0 hsz2
  rw [hW0]
  clear hW0 hs1 hsz c1 c2 bh bo hB1
  have HII := Lib.hid (show HAt W0 p h ∧ Spares W0 from ⟨H.below hB0, hs.below hB0⟩)
  have hlt := World.block_lt_of_cell? _ _ (hs 0 (by omega))
  simp only at hlt
  have hl2 : l.length ≤ 1048576 := by have h1 := oopsL_le G; rw [oopsL_len] at h1; exact h1
  have HNA := Lib.hid (fun (w' : World) (hb : Below w.heap.size w w') (x : Fin l.length) => named_any (H.below hb) G (hs.below hb) (isB_at G x.1 x.2) false)
  have HNK := Lib.hid (fun (x : Nat) => mem_names_k2 (x := x) G HI.out)
  have HNL := Lib.hid (fun (x : Fin l.length) => nam_len G (isB_at G x.1 x.2) false)
  obtain ⟨i0, hi0, hz0, hz1, hz2⟩ := info_parts info_oop
  have HS0 := Lib.hid (BoxR.start bl)
  have hne1 : w.heap.size ≠ w.heap.size + 2 := by omega
  have hne2 : w.heap.size + 1 ≠ w.heap.size + 2 := by omega
  have HBO := Lib.hid (fun (xs : List Nat) (v : Value) (W : World) (C : BoxR W0 (w.heap.size + 2) xs v W) => And.intro (C.blk bh0 hne1) (C.blk bo0 hne2))
  have HB0 := Lib.hid hB0
  have HTB := Lib.hid (fun (xs : List Nat) (v : Value) (W : World) (C : BoxR W0 (w.heap.size + 2) xs v W) => C.toBelow hB0 (by omega))
  refine wpIn_rangeFunc_ownH (F := Fence.wide) rfl (by omega) (gf := 70) (lb := #[.pointer (some ⟨w.heap.size + 2 + 1, 0, none⟩)]) rfl trivial (enters_of Tryz.func70 (by kernel_rfl) rfl)
    (all_stopsG HII.out.1 G HII.out.2 5 (w.heap.size + 2 + 1) (bh2.cell 0) (KpR w.heap.size W0.heap.size (w.heap.size + 2)) (SafeR w.heap.size W0.heap.size (w.heap.size + 2))
      (fun A B k cs t fr h1 h2 h3 => h2.step h1 h3) (fun A B k h1 h2 => h2.below h1)
      (fun W W1 k h1 h2 h3 => SafeR.new bl (below_top h1 h2) (.inr (Nat.le_trans h1.size h3)))
      (fun W h1 => SafeR.new bl h1 (.inl hlt)))
    KpR.trans (fun W l o o' h0 h1 h2 _ => KpR.book W l o o' (by omega) h1 h2) (Below.refl _ _) (fun _ => rfl)
    (fun pre W => ∃ v, BoxR W0 (w.heap.size + 2) (selF (refP h l o) l pre) v W)
    (fun c pre W => False)
    (fun pre A B row hs hg hr => by obtain ⟨v, hv⟩ := hs; exact ⟨v, hv.own' hg hr⟩)
    (fun c pre A B row hs hg hr => hs.elim)
    ⟨_, HS0.out⟩
    (fun x a' W => a' = { tmps := #[.pointer (some ⟨p.g, 0, none⟩), .int .u32 (o : Int), .pointer (some ⟨w.heap.size, 0, none⟩), .pointer (some ⟨w.heap.size + 1, 0, none⟩), .slice none 0 0, .int .i64 0, .pointer (some ⟨w.heap.size + 2, 0, none⟩), .int .u32 ((2 * posOf (l.take x.1) : Nat) : Int), .pointer (some ⟨p.g, 0, none⟩), .int .u32 (o : Int), .bool true, .bool false, .pointer (some ⟨p.g, 0, none⟩), .func (.func 70) #[] #[.pointer (some ⟨w.heap.size + 2 + 1, 0, none⟩)], .int .u32 ((2 * posOf (l.take x.1) : Nat) : Int), (l[x.1]'x.2).x.val, undef, undef, undef, undef, undef, undef, undef, undef, undef, undef], defers := [] })
    (fun x a' _ X Y row hs hg hr => hs)
    ?assign ?body ?done ?stop
  case assign =>
    rintro lp pre x W K hI hK
    rw [show allV l x = #[.int .u32 ((2 * posOf (l.take x.1) : Nat) : Int), (l[x.1]'x.2).x.val] from rfl]
    have HI0 := Lib.hid hI
    have HK := Lib.hid hK
    obtain ⟨v, C⟩ := hI
    have HC := Lib.hid C
    clear hK C
    generalize (l[x.1]'x.2).x.val = X at *
    generalize 2 * posOf (l.take x.1) = o at *
    gi_wp2_with fail
    exact HK.out _ _ ((KeepsOthers.refl _).from _) (HC.out.kp_refl (Below.refl _ _) _) HI0.out rfl
  case body =>
    rintro lp pre x a' W hl ⟨r, hr⟩ ⟨v, C⟩ rfl hltx
    apply wpIn_block
    have hC := HBO.out _ _ _ C
    obtain ⟨Av, cv, rfl⟩ := own_val C.own
    have HC := Lib.hid C
    have hsl := selF_len (refP h l o) l pre
    have hsW := C.size
    have HYES := Lib.hid (fun hm => selF_yes (P := refP h l o) (l := l) (pre := pre) (x := x) hm)
    have HNO := Lib.hid (fun hm => selF_no (P := refP h l o) (l := l) (pre := pre) (x := x) hm)
    have HPD := Lib.hid (show refP h l o x.1 = ((namM h (2 * posOf (l.take x.1)) false).filter k2).contains o from (HNK.out _).symm)
    have HND := Lib.hid (show Calls Tryz.prog 45 #[ptr p.g, .int .u32 (2 * posOf (l.take x.1) : Nat), .bool false] W.drew (NamedP (namM h (2 * posOf (l.take x.1)) false) W.drew) from HNA.out W.drew ((HTB.out _ _ _ C).trans ⟨rfl, rfl, rfl, Nat.le_refl _, fun _ _ => rfl⟩) x)
    have hnl : ((namM h (2 * posOf (l.take x.1)) false).filter k2).length ≤ 65536 := Nat.le_trans (List.length_filter_le _ _) (HNL.out x)
    clear C
    unfold NamedP ptr at HND
    generalize (namM h (2 * posOf (l.take x.1)) false).filter k2 = ns at *
    generalize selF (refP h l o) l pre = xs at *
    generalize (l[x.1]'x.2).x.val = X at *
    generalize 2 * posOf (l.take x.1) = y at *
    apply wpIn_seq
    refine wpIn_region_U 4 (fun w' => w'.cell? ⟨w.heap.size, 0, none⟩ = some (.pointer (some ⟨p.g, 0, none⟩)) ∧ w'.cell? ⟨w.heap.size + 1, 0, none⟩ = some (.int .u32 (o : Int))) (by kernel_rfl) (by kernel_rfl) ?_
    have hbd : Below W.heap.size W W.drew := ⟨rfl, rfl, rfl, Nat.le_refl _, fun _ _ => rfl⟩
    have HBD := Lib.hid hbd
    have HCL := Lib.hid hC
    have hS : W.drew.cell? ⟨w.heap.size, 0, none⟩ = some (.pointer (some ⟨p.g, 0, none⟩)) ∧ W.drew.cell? ⟨w.heap.size + 1, 0, none⟩ = some (.int .u32 (o : Int)) := ⟨(hC.1.below hbd hC.1.lt).cell 0, (hC.2.below hbd hC.2.lt).cell 0⟩
    clear hbd hC
    generalize W.drew = W7 at *
    refine U_readC 0 [2, 4] (v := (.pointer (some ⟨p.g, 0, none⟩))) rfl (by kernel_rfl) (fun _ _ _ h => h) hS (by rfl) (fun w' hw' => by obtain ⟨h0, h1⟩ := hw'; go_simp) ?_
    try simp only [Act.put, List.setIfInBounds_toArray, List.set_cons_zero, List.set_cons_succ]
    refine U_readC 1 [2, 4] (v := (.int .u32 (y : Int))) rfl (by kernel_rfl) (fun _ _ _ h => h) hS (by rfl) (fun w' hw' => by obtain ⟨h0, h1⟩ := hw'; go_simp) ?_
    try simp only [Act.put, List.setIfInBounds_toArray, List.set_cons_zero, List.set_cons_succ]
    refine U_read 3 (v := (.int .u32 (o : Int))) rfl (by kernel_rfl) (fun _ _ _ h => h) hS (by rfl) (fun w' hw' => by obtain ⟨h0, h1⟩ := hw'; go_simp) ?_
    try simp only [Act.put, List.setIfInBounds_toArray, List.set_cons_zero, List.set_cons_succ]
    refine U_one 2 (by kernel_rfl) rfl rfl (fun K hK => ?_)
    go_simp
    refine HND.out.mono ?_
    rintro e w6 ⟨g6, c6, rfl, hg6, hr6, hb6⟩
    try dsimp only
    have hS6 : w6.cell? ⟨w.heap.size, 0, none⟩ = some (.pointer (some ⟨p.g, 0, none⟩)) ∧ w6.cell? ⟨w.heap.size + 1, 0, none⟩ = some (.int .u32 (o : Int)) := ⟨((HCL.out.1.below HBD.out HCL.out.1.lt).below hb6 (Nat.lt_of_lt_of_le HCL.out.1.lt HBD.out.size)).cell 0, ((HCL.out.2.below HBD.out HCL.out.2.lt).below hb6 (Nat.lt_of_lt_of_le HCL.out.2.lt HBD.out.size)).cell 0⟩
    refine hK _ _ (fun _ => hS6) ?_
    clear hK K hS
    try simp only [Act.put, List.setIfInBounds_toArray, List.set_cons_zero, List.set_cons_succ]
    obtain ⟨A6, c6', e6, hrd6, _⟩ := own_readsN (row_own hr6 (Nat.le_refl _))
    have HCT := Lib.hid (contains_oop A6 ns.length c6' _ ns o w6 (by omega) hrd6)
    rw [← e6] at HCT
    have HC6 := Lib.hid (HC.out.below (below_top HBD.out hb6))
    have HB6 := Lib.hid (below_top HBD.out hb6)
    have hs6 : W.heap.size ≤ w6.heap.size := HB6.out.size
    clear hr6 hb6 hg6 e6 hrd6 HND
    refine U_one 4 (by kernel_rfl) rfl rfl (fun K hK => ?_)
    go_simp
    refine HCT.out.mono ?_
    rintro e w6' ⟨rfl, rfl⟩
    try dsimp only
    refine hK _ _ (fun _ => hS6) ?_
    clear hK K HCT
    try simp only [Act.put, List.setIfInBounds_toArray, List.set_cons_zero, List.set_cons_succ]
    refine U_done (by kernel_rfl) ?_ _
    simp only [Calm, Exit.then]
    have cL : w6.cell? ⟨w.heap.size + 2, 0, none⟩ = some (.slice Av xs.length cv) := HC6.out.box.cell 0
    have fL := HC6.out.box.frozen
    clear hS6
    by_cases hcl : ns.contains o = true
    · have HS := Lib.hid (HYES.out (HPD.out.trans hcl))
      rw [hcl]
      clear hcl HYES HNO HPD
      gi_wp2_with (gi_at_builtin; refine wpListIn_app_any _ rfl (.tmp 21) (.tmp 23) _ rfl W0.heap.size 43 i0 _ 1 4 Tryz.underlying23 hi0 hz0 hz1 hz2 rfl (by omega) (.slice Av xs.length cv) xs.length _ rfl (HC6.out.own.alloc _) (w6.heap.size + 1) (some ⟨w6.heap.size, 0, none⟩) 1 1 [.int .u32 (y : Int)] rfl ⟨rfl, fun _ => ⟨_, rfl, by first | exact Nat.zero_lt_one | decide | simp, cell_one_new _ _ _⟩⟩ (fun u hu => by rcases List.mem_singleton.1 hu with rfl; rfl) (by simp only [maxLen]; omega) (by omega) (by first | omega | (simp; omega)) ?_; intro v1 w7 hown7 hgrow hat7; obtain ⟨A7, c7, rfl⟩ := own_val hown7; obtain ⟨cB7, fB7⟩ := HC6.out.box_app ((Below.refl _ _).alloc (Nat.le_refl _) _) hgrow)
      obtain ⟨r1, r2, r3⟩ := HC.out.app (m0 := w.heap.size) (HB6.out.alloc hs6 _) hown7 hgrow hat7 (by omega)
      exact ⟨r1, r2, _, by rw [HS.out]; exact r3⟩
    · have hcl' : ns.contains o = false := by simpa using hcl
      have HS := Lib.hid (HNO.out (HPD.out.trans hcl'))
      rw [hcl']
      clear hcl hcl' HYES HNO HPD
      gi_wp2_with fail
      exact ⟨⟨HB6.out.size, fun k o _ ho hc => (HB6.out.block k (lt_of_get ho)).trans ho⟩, HC.out.kp_refl HB6.out _, _, by rw [HS.out]; exact HC6.out⟩
  case done =>
    rintro D xs W hD rfl ⟨v, C⟩ hK
    have cL : W.cell? ⟨w.heap.size + 2, 0, none⟩ = some v := C.box.cell 0
    have HC := Lib.hid C
    clear C
    gi_wp2_with fail
    refine ⟨by simp, .inl ⟨_, _, rfl, run_takeDeferred hK, ?_⟩⟩
    have hc := HC.out.own' (grownBy_putObj' W D (.deferred none)) (fun r e => by cases e; exact ⟨hD, _, hK, rfl⟩)
    refine ⟨.tuple #[v, .int .i64 0], by simp [results, Tryz.results16, go_sem], ?_⟩
    rw [selF_all] at hc
    exact ⟨v, rfl, by rw [HR.out]; exact own_base hc.own HB0.out.size, hc.toBelow HB0.out (by omega)⟩
  case stop =>
    rintro D c pre W hD hp hx hK
    exact hx.elim
end Go.Proofs.YtblekggklimpeaaGreatDoor

namespace Go.Proofs.YtblekggklimpeaaGreatDoor
open Go.RowKit Go.Sort
theorem pathL_len {W : Wk} (hb : ByLt W) (hd : (metO W).Nodup) (o : Nat) : (pathL W o).length ≤ W.length := by
  by_cases hm : o ∈ metO W
  · obtain ⟨q, hq, rfl⟩ := List.mem_map.1 hm
    obtain ⟨i, hi, rfl⟩ := List.mem_iff_getElem.1 hq
    rw [pathL_at hb hd hi, List.length_reverse]
    exact upK_len hb W.length (i : Int) (by omega) (by omega)
  · unfold pathL
    rw [if_neg hm]
    exact Nat.zero_le _
/-- The five lists, in the order in which they are gathered. -/
def ownY (h : HM) (l : List Ob) (o : Nat) : Nat → List Nat
  | 0 => liveO h l
  | 1 => reachL h o
  | 2 => pathO h o
  | 3 => refsL h l o
  | _ => selL (instP h l 0) l l.length
theorem ownY_len {h : HM} {l : List Ob} (G : h.Good l) (o : Nat) (i : Nat) : (ownY h l o i).length ≤ 1048576 := by
  have h1 := oopsL_le G
  have hl : l.length ≤ 1048576 := by rw [oopsL_len] at h1; exact h1
  have hs : ∀ P, (selL P l l.length).length ≤ 1048576 := fun P => Nat.le_trans (selL_len P l l.length) hl
  match i with
  | 0 => exact Nat.le_trans (List.length_filter_le _ _) h1
  | 1 =>
    show (reachL h o).length ≤ _
    unfold reachL
    split
    · rename_i hi
      rw [metO_len]
      exact walk_len G (fun x hx => by
        obtain rfl : x = o := by simpa using hx
        unfold HM.valB
        simp [hi])
    · exact Nat.zero_le _
  | 2 =>
    show (pathO h o).length ≤ _
    unfold pathO
    split
    · exact Nat.le_trans (pathL_len (walkM_by _ _) (walkM_nodup _ _) o) (walk_len G fun x hx => G.sound.roots x hx)
    · exact Nat.zero_le _
  | 3 =>
    show (refsL h l o).length ≤ _
    unfold refsL
    split
    · exact hs _
    · exact Nat.zero_le _
  | n + 4 => exact hs _
/-- Five lists of a round: rows from N on, below S, apart. -/
structure Five (Y : Nat → List Nat) (N S : Nat) (w : World) (V : Nat → Value) : Prop where
  own : ∀ i, i < 5 → w.ownsRow N 43 1 (V i) (Y i).length (u32s (Y i))
  top : ∀ i q, i < 5 → (V i).ownBlock = some q → q < S
  apart : ∀ i j q, i < 5 → j < 5 → i ≠ j → (V i).ownBlock = some q → (V j).ownBlock ≠ some q
  s : S ≤ w.heap.size
theorem Five.below {Y : Nat → List Nat} {N S : Nat} {w w' : World} {V : Nat → Value} (F : Five Y N S w V) (hb : Below w.heap.size w w') : Five Y N S w' V :=
  ⟨fun i hi => own_below (F.own i hi) hb, F.top, F.apart, Nat.le_trans F.s hb.size⟩
def fiveV (a b c d e : Value) : Nat → Value
  | 0 => a
  | 1 => b
  | 2 => c
  | 3 => d
  | _ => e
def v5 (V : Nat → Value) : List Value := [V 0, V 1, V 2, V 3, V 4]
theorem v5_get {V : Nat → Value} {i : Nat} (hi : i < 5) : (v5 V)[i]? = some (V i) := by
  match i, hi with
  | 0, _ => rfl
  | 1, _ => rfl
  | 2, _ => rfl
  | 3, _ => rfl
  | 4, _ => rfl
theorem Five.of {Y : Nat → List Nat} {w0 w1 w2 w3 w4 w5 : World} {a b c d e : Value}
    (h1 : w1.ownsRow w0.heap.size 43 1 b (Y 1).length (u32s (Y 1))) (b1 : Below w0.heap.size w0 w1)
    (h2 : w2.ownsRow w1.heap.size 43 1 c (Y 2).length (u32s (Y 2))) (b2 : Below w1.heap.size w1 w2)
    (h3 : w3.ownsRow w2.heap.size 43 1 d (Y 3).length (u32s (Y 3))) (b3 : Below w2.heap.size w2 w3)
    (h0 : w4.ownsRow w3.heap.size 43 1 a (Y 0).length (u32s (Y 0))) (b0 : Below w3.heap.size w3 w4)
    (h4 : w5.ownsRow w4.heap.size 43 1 e (Y 4).length (u32s (Y 4))) (b4 : Below w4.heap.size w4 w5) :
    Five Y w0.heap.size w5.heap.size w5 (fiveV a b c d e) := by
  have l1 := h1.lt; have l2 := h2.lt; have l3 := h3.lt; have l0 := h0.lt; have l4 := h4.lt
  have s1 := b1.size; have s2 := b2.size; have s3 := b3.size; have s0 := b0.size; have s4 := b4.size
  refine ⟨fun i hi => ?_, fun i q hi hq => ?_, fun i j q hi hj hne hq hq' => ?_, Nat.le_refl _⟩
  · match i, hi with
    | 0, _ => exact own_base (own_below h0 b4) (by omega)
    | 1, _ => exact own_below (own_below (own_below (own_below h1 b2) b3) b0) b4
    | 2, _ => exact own_base (own_below (own_below (own_below h2 b3) b0) b4) (by omega)
    | 3, _ => exact own_base (own_below (own_below h3 b0) b4) (by omega)
    | 4, _ => exact own_base h4 (by omega)
  · match i, hi with
    | 0, _ => have := l0 q hq; omega
    | 1, _ => have := l1 q hq; omega
    | 2, _ => have := l2 q hq; omega
    | 3, _ => have := l3 q hq; omega
    | 4, _ => have := l4 q hq; omega
  · have r0 : ∀ q, (fiveV a b c d e 0).ownBlock = some q → w3.heap.size ≤ q ∧ q < w4.heap.size := l0
    have r1 : ∀ q, (fiveV a b c d e 1).ownBlock = some q → w0.heap.size ≤ q ∧ q < w1.heap.size := l1
    have r2 : ∀ q, (fiveV a b c d e 2).ownBlock = some q → w1.heap.size ≤ q ∧ q < w2.heap.size := l2
    have r3 : ∀ q, (fiveV a b c d e 3).ownBlock = some q → w2.heap.size ≤ q ∧ q < w3.heap.size := l3
    have r4 : ∀ q, (fiveV a b c d e 4).ownBlock = some q → w4.heap.size ≤ q ∧ q < w5.heap.size := l4
    have hi' : i = 0 ∨ i = 1 ∨ i = 2 ∨ i = 3 ∨ i = 4 := by omega
    have hj' : j = 0 ∨ j = 1 ∨ j = 2 ∨ j = 3 ∨ j = 4 := by omega
    rcases hi' with rfl | rfl | rfl | rfl | rfl <;> rcases hj' with rfl | rfl | rfl | rfl | rfl <;> first
      | exact absurd rfl hne
      | (first | have e1 := r0 q hq | have e1 := r1 q hq | have e1 := r2 q hq | have e1 := r3 q hq | have e1 := r4 q hq) <;> (first | (have e2 := r0 q hq'; omega) | (have e2 := r1 q hq'; omega) | (have e2 := r2 q hq'; omega) | (have e2 := r3 q hq'; omega) | (have e2 := r4 q hq'; omega))
/-- The gathered lists after z rounds. -/
def Rd (Y : Nat → List Nat) (N z : Nat) (v : Value) (w : World) : Prop :=
  (z = 0 ∧ v = .slice none 0 0) ∨
  (z = 1 ∧ ∃ V S, w.ownsRow N 23 1 v 5 (v5 V) ∧ Five Y N S w V) ∨
  (z = 2 ∧ ∃ V U S, w.ownsRow N 23 1 v 10 (v5 V ++ v5 U) ∧ Five Y N S w V ∧ Five Y S w.heap.size w U)
theorem Rd.next {Y : Nat → List Nat} {N z : Nat} {v : Value} {w : World} (h : Rd Y N z v w) (hN : N ≤ w.heap.size) (hz : z < 2) :
    ∃ xs, w.ownsRow N 23 1 v (5 * z) xs ∧ ∀ w5 w' U v', Below w.heap.size w w5 → Five Y w.heap.size w5.heap.size w5 U → w5.grownBy w' v.ownBlock → w'.ownsRow N 23 1 v' (5 * z + 5) (xs ++ v5 U) → Rd Y N (z + 1) v' w' := by
  rcases h with ⟨rfl, rfl⟩ | ⟨rfl, V, S, ho, F⟩ | ⟨rfl, _⟩
  · refine ⟨[], World.ownsRow_nil w N _ 1, fun w5 w' U v' hb F hg ho => .inr (.inl ⟨rfl, U, w5.heap.size, ho, ?_⟩)⟩
    exact ⟨fun i hi => own_base (own_keep (F.own i hi) fun q hq => hg.block q ((F.own i hi).lt q hq).2 (fun e => by cases e)) hN, F.top, F.apart, hg.size⟩
  · refine ⟨v5 V, ho, fun w5 w' U v' hb F2 hg ho' => .inr (.inr ⟨rfl, V, U, S, ho', ?_, ?_⟩)⟩
    · have F5 := F.below hb
      have o5 := own_below ho hb
      refine ⟨fun i hi => own_keep (F5.own i hi) fun q hq => hg.block q ((F5.own i hi).lt q hq).2 (fun e => ?_), F.top, F.apart, Nat.le_trans F5.s hg.size⟩
      exact own_ne_own (F5.own i hi) o5 (by decide) q hq e.symm
    · have o5 := own_below ho hb
      refine ⟨fun i hi => own_base (own_keep (F2.own i hi) fun q hq => hg.block q ((F2.own i hi).lt q hq).2 (fun e => ?_)) F.s, fun i q hi hq => Nat.lt_of_lt_of_le (F2.top i q hi hq) hg.size, F2.apart, Nat.le_refl _⟩
      exact own_ne_own (F2.own i hi) o5 (by decide) q hq e.symm
  · omega
theorem info_sl : (Tryz.prog.info? 23).map (fun i => (i.zero, i.size, i.bytes)) = some (some (.slice none 0 0), 1, 24) := by kernel_rfl
theorem Five.one {Y : Nat → List Nat} {N S : Nat} {w : World} {V : Nat → Value} (F : Five Y N S w V) : ∀ u ∈ v5 V, u.oneCell' = true := by
  have h : ∀ i, i < 5 → (V i).oneCell' = true := fun i hi => by
    obtain ⟨A, c, e⟩ := own_val (F.own i hi)
    rw [e]
    rfl
  intro u hu
  simp only [v5, List.mem_cons, List.not_mem_nil, or_false] at hu
  rcases hu with rfl | rfl | rfl | rfl | rfl
  · exact h 0 (by omega)
  · exact h 1 (by omega)
  · exact h 2 (by omega)
  · exact h 3 (by omega)
  · exact h 4 (by omega)
theorem readsB5 (w : World) (t : TypeId) (V : Nat → Value) : Reads (w.alloc (.cells #[V 0, V 1, V 2, V 3, V 4] t)) (w.alloc (.cells #[V 0, V 1, V 2, V 3, V 4] t)).heap.size 1 (some ⟨w.heap.size, 0, none⟩) 5 (v5 V) := by
  have B := Blk.new w t #[V 0, V 1, V 2, V 3, V 4]
  refine ⟨rfl, fun _ => ⟨_, rfl, B.lt, fun j u hu => ?_⟩⟩
  match j with
  | 0 => exact (B.cell 0).trans hu
  | 1 => exact (B.cell 1).trans hu
  | 2 => exact (B.cell 2).trans hu
  | 3 => exact (B.cell 3).trans hu
  | 4 => exact (B.cell 4).trans hu
  | j + 5 => cases hu
theorem Five.widen {Y : Nat → List Nat} {N S S' : Nat} {w : World} {V : Nat → Value} (F : Five Y N S w V) (h : S ≤ S' ∧ S' ≤ w.heap.size) : Five Y N S' w V :=
  ⟨F.own, fun i q hi hq => Nat.lt_of_lt_of_le (F.top i q hi hq) h.1, F.apart, h.2⟩
def ownZ (Y : Nat → List Nat) (j : Nat) : List Nat := if j < 5 then Y j else Y (j - 5)
theorem two_at {Y : Nat → List Nat} {N S T : Nat} {w : World} {V U : Nat → Value} (F : Five Y N S w V) (F2 : Five Y S T w U) {k : Nat} (hk : k < 10) :
    ∃ A c, (v5 V ++ v5 U)[k]? = some (.slice A (ownZ Y k).length c) ∧ Reads w w.heap.size 1 A (ownZ Y k).length (u32s (ownZ Y k)) := by
  unfold ownZ
  by_cases h : k < 5
  · rw [if_pos h]
    obtain ⟨A, c, e⟩ := own_val (F.own k h)
    refine ⟨A, c, ?_, ?_⟩
    · rw [List.getElem?_append_left (by simp [v5]; omega), v5_get h, e]
    · have := F.own k h
      rw [e] at this
      exact (own_readsV this).1
  · rw [if_neg h]
    obtain ⟨A, c, e⟩ := own_val (F2.own (k - 5) (by omega))
    refine ⟨A, c, ?_, ?_⟩
    · rw [List.getElem?_append_right (by simp [v5]; omega)]
      show (v5 U)[k - 5]? = _
      rw [v5_get (by omega), e]
    · have := F2.own (k - 5) (by omega)
      rw [e] at this
      exact (own_readsV this).1
/-- The copies that are kept. -/
structure Kept (Z : Nat → List Nat) (M k : Nat) (v : Value) (w : World) (K : Nat → Value) : Prop where
  row : w.ownsRow M 23 1 v k ((List.range k).map K)
  own : ∀ j, j < k → w.ownsRow M 43 1 (K j) (Z j).length (u32s (Z j))
theorem Kept.next {Z : Nat → List Nat} {M k : Nat} {v v' u : Value} {w w5 w' : World} {K : Nat → Value} (h : Kept Z M k v w K) (hb : Below w.heap.size w w5) (hu : w5.ownsRow M 43 1 u (Z k).length (u32s (Z k)))
    (hg : w5.grownBy w' v.ownBlock) (ho : w'.ownsRow M 23 1 v' (k + 1) ((List.range k).map K ++ [u])) : ∃ K', Kept Z M (k + 1) v' w' K' := by
  have o5 := own_below h.row hb
  have hk : ∀ {z : Value} {n : Nat} {xs : List Value}, w5.ownsRow M 43 1 z n xs → w'.ownsRow M 43 1 z n xs := fun hz =>
    own_keep hz fun q hq => hg.block q (hz.lt q hq).2 (fun e => own_ne_own hz o5 (by decide) q hq e.symm)
  refine ⟨fun j => if j = k then u else K j, ?_, fun j hj => ?_⟩
  · rw [List.range_succ, List.map_append, List.map_singleton, if_pos rfl]
    rw [List.map_congr_left (g := K) (fun a ha => if_neg (by have := List.mem_range.1 ha; omega))]
    exact ho
  · by_cases hjk : j = k
    · subst hjk
      rw [if_pos rfl]
      exact hk hu
    · rw [if_neg hjk]
      exact hk (own_below (h.own j (by omega)) hb)
theorem Kept.nil (Z : Nat → List Nat) (M : Nat) (w : World) : Kept Z M 0 (.slice none 0 0) w (fun _ => undef) := ⟨World.ownsRow_nil w M _ 1, fun j hj => absurd hj (by omega)⟩
theorem Kept.at_ {Z : Nat → List Nat} {M n : Nat} {v : Value} {w : World} {K : Nat → Value} (h : Kept Z M n v w K) {k : Nat} (hk : k < n) :
    ∃ A c, ((List.range n).map K)[k]? = some (.slice A (Z k).length c) ∧ Reads w w.heap.size 1 A (Z k).length (u32s (Z k)) := by
  obtain ⟨A, c, e⟩ := own_val (h.own k hk)
  refine ⟨A, c, ?_, ?_⟩
  · rw [List.getElem?_map, List.getElem?_range hk, ← e]
    rfl
  · have := h.own k hk
    rw [e] at this
    exact (own_readsV this).1
/-- The first five lists under change: those from k on still lie, and all else is kept. -/
structure Mid (Y : Nat → List Nat) (N : Nat) (V : Nat → Value) (wk w : World) (k : Nat) : Prop where
  os : w.os = wk.os
  tape : w.tape = wk.tape
  output : w.output = wk.output
  size : wk.heap.size ≤ w.heap.size
  block : ∀ b, b < wk.heap.size → (∀ i, i < 5 → (V i).ownBlock ≠ some b) → w.heap[b]? = wk.heap[b]?
  own : ∀ i, k ≤ i → i < 5 → ∃ ys : List Nat, ys.length = (Y i).length ∧ w.ownsRow N 43 1 (V i) (Y i).length (u32s ys)
section
variable {Y : Nat → List Nat} {N S k : Nat} {V : Nat → Value} {wk w w' : World}
theorem Mid.start (F : Five Y N S wk V) : Mid Y N V wk wk 0 := ⟨rfl, rfl, rfl, Nat.le_refl _, fun _ _ _ => rfl, fun i _ hi => ⟨Y i, rfl, F.own i hi⟩⟩
theorem Mid.more (M : Mid Y N V wk w k) : Mid Y N V wk w (k + 1) := ⟨M.os, M.tape, M.output, M.size, M.block, fun i hk hi => M.own i (by omega) hi⟩
theorem Mid.grown (F : Five Y N S wk V) (M : Mid Y N V wk w (k + 1)) (hk : k < 5) {row : Option Nat} (hg : w.grownBy w' row) (hr : ∀ q, row = some q → (V k).ownBlock = some q ∨ wk.heap.size ≤ q) : Mid Y N V wk w' (k + 1) := by
  refine ⟨hg.os.trans M.os, hg.tape.trans M.tape, hg.output.trans M.output, Nat.le_trans M.size hg.size, fun b hb hn => (hg.block b (Nat.lt_of_lt_of_le hb M.size) (fun e => ?_)).trans (M.block b hb hn), fun i hi h5 => ?_⟩
  · rcases hr b e.symm with h | h
    · exact hn k hk h
    · omega
  · obtain ⟨ys, hl, ho⟩ := M.own i hi h5
    refine ⟨ys, hl, own_keep ho fun q hq => hg.block q (ho.lt q hq).2 (fun e => ?_)⟩
    rcases hr q e.symm with h | h
    · exact F.apart k i q hk h5 (by omega) h hq
    · have h1 := F.top i q h5 hq
      have h2 := F.s
      omega
theorem Mid.on (M : Mid Y N V wk w k) (hb : Below w.heap.size w w') : Mid Y N V wk w' k :=
  ⟨hb.os.trans M.os, hb.tape.trans M.tape, hb.output.trans M.output, Nat.le_trans M.size hb.size, fun b h hn => (hb.block b (Nat.lt_of_lt_of_le h M.size)).trans (M.block b h hn), fun i hk hi => by
    obtain ⟨ys, hl, ho⟩ := M.own i hk hi
    exact ⟨ys, hl, own_below ho hb⟩⟩
theorem Mid.keep (M : Mid Y N V wk w k) {B n : Nat} {e : TypeId} {v : Value} {xs : List Value} (ho : wk.ownsRow B e 1 v n xs) (hn : ∀ q, v.ownBlock = some q → ∀ i, i < 5 → (V i).ownBlock ≠ some q) : w.ownsRow B e 1 v n xs :=
  own_keep ho fun q hq => M.block q (ho.lt q hq).2 (hn q hq)
theorem Mid.below (M : Mid Y N V wk w k) {W : World} (hb : Below W.heap.size W wk) (hn : W.heap.size ≤ N) (F : Five Y N S wk V) : Below W.heap.size W w :=
  ⟨M.os.trans hb.os, M.tape.trans hb.tape, M.output.trans hb.output, Nat.le_trans hb.size M.size, fun b h => (M.block b (Nat.lt_of_lt_of_le h hb.size) (fun i hi e => by have := ((F.own i hi).lt b e).1; omega)).trans (hb.block b h)⟩
end
theorem wrap64_add5 (n : Nat) (hn : n ≤ 1048576) : wrap64 ((n : Int) + 5) = ((n + 5 : Nat) : Int) := by rw [IntWalk.wrap64_in _ (by omega)]; rfl
end Go.Proofs.YtblekggklimpeaaGreatDoor
