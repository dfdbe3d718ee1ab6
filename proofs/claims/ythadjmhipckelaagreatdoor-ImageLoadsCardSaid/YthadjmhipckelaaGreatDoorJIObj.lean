import Derived.Test.YthadjmhipckelaaGreatDoorJIObjS
import Derived.Test.YthadjmhipckelaaGreatDoorJIAppIn
import Derived.Test.YthadjmhipckelaaGreatDoorJUntil
import Derived.Sort.CutIn
set_option linter.unusedVariables false
set_option linter.unusedSimpArgs false
namespace Go.Proofs.YthadjmhipckelaaGreatDoor
section
open Go.RowKit
attribute [local go_sem] Oper.semAt_some
def frameO (sg pg bS bB bC o b5 : Nat) (X : Hd) : Array Value := #[.pointer (some ⟨sg, 0, none⟩), .pointer (some ⟨bS, 0, none⟩), .slice none 0 0, .pointer (some ⟨bB, 0, none⟩), .int .u32 (o : Int), .pointer (some ⟨b5, 0, none⟩), undef, undef, undef, undef, undef, undef, undef, .pointer (some ⟨sg, 0, none⟩), .pointer (some ⟨sg, 0, none⟩), .pointer (some ⟨sg, 0, none⟩), .pointer (some ⟨pg, 0, none⟩), .func (.func 73) #[] #[.pointer (some ⟨bC, 0, none⟩)], .int .u32 (o : Int), X.val, undef, undef, undef, undef, undef, undef, undef, undef, undef, undef, undef, undef, undef, undef, undef, undef, undef, undef, undef, undef, undef, undef, undef, undef, undef, undef, undef, undef, undef, undef, undef, undef, undef, undef, undef, undef, undef, undef, undef, undef, undef, undef, undef, undef, undef, undef, undef, undef, undef, undef, undef, undef, undef, undef, undef, undef, undef, undef, undef, undef, undef, undef, undef, undef, undef, undef, undef, undef, undef, undef, undef, undef, undef, undef, undef, undef, undef, undef, undef, undef, undef, undef, undef, undef, undef]
set_option maxRecDepth 100000 in
set_option maxHeartbeats 8000000 in
theorem sobjects_any {w : World} {p : HP} {h : HM} {l : List Ob} {sg mb : Nat} (H : HAt w p h) (G : h.Good l) (hs : Spares w) (S : SvAt w sg mb p.g (oopsL l)) :
 Calls Tryz.prog 42 #[.pointer (some ⟨sg, 0, none⟩)] w (BytesN (objsB (oopsL l) l) w) := by
 refine (callsIn_wide (n := 6)).1 ?_
 refine callsIn_of_wp_marks Tryz.func42 rfl trivial ?_ rfl
 simp only [Tryz.ntmps42, List.size_toArray, List.length_cons, List.length_nil, Nat.reduceAdd, Nat.reduceSub, Array.replicate_succ, Array.replicate_zero, List.push_toArray, List.append_toArray, List.nil_append, List.cons_append]
 have S1 := (S.below ((Below.refl _ _).alloc (Nat.le_refl _) (.cells #[.pointer (some ⟨sg, 0, none⟩)] 88))).below ((Below.refl _ _).alloc (Nat.le_refl _) (.cells #[.slice none 0 0] 22))
 have c0 := S1.box.cell 0
 clear S1
 gi_wp2_with fail
 refine ⟨trivial, (callsIn_wide.2 (all_any p.g _)).mono ?_⟩
 rintro e W2 ⟨rfl, rfl⟩
 have hB0 : Below w.heap.size w (((w.alloc (.cells #[.pointer (some ⟨sg, 0, none⟩)] 88)).alloc (.cells #[.slice none 0 0] 22)).alloc (.cells #[ptr p.g] 23)) :=
  (((Below.refl _ w).alloc (Nat.le_refl _) _).alloc (by simp) _).alloc (by simp; omega) _
 have hsz : (((w.alloc (.cells #[.pointer (some ⟨sg, 0, none⟩)] 88)).alloc (.cells #[.slice none 0 0] 22)).alloc (.cells #[ptr p.g] 23)).heap.size = w.heap.size + 3 := by simp
 have BX : Blk (((w.alloc (.cells #[.pointer (some ⟨sg, 0, none⟩)] 88)).alloc (.cells #[.slice none 0 0] 22)).alloc (.cells #[ptr p.g] 23)) w.heap.size 88 #[.pointer (some ⟨sg, 0, none⟩)] := ((Blk.new w _ _).alloc _).alloc _
 have BB : Blk (((w.alloc (.cells #[.pointer (some ⟨sg, 0, none⟩)] 88)).alloc (.cells #[.slice none 0 0] 22)).alloc (.cells #[ptr p.g] 23)) (w.heap.size + 1) 22 #[.slice none 0 0] := by
  have b0 := Blk.new (w.alloc (.cells #[.pointer (some ⟨sg, 0, none⟩)] 88)) 22 #[.slice none 0 0]
  rw [World.size_alloc] at b0
  exact b0.alloc _
 have BH : Blk (((w.alloc (.cells #[.pointer (some ⟨sg, 0, none⟩)] 88)).alloc (.cells #[.slice none 0 0] 22)).alloc (.cells #[ptr p.g] 23)) (w.heap.size + 1 + 1) 23 #[ptr p.g] := by
  have b0 := Blk.new ((w.alloc (.cells #[.pointer (some ⟨sg, 0, none⟩)] 88)).alloc (.cells #[.slice none 0 0] 22)) 23 #[ptr p.g]
  rw [World.size_alloc, World.size_alloc] at b0
  exact b0
 gi_wp2_with fail
 clear c0
 generalize ((w.alloc (.cells #[.pointer (some ⟨sg, 0, none⟩)] 88)).alloc (.cells #[.slice none 0 0] 22)).alloc (.cells #[ptr p.g] 23) = W0 at *
 have HI := Lib.hid (show HAt W0 p h ∧ Spares W0 from ⟨H.below hB0, hs.below hB0⟩)
 have HND := Lib.hid (oopsL_nodup l)
 have hlen := oopsL_le G
 generalize hL : oopsL l = L at *
 have HLE := Lib.hid (show w.heap.size ≤ w.heap.size + 1 by omega)
 have S0 : OSt w sg w.heap.size (w.heap.size + 1) (.slice none 0 0) [] W0 := ⟨RB.nil hB0 (Nat.le_refl _) hB0.size, BB, BX⟩
 refine wpIn_rangeFunc_ownH (F := Fence.wide) rfl (by omega) (gf := 73) (lb := #[.pointer (some ⟨w.heap.size + 1 + 1, 0, none⟩)]) rfl trivial (enters_of Tryz.func73 (by kernel_rfl) rfl)
  (all_stopsK HI.out.1 G HI.out.2 5 (w.heap.size + 1 + 1) (BH.cell 0) (fun A B => KpO w.heap.size A B) (KpO.need hs)) KpO.trans (fun W l o o' h0 h1 h2 _ => KpO.book W l o o' (by omega) h1 h2) (Below.refl _ _) (fun _ => rfl)
  (fun pre W => ∃ v, OSt w sg w.heap.size (w.heap.size + 1) v (objsB L (pre.map fun i => l[i.1]'i.2)) W)
  (fun c pre W => False)
  (fun pre A B row hs hg hr => by obtain ⟨v, hs⟩ := hs; exact ⟨v, hs.own' (by omega) hg hr⟩)
  (fun c pre A B row hs hg hr => hs.elim)
  ⟨_, S0⟩
  (fun x a' W => ∃ b5, Blk W b5 103 (l[x.1]'x.2).x.cells ∧ a' = { tmps := frameO sg p.g w.heap.size (w.heap.size + 1) (w.heap.size + 1 + 1) (2 * posOf (l.take x.1)) b5 (l[x.1]'x.2).x, defers := [] })
  (fun x a' _ A B row hs hg hr => by obtain ⟨b5, h1, h2⟩ := hs; exact ⟨b5, blk_ownI h1 hg hr, h2⟩)
  ?assign ?body ?done ?stop
 case assign =>
  rintro lp pre x W K ⟨v, hI⟩ hK
  rw [show allV l x = #[.int .u32 ((2 * posOf (l.take x.1) : Nat) : Int), .agg #[.int .i64 ((l[x.1]'x.2).x.size : Nat), .int .i64 ((l[x.1]'x.2).x.fmt : Nat), .int .i64 ((l[x.1]'x.2).x.spare : Nat), .int .u32 ((l[x.1]'x.2).x.cls : Nat), .int .u32 ((l[x.1]'x.2).x.ser : Nat)]] from rfl]
  have HI0 := Lib.hid hI
  have HK := Lib.hid hK
  clear hK hI
  unfold frameO Hd.val Hd.cells at HK
  have hb := (Below.refl W.heap.size W).alloc (Nat.le_refl _) (.cells #[.int .i64 ((l[x.1]'x.2).x.size : Nat), .int .i64 ((l[x.1]'x.2).x.fmt : Nat), .int .i64 ((l[x.1]'x.2).x.spare : Nat), .int .u32 ((l[x.1]'x.2).x.cls : Nat), .int .u32 ((l[x.1]'x.2).x.ser : Nat)] 103)
  have HBD := Lib.hid hb
  have hwW : w.heap.size ≤ W.heap.size := HI0.out.rb.base.size
  clear hb
  generalize (l[x.1]'x.2).x = X at *
  generalize 2 * posOf (l.take x.1) = o at *
  gi_wp2_with fail
  exact HK.out _ _ (KeepsFrom.belowI HBD.out) (KpO.of_below HBD.out hwW) ⟨v, HI0.out.below HBD.out⟩ ⟨W.heap.size, Blk.new W _ _, rfl⟩
 case body =>
  rintro lp pre x a' Ws hl hlr ⟨v0, S1⟩ ⟨b5, bX, rfl⟩ hltx
  obtain ⟨hfl, hok, hfw, hib, hhd⟩ := ob_at G x.1 x.2
  have hpl := posOf_take_lt G x.1 x.2
  have hroom := G.fit.room
  have hhi := G.fit.hi
  have ho : 2 * posOf (l.take x.1) < 4294967296 := by omega
  have HGT := Lib.hid (fun W' (hb : Below w.heap.size w W') i hi hf => oget_any (H.below hb) G (hs.below hb) x.1 x.2 i hi hf ho)
  have HWD := Lib.hid (fun W' (hb : Below w.heap.size w W') i hi hf => oword_any (H.below hb) G (hs.below hb) x.1 x.2 i hi hf ho)
  have HBY := Lib.hid (fun W' (hb : Below w.heap.size w W') hf => obytes_any (H.below hb) G (hs.below hb) x.1 x.2 hf ho)
  have HOB := Lib.hid (show objsB L ((pre ++ [x]).map fun i => l[i.1]'i.2) = objsB L (pre.map fun i => l[i.1]'i.2) ++ objB' L (l[x.1]'x.2) by rw [List.map_append]; exact objsB_snoc _ _ _)
  have hpre := objsB_len hlen (pre.map fun i => l[i.1]'i.2) (fun b hb => by obtain ⟨i, _, rfl⟩ := List.mem_map.1 hb; exact G.laid.ok _ (List.getElem_mem _))
  rw [List.length_map] at hpre
  have hN : l.length ≤ 1048576 := by rw [← hL, oopsL_len] at hlen; exact hlen
  have HSV := Lib.hid S
  unfold ptr at HGT HWD HBY
  clear hfl hfw hib hhd hpl S
  generalize objsB L (pre.map fun i => l[i.1]'i.2) = bs0 at *
  generalize (l[x.1]'x.2) = b at *
  generalize 2 * posOf (l.take x.1) = o at *
  have hcl := hok.fit.cls
  have hnl : numL L b.x.cls < 4294967296 := by have := numL_le L b.x.cls; omega
  have hsz2 := ok_size hok
  have HSZQ := Lib.hid hok.size
  have hsz3 : b.x.size ≤ 65535 := by rw [hok.size]; exact hsz2
  have hser := hok.fit.ser
  have HBN := Lib.hid (show bs0.length ≤ 500000000000 ∧ (cnt7 (numL L b.x.cls)).length ≤ 5 ∧ (cnt7 b.x.size).length ≤ 5 ∧ (cnt7 b.x.ser).length ≤ 5 ∧ b.fs.length ≤ 65535 from ⟨by omega, cnt7I_len5 hnl, cnt7I_len5 (by omega), cnt7I_len5 hser, hsz2⟩)
  have HB := Lib.hid (show OB w sg w.heap.size (w.heap.size + 1) W0.heap.size Ws b5 b.x v0 bs0 Ws from ⟨S1, KpO.refl _ _, KeepsFrom.belowI (Below.refl _ _), bX⟩)
  clear S1 bX hlr hpre
  unfold frameO Hd.val
  apply wpIn_block
  gi_upto_region 5 with fail
  refine wpIn_region_U 10 (OCells sg mb p.g w.heap.size (w.heap.size + 1) b5 L b.x v0) (by kernel_rfl) (by kernel_rfl) ?_
  have HB5 := Lib.hid (HB.out.below (W' := Ws.drew) ⟨rfl, rfl, rfl, Nat.le_refl _, fun _ _ => rfl⟩)
  clear HB
  generalize Ws.drew = W5 at *
  have hS := HB5.out.oc HSV.out HND.out hcl
  refine U_read 0 (v := v0) rfl (by kernel_rfl) (fun _ _ _ h => h) hS (by rfl) (fun w' hw' => by obtain ⟨h0, h1, h2, h3, h4, h5, h6, h7, h8, h9⟩ := hw'; go_simp) ?_
  try simp only [Act.put, List.setIfInBounds_toArray, List.set_cons_zero, List.set_cons_succ]
  refine U_read 1 (v := (.pointer (some ⟨sg, 0, none⟩))) rfl (by kernel_rfl) (fun _ _ _ h => h) hS (by rfl) (fun w' hw' => by obtain ⟨h0, h1, h2, h3, h4, h5, h6, h7, h8, h9⟩ := hw'; go_simp) ?_
  try simp only [Act.put, List.setIfInBounds_toArray, List.set_cons_zero, List.set_cons_succ]
  refine U_read 2 (v := (.pointer (some ⟨sg, 0, none⟩))) rfl (by kernel_rfl) (fun _ _ _ h => h) hS (by rfl) (fun w' hw' => by obtain ⟨h0, h1, h2, h3, h4, h5, h6, h7, h8, h9⟩ := hw'; go_simp) ?_
  try simp only [Act.put, List.setIfInBounds_toArray, List.set_cons_zero, List.set_cons_succ]
  refine U_read 3 (v := (.pointer (some ⟨sg, 1, none⟩))) rfl (by kernel_rfl) (fun _ _ _ h => h) hS (by rfl) (fun w' hw' => by obtain ⟨h0, h1, h2, h3, h4, h5, h6, h7, h8, h9⟩ := hw'; go_simp) ?_
  try simp only [Act.put, List.setIfInBounds_toArray, List.set_cons_zero, List.set_cons_succ]
  refine U_read 4 (v := .map (some mb)) rfl (by kernel_rfl) (fun _ _ _ h => h) hS (by rfl) (fun w' hw' => by obtain ⟨h0, h1, h2, h3, h4, h5, h6, h7, h8, h9⟩ := hw'; go_simp) ?_
  try simp only [Act.put, List.setIfInBounds_toArray, List.set_cons_zero, List.set_cons_succ]
  refine U_read 5 (v := .pointer (some ⟨b5, 3, none⟩)) rfl (by kernel_rfl) (fun _ _ _ h => h) hS (by rfl) (fun w' hw' => by obtain ⟨h0, h1, h2, h3, h4, h5, h6, h7, h8, h9⟩ := hw'; go_simp) ?_
  try simp only [Act.put, List.setIfInBounds_toArray, List.set_cons_zero, List.set_cons_succ]
  refine U_read 6 (v := .int .u32 (b.x.cls : Int)) rfl (by kernel_rfl) (fun _ _ _ h => h) hS (by rfl) (fun w' hw' => by obtain ⟨h0, h1, h2, h3, h4, h5, h6, h7, h8, h9⟩ := hw'; go_simp) ?_
  try simp only [Act.put, List.setIfInBounds_toArray, List.set_cons_zero, List.set_cons_succ]
  refine U_read 7 (v := .int .u32 (numL L b.x.cls : Nat)) rfl (by kernel_rfl) (fun _ _ _ h => h) hS (by rfl) (fun w' hw' => by obtain ⟨h0, h1, h2, h3, h4, h5, h6, h7, h8, h9⟩ := hw'; go_simp) ?_
  try simp only [Act.put, List.setIfInBounds_toArray, List.set_cons_zero, List.set_cons_succ]
  refine U_one 8 (by kernel_rfl) rfl rfl (fun K hK => ?_)
  go_simp
  refine (inumber_any _ hnl _).mono ?_
  rintro e w6 ⟨v6, rfl, hown6, hb6⟩
  obtain ⟨A6, c6, rfl, hr6⟩ := own_sliceI hown6
  try dsimp only
  have HB6 := Lib.hid (HB5.out.below hb6)
  clear hown6 hb6 HB5 hS
  refine hK _ _ (fun _ => HB6.out.oc HSV.out HND.out hcl) ?_
  clear hK K
  try simp only [Act.put, List.setIfInBounds_toArray, List.set_cons_zero, List.set_cons_succ]
  refine U_one 9 (by kernel_rfl) rfl rfl (fun K hK => ?_)
  refine wp_app_RB (.tmp 20) (.tmp 28) HB6.out.st.rb hr6 rfl rfl (by obtain ⟨a1, a2, a3, a4, a5⟩ := HBN.out; (try simp only [List.length_append, List.length_cons, List.length_nil]); omega) rfl ?_
  intro v1 w7 C7 hg7
  have HB7 := Lib.hid (HB6.out.app HLE.out C7 hg7)
  obtain ⟨hfz, hcu⟩ := HB6.out.room C7 hg7
  obtain ⟨A7, n7, c7, hv7⟩ : ∃ A n c, v1 = .slice A n c := by obtain ⟨A, c, e, _⟩ := C7.reads; exact ⟨A, _, c, e⟩
  refine hK _ _ (fun _ => HB6.out.ocm HSV.out HND.out hcl C7 hg7) ?_
  clear hK K C7 hg7 hr6 HB6
  try simp only [Act.put, List.setIfInBounds_toArray, List.set_cons_zero, List.set_cons_succ]
  refine U_one 10 (by kernel_rfl) rfl rfl (fun K hK => ?_)
  rw [hv7]
  go_simp
  rw [← hv7]
  refine hK _ _ (fun h => absurd h (by decide)) ?_
  clear hK K hfz hcu hv7 A7 n7 c7
  try simp only [Act.put, List.setIfInBounds_toArray, List.set_cons_zero, List.set_cons_succ]
  refine U_done (by kernel_rfl) ?_ _
  simp only [Calm, Exit.then]
  generalize w7.setCell ⟨w.heap.size + 1, 0, none⟩ v1 = W1 at *
  have HB := HB7
  clear HB7
  have hS := HB.out.oc HSV.out HND.out hcl
  obtain ⟨q0, q1, q2, q3, q4, q5, q6, q7, q8, q9⟩ := hS
  have HB5 := Lib.hid (HB.out.below ((Below.refl _ W1).alloc (Nat.le_refl _) (.cells #[.int .u8 ((b.x.fmt + 16 * b.x.spare : Nat) : Int)] 5)))
  clear HB q9
  have hfm := hok.fit.fmt
  have hfp := hok.fit.spare
  gi_wp2_with (gi_at_builtin; refine wpListIn_app_RB (.tmp 30) (.tmp 38) HB5.out.st.rb (reads_one W1 (b.x.fmt + 16 * b.x.spare)) rfl rfl (by obtain ⟨a1, a2, a3, a4, a5⟩ := HBN.out; (try simp only [List.length_append, List.length_cons, List.length_nil]); omega) rfl rfl ?_; intro v2 w7 C7 hg7; obtain ⟨A7, n7, c7, rfl⟩ : ∃ A n c, v2 = .slice A n c := (by obtain ⟨A, c, e, _⟩ := C7.reads; exact ⟨A, _, c, e⟩); have HB7 := Lib.hid (HB5.out.app HLE.out C7 hg7); obtain ⟨hfz, hcu⟩ := HB5.out.room C7 hg7; clear C7 hg7 HB5 q0 q1 q2 q3 q4 q5 q6 q7 q8)
  have HB := HB7
  clear HB7 hfz hcu
  generalize w7.setCell ⟨w.heap.size + 1, 0, none⟩ (.slice A7 n7 c7) = W2 at *
  generalize hv2 : Value.slice A7 n7 c7 = v2 at *
  clear hv2
  have hwsz : IntKind.u32.wrap (b.x.size : Int) = (b.x.size : Int) := by show (b.x.size : Int) % 4294967296 = _; omega
  refine wpIn_region_U 6 (OCells sg mb p.g w.heap.size (w.heap.size + 1) b5 L b.x v2) (by kernel_rfl) (by kernel_rfl) ?_
  have HB5 := Lib.hid (HB.out.below (W' := W2.drew) ⟨rfl, rfl, rfl, Nat.le_refl _, fun _ _ => rfl⟩)
  clear HB
  generalize W2.drew = W5 at *
  have hS := HB5.out.oc HSV.out HND.out hcl
  refine U_read 0 (v := v2) rfl (by kernel_rfl) (fun _ _ _ h => h) hS (by rfl) (fun w' hw' => by obtain ⟨h0, h1, h2, h3, h4, h5, h6, h7, h8, h9⟩ := hw'; go_simp) ?_
  try simp only [Act.put, List.setIfInBounds_toArray, List.set_cons_zero, List.set_cons_succ]
  refine U_read 1 (v := .pointer (some ⟨b5, 0, none⟩)) rfl (by kernel_rfl) (fun _ _ _ h => h) hS (by rfl) (fun w' hw' => by obtain ⟨h0, h1, h2, h3, h4, h5, h6, h7, h8, h9⟩ := hw'; go_simp) ?_
  try simp only [Act.put, List.setIfInBounds_toArray, List.set_cons_zero, List.set_cons_succ]
  refine U_read 2 (v := .int .i64 (b.x.size : Int)) rfl (by kernel_rfl) (fun _ _ _ h => h) hS (by rfl) (fun w' hw' => by obtain ⟨h0, h1, h2, h3, h4, h5, h6, h7, h8, h9⟩ := hw'; go_simp) ?_
  try simp only [Act.put, List.setIfInBounds_toArray, List.set_cons_zero, List.set_cons_succ]
  refine U_one 3 (by kernel_rfl) rfl rfl (fun K hK => ?_)
  go_simp
  refine hK _ _ (fun _ => hS) ?_
  clear hK K
  try simp only [Act.put, List.setIfInBounds_toArray, List.set_cons_zero, List.set_cons_succ]
  refine U_one 4 (by kernel_rfl) rfl rfl (fun K hK => ?_)
  go_simp
  refine (inumber_any b.x.size (by omega) _).mono ?_
  rintro e w6 ⟨v6, rfl, hown6, hb6⟩
  obtain ⟨A6, c6, rfl, hr6⟩ := own_sliceI hown6
  try dsimp only
  have HB6 := Lib.hid (HB5.out.below hb6)
  clear hown6 hb6 HB5 hS
  refine hK _ _ (fun _ => HB6.out.oc HSV.out HND.out hcl) ?_
  clear hK K
  try simp only [Act.put, List.setIfInBounds_toArray, List.set_cons_zero, List.set_cons_succ]
  refine U_one 5 (by kernel_rfl) rfl rfl (fun K hK => ?_)
  refine wp_app_RB (.tmp 40) (.tmp 44) HB6.out.st.rb hr6 rfl rfl (by obtain ⟨a1, a2, a3, a4, a5⟩ := HBN.out; (try simp only [List.length_append, List.length_cons, List.length_nil]); omega) rfl ?_
  intro v3 w7 C7 hg7
  have HB7 := Lib.hid (HB6.out.app HLE.out C7 hg7)
  obtain ⟨hfz, hcu⟩ := HB6.out.room C7 hg7
  obtain ⟨A7, n7, c7, hv7⟩ : ∃ A n c, v3 = .slice A n c := by obtain ⟨A, c, e, _⟩ := C7.reads; exact ⟨A, _, c, e⟩
  refine hK _ _ (fun _ => HB6.out.ocm HSV.out HND.out hcl C7 hg7) ?_
  clear hK K C7 hg7 hr6 HB6
  try simp only [Act.put, List.setIfInBounds_toArray, List.set_cons_zero, List.set_cons_succ]
  refine U_one 6 (by kernel_rfl) rfl rfl (fun K hK => ?_)
  rw [hv7]
  go_simp
  rw [← hv7]
  refine hK _ _ (fun h => absurd h (by decide)) ?_
  clear hK K hfz hcu hv7 A7 n7 c7
  try simp only [Act.put, List.setIfInBounds_toArray, List.set_cons_zero, List.set_cons_succ]
  refine U_done (by kernel_rfl) ?_ _
  simp only [Calm, Exit.then]
  generalize w7.setCell ⟨w.heap.size + 1, 0, none⟩ v3 = W3 at *
  have HB := HB7
  clear HB7
  gi_upto_region 8 with fail
  refine wpIn_region_U 5 (OCells sg mb p.g w.heap.size (w.heap.size + 1) b5 L b.x v3) (by kernel_rfl) (by kernel_rfl) ?_
  have HB5 := Lib.hid (HB.out.below (W' := W3.drew) ⟨rfl, rfl, rfl, Nat.le_refl _, fun _ _ => rfl⟩)
  clear HB
  generalize W3.drew = W5 at *
  have hS := HB5.out.oc HSV.out HND.out hcl
  refine U_read 0 (v := v3) rfl (by kernel_rfl) (fun _ _ _ h => h) hS (by rfl) (fun w' hw' => by obtain ⟨h0, h1, h2, h3, h4, h5, h6, h7, h8, h9⟩ := hw'; go_simp) ?_
  try simp only [Act.put, List.setIfInBounds_toArray, List.set_cons_zero, List.set_cons_succ]
  refine U_read 1 (v := .pointer (some ⟨b5, 4, none⟩)) rfl (by kernel_rfl) (fun _ _ _ h => h) hS (by rfl) (fun w' hw' => by obtain ⟨h0, h1, h2, h3, h4, h5, h6, h7, h8, h9⟩ := hw'; go_simp) ?_
  try simp only [Act.put, List.setIfInBounds_toArray, List.set_cons_zero, List.set_cons_succ]
  refine U_read 2 (v := .int .u32 (b.x.ser : Int)) rfl (by kernel_rfl) (fun _ _ _ h => h) hS (by rfl) (fun w' hw' => by obtain ⟨h0, h1, h2, h3, h4, h5, h6, h7, h8, h9⟩ := hw'; go_simp) ?_
  try simp only [Act.put, List.setIfInBounds_toArray, List.set_cons_zero, List.set_cons_succ]
  refine U_one 3 (by kernel_rfl) rfl rfl (fun K hK => ?_)
  go_simp
  refine (inumber_any b.x.ser hser _).mono ?_
  rintro e w6 ⟨v6, rfl, hown6, hb6⟩
  obtain ⟨A6, c6, rfl, hr6⟩ := own_sliceI hown6
  try dsimp only
  have HB6 := Lib.hid (HB5.out.below hb6)
  clear hown6 hb6 HB5 hS
  refine hK _ _ (fun _ => HB6.out.oc HSV.out HND.out hcl) ?_
  clear hK K
  try simp only [Act.put, List.setIfInBounds_toArray, List.set_cons_zero, List.set_cons_succ]
  refine U_one 4 (by kernel_rfl) rfl rfl (fun K hK => ?_)
  refine wp_app_RB (.tmp 46) (.tmp 49) HB6.out.st.rb hr6 rfl rfl (by obtain ⟨a1, a2, a3, a4, a5⟩ := HBN.out; (try simp only [List.length_append, List.length_cons, List.length_nil]); omega) rfl ?_
  intro v4 w7 C7 hg7
  have HB7 := Lib.hid (HB6.out.app HLE.out C7 hg7)
  obtain ⟨hfz, hcu⟩ := HB6.out.room C7 hg7
  obtain ⟨A7, n7, c7, hv7⟩ : ∃ A n c, v4 = .slice A n c := by obtain ⟨A, c, e, _⟩ := C7.reads; exact ⟨A, _, c, e⟩
  refine hK _ _ (fun _ => HB6.out.ocm HSV.out HND.out hcl C7 hg7) ?_
  clear hK K C7 hg7 hr6 HB6
  try simp only [Act.put, List.setIfInBounds_toArray, List.set_cons_zero, List.set_cons_succ]
  refine U_one 5 (by kernel_rfl) rfl rfl (fun K hK => ?_)
  rw [hv7]
  go_simp
  rw [← hv7]
  refine hK _ _ (fun h => absurd h (by decide)) ?_
  clear hK K hfz hcu hv7 A7 n7 c7
  try simp only [Act.put, List.setIfInBounds_toArray, List.set_cons_zero, List.set_cons_succ]
  refine U_done (by kernel_rfl) ?_ _
  simp only [Calm, Exit.then]
  generalize w7.setCell ⟨w.heap.size + 1, 0, none⟩ v4 = W4 at *
  have HB := HB7
  clear HB7
  have HCS := Lib.hid (HB.out.oc HSV.out HND.out hcl)
  obtain ⟨q0, q1, q2, q3, q4, q5, q6, q7, q8, q9⟩ := HCS.out
  have HEQ := Lib.hid (show objB' L b = cnt7 (numL L b.x.cls) ++ ([b.x.fmt + 16 * b.x.spare] ++ (cnt7 b.x.size ++ (cnt7 b.x.ser ++ payB L b))) from rfl)
  by_cases h2 : b.x.fmt = 2
  ·have hd2 : ((b.x.fmt : Int) == 2) = true := by simp; omega
   have HPE := Lib.hid (show payB L b = (bytesM b.fs).take b.x.len by unfold payB; rw [if_pos h2])
   have HLQ := Lib.hid (show ((bytesM b.fs).take b.x.len).length ≤ 1000000 by rw [List.length_take, bytesM_len]; omega)
   have HY := Lib.hid (HBY.out _ HB.out.st.rb.base h2)
   clear h2
   gi_wp2_with fail
   refine ⟨trivial, (CallsIn.inRound lp (callsIn_wide.2 HY.out)).mono ?_⟩
   rintro e w9 ⟨hb9, g9, rfl, hr9⟩
   generalize hplq : (bytesM b.fs).take b.x.len = plq at *
   clear hplq
   clear q0 q1 q2 q3 q4 q5 q6 q7 q8 q9
   have HB9 := Lib.hid (HB.out.below hb9)
   obtain ⟨q0, q1, q2, q3, q4, q5, q6, q7, q8, q9⟩ := HB9.out.oc HSV.out HND.out hcl
   clear hb9 HB HCS
   gi_wp2_with (gi_at_builtin; refine wpListIn_app_RB (.tmp 63) (.tmp 64) HB9.out.st.rb hr9 rfl rfl (by obtain ⟨a1, a2, a3, a4, a5⟩ := HBN.out; have := HLQ.out; (try simp only [List.length_append, List.length_cons, List.length_nil]); omega) rfl rfl ?_; intro v7 w7 C7 hg7; obtain ⟨A7, n7, c7, rfl⟩ : ∃ A n c, v7 = .slice A n c := (by obtain ⟨A, c, e, _⟩ := C7.reads; exact ⟨A, _, c, e⟩); have HB7 := Lib.hid (HB9.out.app HLE.out C7 hg7); obtain ⟨hfz, hcu⟩ := HB9.out.room C7 hg7; clear C7 hg7 q0 q1 q2 q3 q4 q5 q6 q7 q8 q9)
   have hfin := HB7.out
   have he : objsB L ((pre ++ [x]).map fun i => l[i.1]'i.2) = bs0 ++ cnt7 (numL L b.x.cls) ++ [b.x.fmt + 16 * b.x.spare] ++ cnt7 b.x.size ++ cnt7 b.x.ser ++ plq := by rw [HOB.out, HEQ.out, HPE.out]; simp only [List.append_assoc]
   rw [← he] at hfin
   exact ⟨hfin.kf, hfin.kp, _, hfin.st⟩
  ·have hd2 : ((b.x.fmt : Int) == 2) = false := by simp; omega
   generalize hbs4 : bs0 ++ cnt7 (numL L b.x.cls) ++ [b.x.fmt + 16 * b.x.spare] ++ cnt7 b.x.size ++ cnt7 b.x.ser = bs4 at *
   have HBS := Lib.hid hbs4
   have HB4L := Lib.hid (show bs4.length ≤ 500000000100 by rw [← hbs4]; obtain ⟨a1, a2, a3, a4, a5⟩ := HBN.out; simp only [List.length_append, List.length_cons, List.length_nil]; omega)
   clear hbs4
   by_cases h3 : b.x.fmt = 3
   ·have hd3 : ((b.x.fmt : Int) == 3) = true := by simp; omega
    have HPE := Lib.hid (show payB L b = b.fs.flatMap cnt7 by unfold payB; rw [if_neg h2, if_pos h3])
    have HF := Lib.hid h3
    clear h2 h3
    gi_wp2_with fail
    gi_loopw [68] (fun i wr => ∃ (k : Nat) (v : Value), i = .int .i64 k ∧ k ≤ b.fs.length ∧ OB w sg w.heap.size (w.heap.size + 1) W0.heap.size Ws b5 b.x v (bs4 ++ (b.fs.take k).flatMap cnt7) wr) (fun i _ => b.fs.length - (intOf i).toNat)
    case atStart => exact ⟨0, v4, rfl, Nat.zero_le _, by simpa using HB.out⟩
    case round =>
     clear HB HCS q0 q1 q2 q3 q4 q5 q6 q7 q8 q9
     obtain ⟨k, v, rfl, hk, hOB⟩ := hrel
     have HBk := Lib.hid hOB
     obtain ⟨q0, q1, q2, q3, q4, q5, q6, q7, q8, q9⟩ := hOB.oc HSV.out HND.out hcl
     clear hOB
     by_cases hkn : k < b.fs.length
     ·have hkx : k < b.x.size := by rw [HSZQ.out]; exact hkn
      have hd : decide ((k : Int) < (b.x.size : Int)) = true := by simp; omega
      have hy : b.fs.getD k 0 < 4294967296 := by rw [List.getD_eq_getElem?_getD, List.getElem?_eq_getElem hkn]; exact hok.f32 _ (List.getElem_mem hkn)
      have HTK := Lib.hid (show (b.fs.take (k + 1)).flatMap cnt7 = (b.fs.take k).flatMap cnt7 ++ cnt7 (b.fs.getD k 0) by rw [List.take_add_one, List.getElem?_eq_getElem hkn, List.flatMap_append, List.getD_eq_getElem?_getD, List.getElem?_eq_getElem hkn]; simp)
      have HPL := Lib.hid (show ((b.fs.take k).flatMap cnt7).length ≤ 5 * 65535 from Nat.le_trans (words_len (fun x hx => hok.f32 x (List.mem_of_mem_take hx))) (by rw [List.length_take]; omega))
      have HCL := Lib.hid (cnt7I_len5 hy)
      have HG := Lib.hid (HWD.out _ HBk.out.st.rb.base k hkn HF.out)
      generalize b.fs.getD k 0 = y at *
      generalize (b.fs.take k).flatMap cnt7 = pk at *
      gi_wp2_with fail
      refine ⟨trivial, (CallsIn.inRound lp (callsIn_wide.2 HG.out)).mono ?_⟩
      rintro e w9 ⟨rfl, hb9⟩
      have HB := Lib.hid (HBk.out.below hb9)
      clear hb9 HBk q0 q1 q2 q3 q4 q5 q6 q7 q8 q9
      gi_upto_region 17 with fail
      refine wpIn_region_U 4 (OCells sg mb p.g w.heap.size (w.heap.size + 1) b5 L b.x v) (by kernel_rfl) (by kernel_rfl) ?_
      have HB5 := Lib.hid (HB.out.below (W' := w9.drew) ⟨rfl, rfl, rfl, Nat.le_refl _, fun _ _ => rfl⟩)
      clear HB
      generalize w9.drew = W5 at *
      have hS := HB5.out.oc HSV.out HND.out hcl
      refine U_read 0 (v := v) rfl (by kernel_rfl) (fun _ _ _ h => h) hS (by rfl) (fun w' hw' => by obtain ⟨h0, h1, h2, h3, h4, h5, h6, h7, h8, h9⟩ := hw'; go_simp) ?_
      try simp only [Act.put, List.setIfInBounds_toArray, List.set_cons_zero, List.set_cons_succ]
      refine U_read 1 (v := .int .u32 (y : Int)) rfl (by kernel_rfl) (fun _ _ _ h => h) hS (by rfl) (fun w' hw' => by obtain ⟨h0, h1, h2, h3, h4, h5, h6, h7, h8, h9⟩ := hw'; go_simp) ?_
      try simp only [Act.put, List.setIfInBounds_toArray, List.set_cons_zero, List.set_cons_succ]
      refine U_one 2 (by kernel_rfl) rfl rfl (fun K hK => ?_)
      go_simp
      refine (inumber_any y hy _).mono ?_
      rintro e w6 ⟨v6, rfl, hown6, hb6⟩
      obtain ⟨A6, c6, rfl, hr6⟩ := own_sliceI hown6
      try dsimp only
      have HB6 := Lib.hid (HB5.out.below hb6)
      clear hown6 hb6 HB5 hS
      refine hK _ _ (fun _ => HB6.out.oc HSV.out HND.out hcl) ?_
      clear hK K
      try simp only [Act.put, List.setIfInBounds_toArray, List.set_cons_zero, List.set_cons_succ]
      refine U_one 3 (by kernel_rfl) rfl rfl (fun K hK => ?_)
      refine wp_app_RB (.tmp 84) (.tmp 86) HB6.out.st.rb hr6 rfl rfl (by have := HB4L.out; have := HPL.out; have := HCL.out; (try simp only [List.length_append, List.length_cons, List.length_nil]); omega) rfl ?_
      intro v6 w7 C7 hg7
      have HB7 := Lib.hid (HB6.out.app HLE.out C7 hg7)
      obtain ⟨hfz, hcu⟩ := HB6.out.room C7 hg7
      obtain ⟨A7, n7, c7, hv7⟩ : ∃ A n c, v6 = .slice A n c := by obtain ⟨A, c, e, _⟩ := C7.reads; exact ⟨A, _, c, e⟩
      refine hK _ _ (fun _ => HB6.out.ocm HSV.out HND.out hcl C7 hg7) ?_
      clear hK K C7 hg7 hr6 HB6
      try simp only [Act.put, List.setIfInBounds_toArray, List.set_cons_zero, List.set_cons_succ]
      refine U_one 4 (by kernel_rfl) rfl rfl (fun K hK => ?_)
      rw [hv7]
      go_simp
      rw [← hv7]
      refine hK _ _ (fun h => absurd h (by decide)) ?_
      clear hK K hfz hcu hv7 A7 n7 c7
      try simp only [Act.put, List.setIfInBounds_toArray, List.set_cons_zero, List.set_cons_succ]
      refine U_done (by kernel_rfl) ?_ _
      simp only [Calm, Exit.then]
      generalize w7.setCell ⟨w.heap.size + 1, 0, none⟩ v6 = W6 at *
      have HB := HB7
      clear HB7
      gi_wp2_with fail
      go_roundw
      case rel => exact ⟨k + 1, v6, by go_num, by omega, by rw [HTK.out, ← List.append_assoc]; exact HB.out⟩
      case measure => simp [intOf]; omega
     ·obtain rfl : k = b.fs.length := by omega
      have hkx : ¬ b.fs.length < b.x.size := by rw [HSZQ.out]; omega
      have hd : decide ((b.fs.length : Int) < (b.x.size : Int)) = false := by simp; omega
      have hfin := HBk.out
      rw [List.take_length] at hfin
      have HFIN := Lib.hid hfin
      clear hfin HBk hk
      gi_wp2_with fail
      have hfin := HFIN.out
      have he : objsB L ((pre ++ [x]).map fun i => l[i.1]'i.2) = bs4 ++ b.fs.flatMap cnt7 := by rw [HOB.out, HEQ.out, HPE.out, ← HBS.out]; simp only [List.append_assoc]
      rw [← he] at hfin
      exact ⟨hfin.kf, hfin.kp, _, hfin.st⟩
   ·have hd3 : ((b.x.fmt : Int) == 3) = false := by simp; omega
    have HPE := Lib.hid (show payB L b = valsB L b.fs by unfold payB; rw [if_neg h2, if_neg h3])
    have HF := Lib.hid (show b.x.fmt = 1 ∨ b.x.fmt = 4 by have hm := hok.may; unfold Hd.may at hm; simp at hm; omega)
    clear h2 h3
    gi_wp2_with fail
    gi_loopw [68] (fun i wr => ∃ (k : Nat) (v : Value), i = .int .i64 k ∧ k ≤ b.fs.length ∧ OB w sg w.heap.size (w.heap.size + 1) W0.heap.size Ws b5 b.x v (bs4 ++ valsB L (b.fs.take k)) wr) (fun i _ => b.fs.length - (intOf i).toNat)
    case atStart => exact ⟨0, v4, rfl, Nat.zero_le _, by simpa [valsB] using HB.out⟩
    case round =>
     clear HB HCS q0 q1 q2 q3 q4 q5 q6 q7 q8 q9
     obtain ⟨k, v, rfl, hk, hOB⟩ := hrel
     have HBk := Lib.hid hOB
     obtain ⟨q0, q1, q2, q3, q4, q5, q6, q7, q8, q9⟩ := hOB.oc HSV.out HND.out hcl
     clear hOB
     by_cases hkn : k < b.fs.length
     ·have hkx : k < b.x.size := by rw [HSZQ.out]; exact hkn
      have hd : decide ((k : Int) < (b.x.size : Int)) = true := by simp; omega
      have hy : b.fs.getD k 0 < 4294967296 := by rw [List.getD_eq_getElem?_getD, List.getElem?_eq_getElem hkn]; exact hok.f32 _ (List.getElem_mem hkn)
      have HTK := Lib.hid (valsB_take1 (L := L) hkn)
      have HPL := Lib.hid (show (valsB L (b.fs.take k)).length ≤ 5 * 65535 from Nat.le_trans (valsB_len hlen _ (fun x hx => hok.f32 x (List.mem_of_mem_take hx))) (by rw [List.length_take]; omega))
      have HCL := Lib.hid (cnt7I_len5 (vnum_lt hlen hy))
      have HG := Lib.hid (HGT.out _ HBk.out.st.rb.base k hkn HF.out)
      generalize b.fs.getD k 0 = y at *
      generalize valsB L (b.fs.take k) = pk at *
      gi_wp2_with fail
      refine ⟨trivial, (CallsIn.inRound lp (callsIn_wide.2 HG.out)).mono ?_⟩
      rintro e w9 ⟨rfl, hb9⟩
      have HB := Lib.hid (HBk.out.below hb9)
      clear hb9 HBk q0 q1 q2 q3 q4 q5 q6 q7 q8 q9
      gi_upto_region 19 with fail
      refine wpIn_region_U 5 (OCells sg mb p.g w.heap.size (w.heap.size + 1) b5 L b.x v) (by kernel_rfl) (by kernel_rfl) ?_
      have HB5 := Lib.hid (HB.out.below (W' := w9.drew) ⟨rfl, rfl, rfl, Nat.le_refl _, fun _ _ => rfl⟩)
      clear HB
      generalize w9.drew = W5 at *
      have hS := HB5.out.oc HSV.out HND.out hcl
      refine U_read 0 (v := v) rfl (by kernel_rfl) (fun _ _ _ h => h) hS (by rfl) (fun w' hw' => by obtain ⟨h0, h1, h2, h3, h4, h5, h6, h7, h8, h9⟩ := hw'; go_simp) ?_
      try simp only [Act.put, List.setIfInBounds_toArray, List.set_cons_zero, List.set_cons_succ]
      refine U_read 1 (v := (.pointer (some ⟨sg, 0, none⟩))) rfl (by kernel_rfl) (fun _ _ _ h => h) hS (by rfl) (fun w' hw' => by obtain ⟨h0, h1, h2, h3, h4, h5, h6, h7, h8, h9⟩ := hw'; go_simp) ?_
      try simp only [Act.put, List.setIfInBounds_toArray, List.set_cons_zero, List.set_cons_succ]
      refine U_read 2 (v := .int .u32 (y : Int)) rfl (by kernel_rfl) (fun _ _ _ h => h) hS (by rfl) (fun w' hw' => by obtain ⟨h0, h1, h2, h3, h4, h5, h6, h7, h8, h9⟩ := hw'; go_simp) ?_
      try simp only [Act.put, List.setIfInBounds_toArray, List.set_cons_zero, List.set_cons_succ]
      refine U_one 3 (by kernel_rfl) rfl rfl (fun K hK => ?_)
      go_simp
      refine (svalue_any (HSV.out.below HB5.out.st.rb.base) hlen HND.out y hy).mono ?_
      rintro e w6 ⟨v6, rfl, hown6, hb6⟩
      obtain ⟨A6, c6, rfl, hr6⟩ := own_sliceI hown6
      try dsimp only
      have HB6 := Lib.hid (HB5.out.below hb6)
      clear hown6 hb6 HB5 hS
      refine hK _ _ (fun _ => HB6.out.oc HSV.out HND.out hcl) ?_
      clear hK K
      try simp only [Act.put, List.setIfInBounds_toArray, List.set_cons_zero, List.set_cons_succ]
      refine U_one 4 (by kernel_rfl) rfl rfl (fun K hK => ?_)
      refine wp_app_RB (.tmp 98) (.tmp 101) HB6.out.st.rb hr6 rfl rfl (by have := HB4L.out; have := HPL.out; have := HCL.out; (try simp only [List.length_append, List.length_cons, List.length_nil]); omega) rfl ?_
      intro v6 w7 C7 hg7
      have HB7 := Lib.hid (HB6.out.app HLE.out C7 hg7)
      obtain ⟨hfz, hcu⟩ := HB6.out.room C7 hg7
      obtain ⟨A7, n7, c7, hv7⟩ : ∃ A n c, v6 = .slice A n c := by obtain ⟨A, c, e, _⟩ := C7.reads; exact ⟨A, _, c, e⟩
      refine hK _ _ (fun _ => HB6.out.ocm HSV.out HND.out hcl C7 hg7) ?_
      clear hK K C7 hg7 hr6 HB6
      try simp only [Act.put, List.setIfInBounds_toArray, List.set_cons_zero, List.set_cons_succ]
      refine U_one 5 (by kernel_rfl) rfl rfl (fun K hK => ?_)
      rw [hv7]
      go_simp
      rw [← hv7]
      refine hK _ _ (fun h => absurd h (by decide)) ?_
      clear hK K hfz hcu hv7 A7 n7 c7
      try simp only [Act.put, List.setIfInBounds_toArray, List.set_cons_zero, List.set_cons_succ]
      refine U_done (by kernel_rfl) ?_ _
      simp only [Calm, Exit.then]
      generalize w7.setCell ⟨w.heap.size + 1, 0, none⟩ v6 = W6 at *
      have HB := HB7
      clear HB7
      gi_wp2_with fail
      go_roundw
      case rel => exact ⟨k + 1, v6, by go_num, by omega, by rw [HTK.out, ← List.append_assoc]; exact HB.out⟩
      case measure => simp [intOf]; omega
     ·obtain rfl : k = b.fs.length := by omega
      have hkx : ¬ b.fs.length < b.x.size := by rw [HSZQ.out]; omega
      have hd : decide ((b.fs.length : Int) < (b.x.size : Int)) = false := by simp; omega
      have hfin := HBk.out
      rw [List.take_length] at hfin
      have HFIN := Lib.hid hfin
      clear hfin HBk hk
      gi_wp2_with fail
      have hfin := HFIN.out
      have he : objsB L ((pre ++ [x]).map fun i => l[i.1]'i.2) = bs4 ++ valsB L b.fs := by rw [HOB.out, HEQ.out, HPE.out, ← HBS.out]; simp only [List.append_assoc]
      rw [← he] at hfin
      exact ⟨hfin.kf, hfin.kp, _, hfin.st⟩
 case done =>
  rintro D xs W hD rfl ⟨v, S1⟩ hK
  have hll : (List.finRange l.length).map (fun i => l[i.1]'i.2) = l := by
   apply List.ext_getElem
   ·simp
   ·intro i h1 h2; simp
  rw [hll] at S1
  have c1 := S1.bb.cell 0
  obtain ⟨A7, n7, c7, hv7⟩ : ∃ A n c, v = .slice A n c := by obtain ⟨A, c, e, _⟩ := S1.rb.reads; exact ⟨A, _, c, e⟩
  subst hv7
  have HFN := Lib.hid S1
  clear S1
  gi_wp2_with fail
  refine ⟨by simp, .inl ⟨_, _, rfl, run_takeDeferred hK, ?_⟩⟩
  have hc := HFN.out.own' (B := W0.heap.size) (by omega) (grownBy_putObj' W D (.deferred none)) (fun r e => by cases e; exact ⟨hD, _, hK, rfl⟩)
  refine ⟨.slice A7 n7 c7, by simp [results, Tryz.results42, go_sem], ?_⟩
  exact ⟨_, rfl, hc.rb.own, hc.rb.base⟩
 case stop =>
  rintro D c pre W hD hp hx hK
  exact hx.elim
end
end Go.Proofs.YthadjmhipckelaaGreatDoor
