import Derived.Test.YthadjmhipckelaaGreatDoorJINew
import Derived.Test.YthadjmhipckelaaGreatDoorJLook
import Derived.Test.YthadjmhipckelaaGreatDoorJIOld
import Derived.Test.YthadjmhipckelaaGreatDoorJAlloc
import Derived.Test.YthadjmhipckelaaGreatDoorJMake
import Derived.Test.YthadjmhipckelaaGreatDoorJLoad2
set_option linter.unusedVariables false
set_option linter.unusedSimpArgs false
set_option linter.unusedSectionVars false
namespace Go.Proofs.YthadjmhipckelaaGreatDoor
section
open Go.RowKit
attribute [local go_sem] Oper.semAt_some
theorem wp_app_RB {o : Oper} {a : Act} {K : Act → World → Prop} {Q : Exit → Act → World → Prop} {w w2 : World} {B m c : Nat} {v : Value} {bs cs : List Nat} {A : Option Addr} (s x : Operand)
 (C : RB w2 w B v bs) (hr : Reads w w.heap.size 1 A m (u8c cs)) (hs : a.eval s = v) (hx : a.eval x = .slice A m c) (hn : bs.length + m ≤ 100000000000000)
 (ho : o.op = .call { callee := .builtin .append, args := #[s, x], argTypes := #[22, 22] })
 (h : ∀ v' w', RB w2 w' B v' (bs ++ cs) → w.grownBy w' v.ownBlock → K (a.put o.dst v') w') : Oper.wp Tryz.prog o a w K Q := by
 obtain ⟨i0, hi0, hz0, hz1, hz2⟩ := info_parts info_u8
 refine wp_append_any w s x _ ho B 5 i0 _ 1 1 Tryz.underlying22 hi0 hz0 hz1 hz2 rfl (by omega) v bs.length (u8c bs) hs C.own w.heap.size A m c (u8c cs) hx hr (one_u8c _) (by simp only [maxLen]; omega) (by omega) C.top ?_
 intro v4 w4 hown4 hgrow4 hat4
 exact h _ _ (C.app (by have := hr.1; rw [u8c_len, Nat.mul_one] at this; exact this) hown4 hgrow4) hgrow4
set_option maxRecDepth 100000 in
set_option maxHeartbeats 4000000 in
theorem shead_any {w : World} {p : HP} {h : HM} {sg mb : Nat} {L : List Nat} (H : HAt w p h) (f : h.Fit) (S : SvAt w sg mb p.g L) (hL : L.length ≤ 1048576) (hnd : L.Nodup) :
 Calls Tryz.prog 41 #[.pointer (some ⟨sg, 0, none⟩)] w (BytesN (cnt7 h.last ++ cnt7 L.length) w) := by
 have hlast := f.l32
 have hc1 := cnt7I_len5 hlast
 have hc2 := cnt7I_len5 (show L.length < 4294967296 by omega)
 have hwm : IntKind.u32.wrap (L.length : Int) = (L.length : Int) := by show (L.length : Int) % 4294967296 = _; omega
 have hst := (stL_nodup L hnd).1
 unfold BytesN
 go_enter Tryz.func41, Tryz.ntmps41
 go_upto_region 1 with fail
 refine wp_region_U 14 (fun w' => w'.cell? ⟨sg, 0, none⟩ = some (.pointer (some ⟨p.g, 0, none⟩)) ∧ w'.cell? ⟨sg, 1, none⟩ = some (.map (some mb))) (by kernel_rfl) ?_
 have hbd : Below w.heap.size w w.drew := ⟨rfl, rfl, rfl, Nat.le_refl _, fun _ _ => rfl⟩
 have HBD := Lib.hid hbd
 have H7 := H.below hbd
 have S7 := S.below hbd
 clear H S hbd
 generalize hW7 : w.drew = W7 at *
 have HW7 := Lib.hid hW7
 clear hW7
 have hsize : W7.heap.size = w.heap.size := by rw [← HW7.out]; rfl
 have HS := Lib.hid (fun (w' : World) (hb : Below W7.heap.size W7 w') => show w'.cell? ⟨sg, 0, none⟩ = some (.pointer (some ⟨p.g, 0, none⟩)) ∧ w'.cell? ⟨sg, 1, none⟩ = some (.map (some mb)) from ⟨(S7.below hb).box.cell 0, (S7.below hb).box.cell 1⟩)
 have HLN := Lib.hid (fun (w' : World) (hb : Below W7.heap.size W7 w') (ty : TypeId) => (S7.below hb).map.len oopTyU ty)
 rw [hst] at HLN
 have HLT := Lib.hid (last_any H7 f)
 unfold ptr at HLT
 have hS := HS.out _ (Below.refl _ _)
 clear H7 S7
 refine U_read 0 (v := (.pointer (some ⟨sg, 0, none⟩))) rfl (by kernel_rfl) (fun _ _ _ h => h) hS (by rfl) (fun w' hw' => by obtain ⟨h0, h1⟩ := hw'; go_simp) ?_
 try simp only [Act.put, List.setIfInBounds_toArray, List.set_cons_zero, List.set_cons_succ]
 refine U_read 1 (v := (.pointer (some ⟨sg, 0, none⟩))) rfl (by kernel_rfl) (fun _ _ _ h => h) hS (by rfl) (fun w' hw' => by obtain ⟨h0, h1⟩ := hw'; go_simp) ?_
 try simp only [Act.put, List.setIfInBounds_toArray, List.set_cons_zero, List.set_cons_succ]
 refine U_read 2 (v := (.pointer (some ⟨sg, 0, none⟩))) rfl (by kernel_rfl) (fun _ _ _ h => h) hS (by rfl) (fun w' hw' => by obtain ⟨h0, h1⟩ := hw'; go_simp) ?_
 try simp only [Act.put, List.setIfInBounds_toArray, List.set_cons_zero, List.set_cons_succ]
 refine U_read 3 (v := (.pointer (some ⟨p.g, 0, none⟩))) rfl (by kernel_rfl) (fun _ _ _ h => h) hS (by rfl) (fun w' hw' => by obtain ⟨h0, h1⟩ := hw'; go_simp) ?_
 try simp only [Act.put, List.setIfInBounds_toArray, List.set_cons_zero, List.set_cons_succ]
 refine U_read 6 (v := (.pointer (some ⟨sg, 0, none⟩))) rfl (by kernel_rfl) (fun _ _ _ h => h) hS (by rfl) (fun w' hw' => by obtain ⟨h0, h1⟩ := hw'; go_simp) ?_
 try simp only [Act.put, List.setIfInBounds_toArray, List.set_cons_zero, List.set_cons_succ]
 refine U_read 7 (v := (.pointer (some ⟨sg, 0, none⟩))) rfl (by kernel_rfl) (fun _ _ _ h => h) hS (by rfl) (fun w' hw' => by obtain ⟨h0, h1⟩ := hw'; go_simp) ?_
 try simp only [Act.put, List.setIfInBounds_toArray, List.set_cons_zero, List.set_cons_succ]
 refine U_read 8 (v := (.pointer (some ⟨sg, 1, none⟩))) rfl (by kernel_rfl) (fun _ _ _ h => h) hS (by rfl) (fun w' hw' => by obtain ⟨h0, h1⟩ := hw'; go_simp) ?_
 try simp only [Act.put, List.setIfInBounds_toArray, List.set_cons_zero, List.set_cons_succ]
 refine U_read 9 (v := (.map (some mb))) rfl (by kernel_rfl) (fun _ _ _ h => h) hS (by rfl) (fun w' hw' => by obtain ⟨h0, h1⟩ := hw'; go_simp) ?_
 try simp only [Act.put, List.setIfInBounds_toArray, List.set_cons_zero, List.set_cons_succ]
 refine U_one 4 (by kernel_rfl) rfl rfl (fun K hK => ?_)
 go_simp
 refine HLT.out.mono ?_
 rintro e w4 ⟨rfl, rfl⟩
 try dsimp only
 refine hK _ _ (fun _ => hS) ?_
 clear hK K
 try simp only [Act.put, List.setIfInBounds_toArray, List.set_cons_zero, List.set_cons_succ]
 refine U_one 5 (by kernel_rfl) rfl rfl (fun K hK => ?_)
 go_simp
 refine (inumber_any h.last hlast _).mono ?_
 rintro e w5 ⟨v5, rfl, hown5, hb5⟩
 try dsimp only
 have hS5 := HS.out _ hb5
 have hln5 := HLN.out _ hb5
 refine hK _ _ (fun _ => hS5) ?_
 clear hK K
 try simp only [Act.put, List.setIfInBounds_toArray, List.set_cons_zero, List.set_cons_succ]
 refine U_one 10 (by kernel_rfl) rfl rfl (fun K hK => ?_)
 go_simp
 refine hK _ _ (fun _ => hS5) ?_
 clear hK K
 try simp only [Act.put, List.setIfInBounds_toArray, List.set_cons_zero, List.set_cons_succ]
 refine U_one 11 (by kernel_rfl) rfl rfl (fun K hK => ?_)
 go_simp
 refine hK _ _ (fun _ => hS5) ?_
 clear hK K
 try simp only [Act.put, List.setIfInBounds_toArray, List.set_cons_zero, List.set_cons_succ]
 have HC5 := Lib.hid (RB.new (w2 := W7) hown5 hb5 (Below.refl _ _))
 clear hown5
 refine U_one 12 (by kernel_rfl) rfl rfl (fun K hK => ?_)
 go_simp
 refine (inumber_any L.length (by omega) _).mono ?_
 rintro e w6 ⟨v6, rfl, hown6, hb6⟩
 obtain ⟨A6, c6, rfl, hr6⟩ := own_sliceI hown6
 try dsimp only
 have hS6 := HS.out _ (below_top hb5 hb6)
 have HC6 := Lib.hid (HC5.out.below hb6)
 clear HC5
 refine hK _ _ (fun _ => hS6) ?_
 clear hK K
 try simp only [Act.put, List.setIfInBounds_toArray, List.set_cons_zero, List.set_cons_succ]
 refine U_one 13 (by kernel_rfl) rfl rfl (fun K hK => ?_)
 refine wp_app_RB (.tmp 8) (.tmp 15) HC6.out hr6 rfl rfl (by omega) rfl ?_
 intro v7 w7 C7 hg7
 refine hK _ _ (fun _ => (HS.out _ C7.base)) ?_
 clear hK K
 try simp only [Act.put, List.setIfInBounds_toArray, List.set_cons_zero, List.set_cons_succ]
 refine U_one 14 (by kernel_rfl) rfl rfl (fun K hK => ?_)
 go_simp
 refine hK _ _ (fun h => absurd h (by decide)) ?_
 clear hK K
 try simp only [Act.put, List.setIfInBounds_toArray, List.set_cons_zero, List.set_cons_succ]
 refine U_done (by kernel_rfl) ?_ _
 simp only [Calm, Exit.then]
 have hfin := C7
 rw [hsize] at hfin
 clear hS hS5 hS6 hln5
 go_wp2_with fail
 go_ret
 exact ⟨_, rfl, hfin.own, below_top HBD.out C7.base⟩
def valsB (L : List Nat) (rs : List Nat) : List Nat := rs.flatMap fun o => cnt7 (vnum L o)
theorem valsB_take1 {L l : List Nat} {k : Nat} (hk : k < l.length) : valsB L (l.take (k + 1)) = valsB L (l.take k) ++ cnt7 (vnum L (l.getD k 0)) := by
 unfold valsB
 rw [List.take_add_one, List.getElem?_eq_getElem hk, List.flatMap_append, List.getD_eq_getElem?_getD, List.getElem?_eq_getElem hk]
 simp
theorem valsB_len {L : List Nat} (hL : L.length ≤ 1048576) : ∀ rs : List Nat, (∀ x ∈ rs, x < 4294967296) → (valsB L rs).length ≤ 5 * rs.length
 | [], _ => by simp [valsB]
 | a :: rs, h => by
   have h1 := valsB_len hL rs (fun x hx => h x (by simp [hx]))
   have h2 := cnt7I_len5 (vnum_lt hL (h a (by simp)))
   unfold valsB at *
   rw [List.flatMap_cons, List.length_append, List.length_cons]
   omega
set_option maxRecDepth 100000 in
set_option maxHeartbeats 4000000 in
theorem sroots_any {w : World} {p : HP} {h : HM} {sg mb : Nat} {L : List Nat} (H : HAt w p h) (f : h.Fit) (S : SvAt w sg mb p.g L) (hL : L.length ≤ 1048576) (hnd : L.Nodup) :
 Calls Tryz.prog 43 #[.pointer (some ⟨sg, 0, none⟩)] w (BytesN (valsB L h.roots) w) := by
 have h32r := f.r32
 have hrl := f.roots
 have HRT := Lib.hid (roots_any H f)
 have c0 := S.box.cell 0
 have HV := Lib.hid (fun (w' : World) (hb : Below w.heap.size w w') (o : Nat) (ho : o < 4294967296) => svalue_any (S.below hb) hL hnd o ho)
 have HVL := Lib.hid (fun (o : Nat) (ho : o < 4294967296) => cnt7I_len5 (vnum_lt hL ho))
 unfold NewRow ptr at HRT
 rw [u32s_len] at HRT
 unfold BytesN at *
 clear H S
 go_enter Tryz.func43, Tryz.ntmps43
 go_wp2_with fail
 refine HRT.out.mono ?_
 rintro e w1 ⟨gr, cr, rfl, hrowr, hgr, hb1⟩
 have HRR := Lib.hid hrowr
 have HB1 := Lib.hid hb1
 clear hrowr hb1 HRT c0
 go_wp2_with fail
 go_loopw [3, 12] (fun b i wr => ∃ k : Nat, i = .int .i64 k ∧ k ≤ h.roots.length ∧ RB w1 wr w1.heap.size b (valsB L (h.roots.take k))) (fun _ y _ => h.roots.length - (intOf y).toNat)
 case atStart => exact ⟨0, rfl, by omega, RB.nil (Below.refl _ _) (Nat.le_refl _) (Nat.le_refl _)⟩
 case round =>
  obtain ⟨k, rfl, hk, hcr⟩ := hrel
  have HCR := Lib.hid hcr
  clear hcr
  by_cases hkn : k < h.roots.length
  ·have hd : decide ((k : Int) < (h.roots.length : Int)) = true := by simp; omega
   have hc1 : wr.cell? ⟨gr, k, none⟩ = some (.int .u32 ((h.roots.getD k 0 : Nat) : Int)) := (HRR.out.below HCR.out.base).cell (u32s_get hkn)
   have hx32 : h.roots.getD k 0 < 4294967296 := by rw [List.getD_eq_getElem?_getD, List.getElem?_eq_getElem hkn]; exact h32r _ (List.getElem_mem hkn)
   have HX := Lib.hid (valsB_take1 (L := L) hkn)
   have hbl := valsB_len hL (h.roots.take k) (fun x hx => h32r x (List.mem_of_mem_take hx))
   rw [List.length_take] at hbl
   generalize h.roots.getD k 0 = x at *
   go_wp2_with fail
   refine (HV.out _ (below_top HB1.out HCR.out.base) x hx32).mono ?_
   rintro e w5 ⟨v5, rfl, hown5, hb5⟩
   obtain ⟨A5, c5, rfl, hr5⟩ := own_sliceI hown5
   have HR5 := Lib.hid hr5
   have HC5 := Lib.hid (HCR.out.below hb5)
   have hvl := HVL.out x hx32
   clear hown5 hb5 hr5 HCR hc1
   generalize cnt7 (vnum L x) = cx at *
   go_wp2_with (at_builtin; refine wpList_app_RB (.tmp 16) (.tmp 19) HC5.out HR5.out rfl rfl (by omega) rfl rfl ?_; intro v6 w6 C6 hg6; clear hg6; have HC6 := Lib.hid C6; clear C6)
   go_roundw
   case rel => exact ⟨k + 1, by go_num, by omega, by rw [HX.out]; exact HC6.out⟩
   case measure => simp [intOf]; omega
  ·obtain rfl : k = h.roots.length := by omega
   have hd : decide ((h.roots.length : Int) < (h.roots.length : Int)) = false := by simp
   have hcw := HCR.out
   rw [List.take_length] at hcw
   have HCW := Lib.hid hcw
   clear HCR hk hcw
   go_wp2_with fail
   go_ret
   exact ⟨_, rfl, own_lessI HCW.out.own HB1.out.size, below_top HB1.out HCW.out.base⟩
end
section
open Go.RowKit
attribute [local go_sem] Oper.semAt_some
def payB (L : List Nat) (b : Ob) : List Nat := if b.x.fmt = 2 then (bytesM b.fs).take b.x.len else if b.x.fmt = 3 then b.fs.flatMap cnt7 else valsB L b.fs
def objB' (L : List Nat) (b : Ob) : List Nat := cnt7 (numL L b.x.cls) ++ ([b.x.fmt + 16 * b.x.spare] ++ (cnt7 b.x.size ++ (cnt7 b.x.ser ++ payB L b)))
theorem words_len {fs : List Nat} (h : ∀ x ∈ fs, x < 4294967296) : (fs.flatMap cnt7).length ≤ 5 * fs.length := by
 induction fs with
 | nil => simp
 | cons a fs ih =>
   have h1 := ih (fun x hx => h x (by simp [hx]))
   have h2 := cnt7I_len5 (h a (by simp))
   rw [List.flatMap_cons, List.length_append, List.length_cons]
   omega
theorem payB_len {L : List Nat} (hL : L.length ≤ 1048576) {b : Ob} (K : b.Ok) : (payB L b).length ≤ 5 * b.fs.length := by
 unfold payB
 split
 ·rw [List.length_take, bytesM_len]; omega
 ·split
  ·exact words_len K.f32
  ·exact valsB_len hL _ K.f32
theorem objB_len {L : List Nat} (hL : L.length ≤ 1048576) {b : Ob} (K : b.Ok) : (objB' L b).length ≤ 16 + 5 * b.fs.length := by
 have h1 := payB_len hL K
 have h2 := cnt7I_len5 (show numL L b.x.cls < 4294967296 by have := numL_le L b.x.cls; omega)
 have h3 := cnt7I_len5 (show b.x.size < 4294967296 by have := K.fit.size; omega)
 have h4 := cnt7I_len5 K.fit.ser
 unfold objB'
 simp only [List.length_append, List.length_cons, List.length_nil]
 omega
theorem ok_size {b : Ob} (K : b.Ok) : b.fs.length ≤ 65535 := by
 have hm := K.may
 unfold Hd.may at hm
 simp at hm
 have := K.size
 omega
def objsB (L : List Nat) (bs : List Ob) : List Nat := bs.flatMap (objB' L)
theorem objsB_snoc (L : List Nat) (bs : List Ob) (b : Ob) : objsB L (bs ++ [b]) = objsB L bs ++ objB' L b := by unfold objsB; rw [List.flatMap_append]; simp
theorem objsB_len {L : List Nat} (hL : L.length ≤ 1048576) : ∀ bs : List Ob, (∀ b ∈ bs, b.Ok) → (objsB L bs).length ≤ 400000 * bs.length
 | [], _ => by simp [objsB]
 | b :: bs, h => by
   have h1 := objsB_len hL bs (fun x hx => h x (by simp [hx]))
   have h2 := objB_len hL (h b (by simp))
   have h3 := ok_size (h b (by simp))
   unfold objsB at *
   rw [List.flatMap_cons, List.length_append, List.length_cons]
   omega
section
variable {w : World} {p : HP} {h : HM} {l : List Ob}
theorem ob_at (G : h.Good l) (k : Nat) (hk : k < l.length) : h.fields (2 * posOf (l.take k)) = (l[k]).fs ∧ (l[k]).Ok ∧ (∀ j, j < (l[k]).fs.length → fw h (2 * posOf (l.take k)) j = (l[k]).fs.getD j 0) ∧ h.isB (2 * posOf (l.take k)) = true ∧ h.hd (2 * posOf (l.take k) / 2) = (l[k]).x := by
 have L := G.laid
 have e := split_at l k hk
 have L' := L
 rw [e] at L'
 exact ⟨L'.fields_at, L.ok _ (List.getElem_mem hk), fun j hj => L'.f_at j hj, isB_at G k hk, by rw [half_pos]; exact hd_at' G k hk⟩
theorem oget_any (H : HAt w p h) (G : h.Good l) (hs : Spares w) (k : Nat) (hk : k < l.length) (i : Nat) (hi : i < (l[k]).fs.length) (hf : (l[k]).x.fmt = 1 ∨ (l[k]).x.fmt = 4) (ho : 2 * posOf (l.take k) < 4294967296) :
 Calls Tryz.prog 81 #[ptr p.g, .int .u32 (2 * posOf (l.take k) : Nat), .int .i64 i] w (Told (.tuple #[.int .u32 ((l[k]).fs.getD i 0 : Nat), .int .i64 0]) w) := by
 obtain ⟨h1, K, h3, h4, h5⟩ := ob_at G k hk
 have hG := get_any H G.fit G.laid.heads hs _ ho (i : Int)
 have hln : (l[k]).x.len = (l[k]).fs.length := by unfold Hd.len; rw [if_neg (by omega), K.size]
 have he : h.lookE (2 * posOf (l.take k)) (i : Int) [1, 4] = 0 := by
  unfold HM.lookE
  rw [h4, h5, if_neg (by decide), if_neg (by rcases hf with e | e <;> rw [e] <;> decide), if_neg (by omega)]
 unfold HM.readV at hG
 rw [he, if_pos rfl, Int.toNat_natCast, h3 i hi] at hG
 exact hG
theorem oword_any (H : HAt w p h) (G : h.Good l) (hs : Spares w) (k : Nat) (hk : k < l.length) (i : Nat) (hi : i < (l[k]).fs.length) (hf : (l[k]).x.fmt = 3) (ho : 2 * posOf (l.take k) < 4294967296) :
 Calls Tryz.prog 80 #[ptr p.g, .int .u32 (2 * posOf (l.take k) : Nat), .int .i64 i] w (Told (.tuple #[.int .u32 ((l[k]).fs.getD i 0 : Nat), .int .i64 0]) w) := by
 obtain ⟨h1, K, h3, h4, h5⟩ := ob_at G k hk
 have hG := word_any H G.fit G.laid.heads hs _ ho (i : Int)
 have hln : (l[k]).x.len = (l[k]).fs.length := by unfold Hd.len; rw [if_neg (by omega), K.size]
 have he : h.lookE (2 * posOf (l.take k)) (i : Int) [3] = 0 := by
  unfold HM.lookE
  rw [h4, h5, if_neg (by decide), if_neg (by rw [hf]; decide), if_neg (by omega)]
 unfold HM.readV at hG
 rw [he, if_pos rfl, Int.toNat_natCast, h3 i hi] at hG
 exact hG
theorem bytesI_reads {w : World} {g c len : Nat} {xs : List Nat} (hr : Row w g 5 c (u8c xs)) (hl : len ≤ xs.length) : Reads w w.heap.size 1 (some ⟨g, 0, none⟩) len (u8c (xs.take len)) := by
 refine ⟨by simp [u8c]; omega, fun _ => ⟨_, rfl, hr.lt, fun j u hu => ?_⟩⟩
 rw [WideShapes.add_plain, Nat.zero_add]
 refine hr.cell ?_
 unfold u8c at hu ⊢
 rw [List.getElem?_map] at hu ⊢
 rw [List.getElem?_take] at hu
 split at hu
 ·exact hu
 ·cases hu
def OBytesP (b : Ob) (w : World) (e : Ending) (w' : World) : Prop :=
 Below w.heap.size w w' ∧ ∃ g, e = .returned (.tuple #[.slice (some ⟨g, 0, none⟩) ((bytesM b.fs).take b.x.len).length ((bytesM b.fs).take b.x.len).length, .int .i64 0]) ∧ Reads w' w'.heap.size 1 (some ⟨g, 0, none⟩) ((bytesM b.fs).take b.x.len).length (u8c ((bytesM b.fs).take b.x.len))
theorem obytes_any (H : HAt w p h) (G : h.Good l) (hs : Spares w) (k : Nat) (hk : k < l.length) (hf : (l[k]).x.fmt = 2) (ho : 2 * posOf (l.take k) < 4294967296) :
 Calls Tryz.prog 79 #[ptr p.g, .int .u32 (2 * posOf (l.take k) : Nat)] w (OBytesP (l[k]) w) := by
 obtain ⟨h1, K, h3, h4, h5⟩ := ob_at G k hk
 refine (bytes_any H G.fit G.laid.heads hs _ ho).mono ?_
 rintro e w' ⟨hb, hy⟩
 have hE : h.bytesE (2 * posOf (l.take k)) = 0 := by
  unfold HM.bytesE
  rw [if_neg (by simp [h4]), h5, if_pos hf, h1]
  exact G.sound.spare _ (List.getElem_mem hk) hf
 have hlen : (l[k]).x.len ≤ (bytesM (l[k]).fs).length := by
  rw [bytesM_len]
  unfold Hd.len
  rw [if_pos hf, K.size]
  omega
 rw [if_pos hE, h1, h5] at hy
 obtain ⟨g, c, rfl, hrow, hg⟩ := hy
 have e1 : ((bytesM (l[k]).fs).take (l[k]).x.len).length = (l[k]).x.len := by rw [List.length_take]; omega
 refine ⟨hb, g, ?_, ?_⟩
 ·rw [e1]
 ·rw [e1]; exact bytesI_reads hrow hlen
end
end
section
theorem wordAt_lt256 {bs : List Nat} : (∀ x ∈ bs, x < 256) → ∀ j, wordAt bs j < 4294967296 := by
 intro h j
 have hg : ∀ i, bs.getD i 0 < 256 := by
  intro i
  rw [List.getD_eq_getElem?_getD]
  cases hh : bs[i]? with
  | none => simp
  | some v => simp; exact h v (List.mem_of_getElem? hh)
 have := hg (4*j); have := hg (4*j+1); have := hg (4*j+2); have := hg (4*j+3)
 unfold wordAt; omega
def rdN : Nat → Nat → List Nat → Option (Nat × List Nat)
 | _, _, [] => none
 | i, n, x :: t => if x < 128 then (if (x = 0 ∧ 0 < i) ∨ 4294967296 ≤ n + 128 ^ i * (x % 128) then none else some (n + 128 ^ i * (x % 128), t)) else if 4 ≤ i then none else rdN (i + 1) (n + 128 ^ i * (x % 128)) t
def rdNum (b : List Nat) : Option (Nat × List Nat) := rdN 0 0 b
theorem rdN_lt : ∀ (b : List Nat) (i n v : Nat) (t : List Nat), rdN i n b = some (v, t) → v < 4294967296 ∧ t.length < b.length ∧ ∃ c, b = c ++ t
 | [], i, n, v, t, h => by cases h
 | x :: b, i, n, v, t, h => by
   unfold rdN at h
   split at h
   ·split at h
    ·cases h
    ·rename_i h1
     cases h
     exact ⟨by omega, by simp, [x], rfl⟩
   ·split at h
    ·cases h
    ·obtain ⟨h1, h2, c, h3⟩ := rdN_lt b _ _ _ _ h
     exact ⟨h1, by simp; omega, x :: c, by rw [h3]; rfl⟩
theorem rdNum_lt {b : List Nat} {v : Nat} {t : List Nat} (h : rdNum b = some (v, t)) : v < 4294967296 ∧ t.length < b.length ∧ ∃ c, b = c ++ t := rdN_lt b 0 0 v t h
def rdK : Nat → List Nat → Option (List Nat × List Nat)
 | 0, b => some ([], b)
 | k + 1, b => match rdNum b with
   | none => none
   | some (v, t) => match rdK k t with
     | none => none
     | some (l, r) => some (v :: l, r)
theorem rdK_len : ∀ (k : Nat) (b l r : List Nat), rdK k b = some (l, r) → l.length = k ∧ r.length + k ≤ b.length ∧ (∀ x ∈ l, x < 4294967296) ∧ ∃ c, b = c ++ r
 | 0, b, l, r, h => by cases h; exact ⟨rfl, Nat.le_refl _, (fun _ h => (by cases h)), [], rfl⟩
 | k + 1, b, l, r, h => by
   unfold rdK at h
   split at h
   ·cases h
   ·rename_i v t hv
    split at h
    ·cases h
    ·rename_i l' r' hl
     cases h
     obtain ⟨h1, h2, h3, c, h4⟩ := rdK_len k t _ _ hl
     obtain ⟨g1, g2, d, g3⟩ := rdNum_lt hv
     refine ⟨by simp [h1], by omega, fun x hx => ?_, d ++ c, by rw [g3, h4, List.append_assoc]⟩
     rcases List.mem_cons.1 hx with rfl | hx
     ·exact g1
     ·exact h3 x hx
theorem rdK_snoc : ∀ (k : Nat) (b l r : List Nat), rdK k b = some (l, r) → rdK (k + 1) b = (match rdNum r with | none => none | some (v, t) => some (l ++ [v], t))
 | 0, b, l, r, h => by
   cases h
   show (match rdNum b with | none => none | some (v, t) => match rdK 0 t with | none => none | some (l, r) => some (v :: l, r)) = _
   cases rdNum b with
   | none => rfl
   | some p => rfl
 | k + 1, b, l, r, h => by
   unfold rdK at h
   unfold rdK
   cases hn : rdNum b with
   | none => rw [hn] at h; cases h
   | some p =>
     obtain ⟨v, t⟩ := p
     rw [hn] at h
     simp only at h ⊢
     cases hk : rdK k t with
     | none => rw [hk] at h; cases h
     | some q =>
       obtain ⟨l', r'⟩ := q
       rw [hk] at h
       simp only at h
       cases h
       rw [rdK_snoc k t l' r hk]
       cases rdNum r with
       | none => rfl
       | some u => rfl
theorem rdK_stop : ∀ (j k : Nat) (b : List Nat), rdK k b = none → k ≤ j → rdK j b = none
 | _, 0, b, h, _ => by cases h
 | 0, k + 1, b, h, hj => by omega
 | j + 1, k + 1, b, h, hj => by
   unfold rdK at h ⊢
   cases hn : rdNum b with
   | none => rfl
   | some p =>
     obtain ⟨v, t⟩ := p
     rw [hn] at h
     simp only at h ⊢
     cases hk : rdK k t with
     | none => rw [rdK_stop j k t hk (by omega)]
     | some q => rw [hk] at h; cases h
structure Th where
 x : Hd
 fs : List Nat
def okB (x : Hd) : Bool := x.may && decide (x.spare < 4)
theorem okB_fit {x : Hd} (h : okB x = true) (h1 : x.cls < 4294967296) (h2 : x.ser < 4294967296) : x.Fit ∧ x.may = true := by
 unfold okB Hd.may at h
 simp at h
 exact ⟨⟨by omega, by omega, by omega, h1, h2⟩, by unfold Hd.may; simp; omega⟩
def rdFs (x : Hd) (b : List Nat) : Option (Th × List Nat) :=
 if x.fmt = 2 then (if 4 * x.size - x.spare ≤ b.length then some (⟨x, packM (b.take (4 * x.size - x.spare))⟩, b.drop (4 * x.size - x.spare)) else none)
 else match rdK x.size b with
  | none => none
  | some (fs, r) => some (⟨x, fs⟩, r)
def rdHd (b : List Nat) : Option (Hd × List Nat) :=
 match rdNum b with
 | none => none
 | some (c, b1) => match b1 with
   | [] => none
   | k :: b2 => match rdNum b2 with
     | none => none
     | some (n, b3) => match rdNum b3 with
       | none => none
       | some (s, b4) => if okB ⟨n, k % 16, k / 16, c, s⟩ then some (⟨n, k % 16, k / 16, c, s⟩, b4) else none
def rdObj (b : List Nat) : Option (Th × List Nat) := match rdHd b with
 | none => none
 | some (x, b4) => rdFs x b4
theorem rdHd_ok {b : List Nat} {x : Hd} {r : List Nat} (h : rdHd b = some (x, r)) : okB x = true ∧ x.cls < 4294967296 ∧ x.ser < 4294967296 ∧ r.length + 4 ≤ b.length ∧ ∃ c, b = c ++ r := by
 unfold rdHd at h
 split at h
 ·cases h
 ·rename_i c b1 h1
  split at h
  ·cases h
  ·rename_i k b2
   split at h
   ·cases h
   ·rename_i n b3 h3
    split at h
    ·cases h
    ·rename_i s b4 h4
     split at h
     ·rename_i hk
      cases h
      obtain ⟨a1, a2, c1, a3⟩ := rdNum_lt h1
      obtain ⟨d1, d2, c2, d3⟩ := rdNum_lt h3
      obtain ⟨e1, e2, c3, e3⟩ := rdNum_lt h4
      simp only [List.length_cons] at a2
      exact ⟨hk, a1, e1, by omega, c1 ++ k :: (c2 ++ c3), by rw [a3, d3, e3]; simp⟩
     ·cases h
structure Th.Ok (t : Th) : Prop where
 fit : t.x.Fit
 may : t.x.may = true
 size : t.fs.length = t.x.size
 f32 : ∀ f ∈ t.fs, f < 4294967296
theorem rdObj_ok {b : List Nat} {t : Th} {r : List Nat} (h : rdObj b = some (t, r)) (hb : ∀ x ∈ b, x < 256) : t.Ok ∧ r.length + 4 + t.fs.length ≤ b.length ∧ ∃ c, b = c ++ r := by
 unfold rdObj at h
 split at h
 ·cases h
 ·rename_i x b4 hx
  obtain ⟨h1, h2, h3, h4, c, h5⟩ := rdHd_ok hx
  obtain ⟨k1, k2⟩ := okB_fit h1 h2 h3
  unfold rdFs at h
  split at h
  ·rename_i hf
   split at h
   ·rename_i hl
    cases h
    have hs : 4 * x.size - x.spare + 3 < 4 * (x.size + 1) ∧ 4 * x.size ≤ 4 * x.size - x.spare + 3 := by
     have := k1.spare
     unfold Hd.may at k2
     simp at k2
     omega
    have hlen : (packM (b4.take (4 * x.size - x.spare))).length = x.size := by
     rw [packM_len, List.length_take]
     omega
    refine ⟨⟨k1, k2, hlen, fun f hf' => ?_⟩, ?_, c ++ b4.take (4 * x.size - x.spare), ?_⟩
    ·unfold packM packK at hf'
     obtain ⟨j, _, rfl⟩ := List.mem_map.1 hf'
     refine wordAt_lt256 (fun y hy => hb y ?_) j
     rw [h5]
     exact List.mem_append_right _ (List.mem_of_mem_take (List.mem_of_mem_take hy))
    ·rw [hlen, List.length_drop]
     have := k1.spare
     unfold Hd.may at k2
     simp at k2
     omega
    ·rw [h5, List.append_assoc, List.take_append_drop]
   ·cases h
  ·split at h
   ·cases h
   ·rename_i fs r' hk
    cases h
    obtain ⟨a1, a2, a3, d, a4⟩ := rdK_len _ _ _ _ hk
    exact ⟨⟨k1, k2, a1, a3⟩, by simp only [a1]; omega, c ++ d, by rw [h5, a4, List.append_assoc]⟩
def rdObjs : Nat → List Nat → Option (List Th × List Nat)
 | 0, b => some ([], b)
 | k + 1, b => match rdObj b with
   | none => none
   | some (v, t) => match rdObjs k t with
     | none => none
     | some (l, r) => some (v :: l, r)
theorem rdObjs_snoc : ∀ (k : Nat) (b : List Nat) (l : List Th) (r : List Nat), rdObjs k b = some (l, r) → rdObjs (k + 1) b = (match rdObj r with | none => none | some (v, t) => some (l ++ [v], t))
 | 0, b, l, r, h => by
   cases h
   show (match rdObj b with | none => none | some (v, t) => match rdObjs 0 t with | none => none | some (l, r) => some (v :: l, r)) = _
   cases rdObj b with
   | none => rfl
   | some p => rfl
 | k + 1, b, l, r, h => by
   unfold rdObjs at h
   unfold rdObjs
   cases hn : rdObj b with
   | none => rw [hn] at h; cases h
   | some p =>
     obtain ⟨v, t⟩ := p
     rw [hn] at h
     simp only at h ⊢
     cases hk : rdObjs k t with
     | none => rw [hk] at h; cases h
     | some q =>
       obtain ⟨l', r'⟩ := q
       rw [hk] at h
       simp only at h
       cases h
       rw [rdObjs_snoc k t l' r hk]
       cases rdObj r with
       | none => rfl
       | some u => rfl
theorem rdObjs_stop : ∀ (j k : Nat) (b : List Nat), rdObjs k b = none → k ≤ j → rdObjs j b = none
 | _, 0, b, h, _ => by cases h
 | 0, k + 1, b, h, hj => by omega
 | j + 1, k + 1, b, h, hj => by
   unfold rdObjs at h ⊢
   cases hn : rdObj b with
   | none => rfl
   | some p =>
     obtain ⟨v, t⟩ := p
     rw [hn] at h
     simp only at h ⊢
     cases hk : rdObjs k t with
     | none => rw [rdObjs_stop j k t hk (by omega)]
     | some q => rw [hk] at h; cases h
theorem rdObjs_ok : ∀ (k : Nat) (b : List Nat) (l : List Th) (r : List Nat), rdObjs k b = some (l, r) → (∀ x ∈ b, x < 256) → l.length = k ∧ (∀ t ∈ l, t.Ok) ∧ 4 * k + r.length ≤ b.length ∧ ∃ c, b = c ++ r
 | 0, b, l, r, h, _ => by cases h; exact ⟨rfl, (fun _ h => (by cases h)), by omega, [], rfl⟩
 | k + 1, b, l, r, h, hb => by
   unfold rdObjs at h
   split at h
   ·cases h
   ·rename_i v t hv
    split at h
    ·cases h
    ·rename_i l' r' hl
     cases h
     obtain ⟨g1, g2, d, g5⟩ := rdObj_ok hv hb
     obtain ⟨h1, h2, h3, c, h4⟩ := rdObjs_ok k t _ _ hl (fun x hx => hb x (by rw [g5]; exact List.mem_append_right _ hx))
     refine ⟨by simp [h1], fun x hx => ?_, by omega, d ++ c, by rw [g5, h4, List.append_assoc]⟩
     rcases List.mem_cons.1 hx with rfl | hx
     ·exact g1
     ·exact h2 x hx
theorem rdObjs_less : ∀ (j k : Nat) (b : List Nat) (l : List Th) (r : List Nat), rdObjs k b = some (l, r) → j ≤ k → (∀ x ∈ b, x < 256) → ∃ l' r', rdObjs j b = some (l', r') ∧ r.length + 4 * (k - j) ≤ r'.length
 | 0, k, b, l, r, h, hj, hb => ⟨[], b, rfl, by have := (rdObjs_ok k b l r h hb).2.2.1; omega⟩
 | j + 1, 0, b, l, r, h, hj, hb => by omega
 | j + 1, k + 1, b, l, r, h, hj, hb => by
   unfold rdObjs at h ⊢
   split at h
   ·cases h
   ·rename_i v t hv
    split at h
    ·cases h
    ·rename_i l' r' hl
     cases h
     obtain ⟨g1, g2, d, g5⟩ := rdObj_ok hv hb
     obtain ⟨l2, r2, e1, e2⟩ := rdObjs_less j k t _ _ hl (by omega) (fun x hx => hb x (by rw [g5]; exact List.mem_append_right _ hx))
     exact ⟨v :: l2, r2, by simp only [e1], by omega⟩
def rdSec (tag : Nat) (b : List Nat) : Except Nat (List Nat × List Nat) :=
 match b with
 | [] => .error 143
 | t :: b1 => if t ≠ tag then .error 142 else match rdNum b1 with
   | none => .error 143
   | some (n, b2) => if b2.length < n + 4 then .error 143 else if (b2.drop n).take 4 = four4 (sumN (tag :: b2.take n)) then .ok (b2.take n, b2.drop (n + 4)) else .error 144
def rdSecs : List Nat → List Nat → Except Nat (List (List Nat) × List Nat)
 | [], b => .ok ([], b)
 | tag :: ts, b => match rdSec tag b with
   | .error e => .error e
   | .ok (p, r) => match rdSecs ts r with
     | .error e => .error e
     | .ok (ps, r') => .ok (p :: ps, r')
def secI (tag : Nat) (p : List Nat) : List Nat := [tag] ++ (cnt7 p.length ++ (p ++ four4 (sumN (tag :: p))))
structure Img where
 ts : List Th
 rts : List Nat
 last : Nat
def partsM (p0 p1 p2 p3 : List Nat) : Option Img :=
 match rdNum p0 with
 | none => none
 | some (last, q) => match rdNum q with
   | none => none
   | some (many, q') => if q' ≠ [] then none else match rdObjs many p1 with
     | none => none
     | some (ts, q1) => if q1 ≠ [] then none else match rdK 64 p2 with
       | none => none
       | some (rts, q2) => if q2 ≠ [] ∨ p3 ≠ [] then none else some ⟨ts, rts, last⟩
def newM (b : List Nat) : Except Nat Img :=
 match rdSecs [72, 79, 82, 90] b with
 | .error e => .error e
 | .ok (ps, r) => if r ≠ [] then .error 143 else match partsM (ps.getD 0 []) (ps.getD 1 []) (ps.getD 2 []) (ps.getD 3 []) with
   | none => .error 143
   | some i => .ok i
def placeT (ts : List Th) : Nat := 1 + (ts.map fun t => 3 + t.x.size).sum
theorem placeT_snoc (ts : List Th) (t : Th) : placeT (ts ++ [t]) = placeT ts + (3 + t.x.size) := by unfold placeT; simp; omega
theorem placeT_le (ts : List Th) (k : Nat) : placeT (ts.take k) ≤ placeT ts := by
 unfold placeT
 conv => rhs; rw [← List.take_append_drop k ts, List.map_append, List.sum_append]
 omega
def namedT (ts : List Th) (n : Nat) : Nat := if n = 0 then 0 else if ts.length < n then 0 else (2 * placeT (ts.take (n - 1))) % 4294967296
def zagI (z : Nat) : Int := if z % 2 = 0 then (z / 2 : Nat) else -(((z + 1) / 2 : Nat) : Int)
def smallO (v : Int) : Nat := ((2 * v + 1) % 4294967296).toNat
def valT (ts : List Th) (n : Nat) : Nat := if n % 2 = 0 then namedT ts (n / 2) else smallO (zagI (n / 2))
theorem namedT_lt (ts : List Th) (n : Nat) : namedT ts n < 4294967296 := by unfold namedT; split; · omega
                                                                            split <;> omega
theorem valT_lt (ts : List Th) (n : Nat) : valT ts n < 4294967296 := by
 unfold valT smallO
 split
 ·exact namedT_lt _ _
 ·omega
def Hd.ptrT (x : Hd) : Bool := decide (x.fmt = 1) || decide (x.fmt = 4)
def obOf (ts : List Th) (t : Th) : Ob := ⟨{ t.x with cls := namedT ts t.x.cls }, if t.x.ptrT then t.fs.map (valT ts) else t.fs⟩
theorem obOf_ok {ts : List Th} {t : Th} (h : t.Ok) : (obOf ts t).Ok := by
 refine ⟨⟨h.fit.size, h.fit.fmt, h.fit.spare, namedT_lt _ _, h.fit.ser⟩, h.may, ?_, fun f hf => ?_⟩
 ·unfold obOf
  simp only
  split
  ·rw [List.length_map, h.size]
  ·rw [h.size]
 ·unfold obOf at hf
  simp only at hf
  split at hf
  ·obtain ⟨n, _, rfl⟩ := List.mem_map.1 hf
   exact valT_lt _ _
  ·exact h.f32 f hf
def wrongN (ts : List Th) (n : Nat) : Bool := decide (ts.length < n)
def wrongV (ts : List Th) (n : Nat) : Bool := decide (n % 2 = 0) && wrongN ts (n / 2)
def wrongT (ts : List Th) (t : Th) : Bool := wrongN ts t.x.cls || (t.x.ptrT && t.fs.any (wrongV ts))
def Img.words (i : Img) : List Nat := 0 :: wsOf (i.ts.map (obOf i.ts))
def Img.roots (i : Img) : List Nat := i.rts.map (valT i.ts)
def Img.wrong (i : Img) : Bool := i.ts.any (wrongT i.ts) || i.rts.any (wrongV i.ts)
structure Rd where
 ver : Nat
 words : List Nat
 roots : List Nat
 last : Nat
 wrong : Bool
def word4 (b : List Nat) (i : Nat) : Nat := b.getD i 0 + b.getD (i + 1) 0 * 256 + b.getD (i + 2) 0 * 65536 + b.getD (i + 3) 0 * 16777216
def oldM (b : List Nat) : Except Nat Rd :=
 if b.length < 273 ∨ b.length ≠ 273 + 4 * word4 b 9 then .error 143
 else if sumN (b.take (b.length - 4)) ≠ word4 b (b.length - 4) then .error 144
 else .ok ⟨1, (List.range (word4 b 9)).map (fun i => word4 b (13 + 4 * i)), (List.range 64).map (fun i => word4 b (13 + 4 * word4 b 9 + 4 * i)), word4 b 5, false⟩
def takeR (b : List Nat) : Except Nat Rd :=
 if 8388608 < b.length then .error 2
 else if b.length < 5 ∨ b.take 4 ≠ [69, 70, 73, 71] then .error 140
 else if b.getD 4 0 = 1 then oldM b
 else if b.getD 4 0 = 2 then match newM (b.drop 5) with
  | .error e => .error e
  | .ok i => .ok ⟨2, i.words, i.roots, i.last, i.wrong⟩
 else .error 141
end
section
def thOf (L : List Nat) (b : Ob) : Th := ⟨{ b.x with cls := numL L b.x.cls }, if b.x.ptrT then b.fs.map (vnum L) else b.fs⟩
theorem placeT_posOf (L : List Nat) : ∀ l : List Ob, (∀ b ∈ l, b.Ok) → placeT (l.map (thOf L)) = posOf l
 | [], _ => rfl
 | b :: l, h => by
   have h1 := placeT_posOf L l (fun x hx => h x (by simp [hx]))
   have h2 := (h b (by simp)).size
   unfold placeT posOf at *
   rw [wsOf_cons, List.length_append, Ob.ws_len, List.map_cons, List.map_cons, List.sum_cons]
   simp only [thOf] at *
   omega
section
variable {h : HM} {l : List Ob}
theorem oopsL_getD {k : Nat} (hk : k < l.length) : (oopsL l).getD k 0 = 2 * posOf (l.take k) := by
 rw [List.getD_eq_getElem?_getD, oopsL_get hk]; rfl
def payH (h : HM) (l : List Ob) : List Nat := cnt7 h.last ++ cnt7 l.length
def HM.newI (h : HM) (l : List Ob) : List Nat := [69, 70, 73, 71, 2] ++ (secI 72 (payH h l) ++ (secI 79 (objsB (oopsL l) l) ++ (secI 82 (valsB (oopsL l) h.roots) ++ secI 90 [])))
theorem objsB_le {L : List Nat} (hL : L.length ≤ 1048576) : ∀ bs : List Ob, (∀ b ∈ bs, b.Ok) → (objsB L bs).length ≤ 6 * (wsOf bs).length
 | [], _ => by simp [objsB]
 | b :: bs, h => by
   have h1 := objsB_le hL bs (fun x hx => h x (by simp [hx]))
   have h2 := objB_len hL (h b (by simp))
   unfold objsB at *
   rw [List.flatMap_cons, List.length_append, wsOf_cons, List.length_append, Ob.ws_len]
   omega
theorem cnt7_len_le {n : Nat} (h : n < 4294967296) : (cnt7 n).length ≤ 5 := cnt7I_len5 h
theorem secI_len (tag : Nat) (p : List Nat) : (secI tag p).length = 5 + (cnt7 p.length).length + p.length := by
 unfold secI
 simp only [List.length_append, four4, List.length_cons, List.length_nil]
 omega
theorem pay_lens (G : h.Good l) : (payH h l).length ≤ 10 ∧ (objsB (oopsL l) l).length ≤ 6291456 ∧ (valsB (oopsL l) h.roots).length ≤ 320 := by
 have hL := oopsL_le G
 have hl : l.length < 4294967296 := by rw [oopsL_len] at hL; omega
 have h1 := cnt7_len_le G.fit.l32
 have h2 := cnt7_len_le hl
 have h3 := objsB_le hL l G.laid.ok
 have h4 := valsB_len hL h.roots G.fit.r32
 have h5 : h.words.length = 1 + (wsOf l).length := by rw [G.laid.words]; simp; omega
 have := G.fit.room
 have := G.fit.hi
 have := G.fit.roots
 unfold payH
 rw [List.length_append]
 omega
theorem newI_len (G : h.Good l) : (h.newI l).length ≤ 8388608 := by
 obtain ⟨h1, h2, h3⟩ := pay_lens G
 have a1 := cnt7_len_le (show (payH h l).length < 4294967296 by omega)
 have a2 := cnt7_len_le (show (objsB (oopsL l) l).length < 4294967296 by omega)
 have a3 := cnt7_len_le (show (valsB (oopsL l) h.roots).length < 4294967296 by omega)
 have a4 := cnt7_len_le (show ([] : List Nat).length < 4294967296 by simp)
 unfold HM.newI
 simp only [List.length_append, secI_len, List.length_cons, List.length_nil]
 simp only [List.length_nil] at a4
 omega
end
end
end Go.Proofs.YthadjmhipckelaaGreatDoor
