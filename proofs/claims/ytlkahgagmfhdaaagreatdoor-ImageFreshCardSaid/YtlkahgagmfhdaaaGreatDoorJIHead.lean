import Derived.Test.YtlkahgagmfhdaaaGreatDoorJAll
import Derived.Test.YtlkahgagmfhdaaaGreatDoorJLook
import Derived.Test.YtlkahgagmfhdaaaGreatDoorJIOld
import Derived.Test.YtlkahgagmfhdaaaGreatDoorJAlloc
import Derived.Test.YtlkahgagmfhdaaaGreatDoorJMake
import Derived.Test.YtlkahgagmfhdaaaGreatDoorJMay
import Derived.Test.YtlkahgagmfhdaaaGreatDoorJLive
import Derived.Test.YtlkahgagmfhdaaaGreatDoorJUntil
import Derived.Test.YtlkahgagmfhdaaaGreatDoorJMem
import Derived.OwnWalkIn
set_option linter.unusedVariables false
set_option linter.unusedSimpArgs false
set_option linter.unusedSectionVars false
namespace Go.Proofs.YtlkahgagmfhdaaaGreatDoor
section
open Go.RowKit
attribute [local go_sem] Oper.semAt_some
theorem wp_app_RB {o : Oper} {a : Act} {K : Act → World → Prop} {Q : Exit → Act → World → Prop} {w w2 : World} {B m c : Nat} {v : Value} {bs cs : List Nat} {A : Option Addr} (s x : Operand)
 (C : RB w2 w B v bs) (hr : Reads w w.heap.size 1 A m (u8c cs)) (hs : a.eval s = v) (hx : a.eval x = .slice A m c) (hn : bs.length + m ≤ 100000000000000)
 (ho : o.op = .call { callee := .builtin .append, args := #[s, x], argTypes := #[22, 22] })
 (h : ∀ v' w', RB w2 w' B v' (bs ++ cs) → w.grownBy w' v.ownBlock → K (a.put o.dst v') w') : Oper.wp Tryz.prog o a w K Q := by
 obtain ⟨i0, hi0, hz0, hz1, hz2⟩ := info_parts info_u8
 refine wp_append_any w s x _ ho B 5 i0 _ 1 1 Tryz.underlying22 hi0 hz0 hz1 hz2 rfl (by omega) v bs.length (u8c bs) hs C.own w.heap.size A m c (u8c cs) hx hr (one_u8c _) (by simp only [maxLen]; omega) (by omega) C.top ?_
 intro v4 w4 hown4 hgrow4 hat4
 exact h _ _ (C.app (by have := hr.1; rw [u8c_len, Nat.mul_one] at this; exact this) hown4 hgrow4) hgrow4
set_option maxRecDepth 100000 in
set_option maxHeartbeats 4000000 in
theorem shead_any {w : World} {p : HP} {h : HM} {sg mb : Nat} {L : List Nat} (H : HAt w p h) (f : h.Fit) (S : SvAt w sg mb p.g L) (hL : L.length ≤ 1048576) (hnd : L.Nodup) :
 Calls Tryz.prog 107 #[.pointer (some ⟨sg, 0, none⟩)] w (BytesN (cnt7 h.last ++ cnt7 L.length) w) := by
 have hlast := f.l32
 have hc1 := cnt7I_len5 hlast
 have hc2 := cnt7I_len5 (show L.length < 4294967296 by omega)
 have hwm : IntKind.u32.wrap (L.length : Int) = (L.length : Int) := by show (L.length : Int) % 4294967296 = _; omega
 have hst := (stL_nodup L hnd).1
 unfold BytesN
 go_enter Tryz.func107, Tryz.ntmps107
 go_upto_region 1 with fail
 refine wp_region_U 14 (fun w' => w'.cell? ⟨sg, 0, none⟩ = some (.pointer (some ⟨p.g, 0, none⟩)) ∧ w'.cell? ⟨sg, 1, none⟩ = some (.map (some mb))) (by kernel_rfl) ?_
 have hbd : Below w.heap.size w w.drew := ⟨rfl, rfl, rfl, Nat.le_refl _, fun _ _ => rfl⟩
 have HBD := Lib.hid hbd
 have H7 := H.below hbd
 have S7 := S.below hbd
 clear H S hbd
 generalize hW7 : w.drew = W7 at *
 have HW7 := Lib.hid hW7
 clear hW7
 have hsize : W7.heap.size = w.heap.size := by rw [← HW7.out]; rfl
 have HS := Lib.hid (fun (w' : World) (hb : Below W7.heap.size W7 w') => show w'.cell? ⟨sg, 0, none⟩ = some (.pointer (some ⟨p.g, 0, none⟩)) ∧ w'.cell? ⟨sg, 1, none⟩ = some (.map (some mb)) from ⟨(S7.below hb).box.cell 0, (S7.below hb).box.cell 1⟩)
 have HLN := Lib.hid (fun (w' : World) (hb : Below W7.heap.size W7 w') (ty : TypeId) => (S7.below hb).map.len oopTyU ty)
 rw [hst] at HLN
 have HLT := Lib.hid (last_any H7 f)
 unfold ptr at HLT
 have hS := HS.out _ (Below.refl _ _)
 clear H7 S7
 refine U_read 0 (v := (.pointer (some ⟨sg, 0, none⟩))) rfl (by kernel_rfl) (fun _ _ _ h => h) hS (by rfl) (fun w' hw' => by obtain ⟨h0, h1⟩ := hw'; go_simp) ?_
 try simp only [Act.put, List.setIfInBounds_toArray, List.set_cons_zero, List.set_cons_succ]
 refine U_read 1 (v := (.pointer (some ⟨sg, 0, none⟩))) rfl (by kernel_rfl) (fun _ _ _ h => h) hS (by rfl) (fun w' hw' => by obtain ⟨h0, h1⟩ := hw'; go_simp) ?_
 try simp only [Act.put, List.setIfInBounds_toArray, List.set_cons_zero, List.set_cons_succ]
 refine U_read 2 (v := (.pointer (some ⟨sg, 0, none⟩))) rfl (by kernel_rfl) (fun _ _ _ h => h) hS (by rfl) (fun w' hw' => by obtain ⟨h0, h1⟩ := hw'; go_simp) ?_
 try simp only [Act.put, List.setIfInBounds_toArray, List.set_cons_zero, List.set_cons_succ]
 refine U_read 3 (v := (.pointer (some ⟨p.g, 0, none⟩))) rfl (by kernel_rfl) (fun _ _ _ h => h) hS (by rfl) (fun w' hw' => by obtain ⟨h0, h1⟩ := hw'; go_simp) ?_
 try simp only [Act.put, List.setIfInBounds_toArray, List.set_cons_zero, List.set_cons_succ]
 refine U_read 6 (v := (.pointer (some ⟨sg, 0, none⟩))) rfl (by kernel_rfl) (fun _ _ _ h => h) hS (by rfl) (fun w' hw' => by obtain ⟨h0, h1⟩ := hw'; go_simp) ?_
 try simp only [Act.put, List.setIfInBounds_toArray, List.set_cons_zero, List.set_cons_succ]
 refine U_read 7 (v := (.pointer (some ⟨sg, 0, none⟩))) rfl (by kernel_rfl) (fun _ _ _ h => h) hS (by rfl) (fun w' hw' => by obtain ⟨h0, h1⟩ := hw'; go_simp) ?_
 try simp only [Act.put, List.setIfInBounds_toArray, List.set_cons_zero, List.set_cons_succ]
 refine U_read 8 (v := (.pointer (some ⟨sg, 1, none⟩))) rfl (by kernel_rfl) (fun _ _ _ h => h) hS (by rfl) (fun w' hw' => by obtain ⟨h0, h1⟩ := hw'; go_simp) ?_
 try simp only [Act.put, List.setIfInBounds_toArray, List.set_cons_zero, List.set_cons_succ]
 refine U_read 9 (v := (.map (some mb))) rfl (by kernel_rfl) (fun _ _ _ h => h) hS (by rfl) (fun w' hw' => by obtain ⟨h0, h1⟩ := hw'; go_simp) ?_
 try simp only [Act.put, List.setIfInBounds_toArray, List.set_cons_zero, List.set_cons_succ]
 refine U_one 4 (by kernel_rfl) rfl rfl (fun K hK => ?_)
 go_simp
 refine HLT.out.mono ?_
 rintro e w4 ⟨rfl, rfl⟩
 try dsimp only
 refine hK _ _ (fun _ => hS) ?_
 clear hK K
 try simp only [Act.put, List.setIfInBounds_toArray, List.set_cons_zero, List.set_cons_succ]
 refine U_one 5 (by kernel_rfl) rfl rfl (fun K hK => ?_)
 go_simp
 refine (inumber_any h.last hlast _).mono ?_
 rintro e w5 ⟨v5, rfl, hown5, hb5⟩
 try dsimp only
 have hS5 := HS.out _ hb5
 have hln5 := HLN.out _ hb5
 refine hK _ _ (fun _ => hS5) ?_
 clear hK K
 try simp only [Act.put, List.setIfInBounds_toArray, List.set_cons_zero, List.set_cons_succ]
 refine U_one 10 (by kernel_rfl) rfl rfl (fun K hK => ?_)
 go_simp
 refine hK _ _ (fun _ => hS5) ?_
 clear hK K
 try simp only [Act.put, List.setIfInBounds_toArray, List.set_cons_zero, List.set_cons_succ]
 refine U_one 11 (by kernel_rfl) rfl rfl (fun K hK => ?_)
 go_simp
 refine hK _ _ (fun _ => hS5) ?_
 clear hK K
 try simp only [Act.put, List.setIfInBounds_toArray, List.set_cons_zero, List.set_cons_succ]
 have HC5 := Lib.hid (RB.new (w2 := W7) hown5 hb5 (Below.refl _ _))
 clear hown5
 refine U_one 12 (by kernel_rfl) rfl rfl (fun K hK => ?_)
 go_simp
 refine (inumber_any L.length (by omega) _).mono ?_
 rintro e w6 ⟨v6, rfl, hown6, hb6⟩
 obtain ⟨A6, c6, rfl, hr6⟩ := own_sliceI hown6
 try dsimp only
 have hS6 := HS.out _ (below_top hb5 hb6)
 have HC6 := Lib.hid (HC5.out.below hb6)
 clear HC5
 refine hK _ _ (fun _ => hS6) ?_
 clear hK K
 try simp only [Act.put, List.setIfInBounds_toArray, List.set_cons_zero, List.set_cons_succ]
 refine U_one 13 (by kernel_rfl) rfl rfl (fun K hK => ?_)
 refine wp_app_RB (.tmp 8) (.tmp 15) HC6.out hr6 rfl rfl (by omega) rfl ?_
 intro v7 w7 C7 hg7
 refine hK _ _ (fun _ => (HS.out _ C7.base)) ?_
 clear hK K
 try simp only [Act.put, List.setIfInBounds_toArray, List.set_cons_zero, List.set_cons_succ]
 refine U_one 14 (by kernel_rfl) rfl rfl (fun K hK => ?_)
 go_simp
 refine hK _ _ (fun h => absurd h (by decide)) ?_
 clear hK K
 try simp only [Act.put, List.setIfInBounds_toArray, List.set_cons_zero, List.set_cons_succ]
 refine U_done (by kernel_rfl) ?_ _
 simp only [Calm, Exit.then]
 have hfin := C7
 rw [hsize] at hfin
 clear hS hS5 hS6 hln5
 go_wp2_with fail
 go_ret
 exact ⟨_, rfl, hfin.own, below_top HBD.out C7.base⟩
def valsB (L : List Nat) (rs : List Nat) : List Nat := rs.flatMap fun o => cnt7 (vnum L o)
theorem valsB_take1 {L l : List Nat} {k : Nat} (hk : k < l.length) : valsB L (l.take (k + 1)) = valsB L (l.take k) ++ cnt7 (vnum L (l.getD k 0)) := by
 unfold valsB
 rw [List.take_add_one, List.getElem?_eq_getElem hk, List.flatMap_append, List.getD_eq_getElem?_getD, List.getElem?_eq_getElem hk]
 simp
theorem valsB_len {L : List Nat} (hL : L.length ≤ 1048576) : ∀ rs : List Nat, (∀ x ∈ rs, x < 4294967296) → (valsB L rs).length ≤ 5 * rs.length
 | [], _ => by simp [valsB]
 | a :: rs, h => by
   have h1 := valsB_len hL rs (fun x hx => h x (by simp [hx]))
   have h2 := cnt7I_len5 (vnum_lt hL (h a (by simp)))
   unfold valsB at *
   rw [List.flatMap_cons, List.length_append, List.length_cons]
   omega
set_option maxRecDepth 100000 in
set_option maxHeartbeats 4000000 in
theorem sroots_any {w : World} {p : HP} {h : HM} {sg mb : Nat} {L : List Nat} (H : HAt w p h) (f : h.Fit) (S : SvAt w sg mb p.g L) (hL : L.length ≤ 1048576) (hnd : L.Nodup) :
 Calls Tryz.prog 109 #[.pointer (some ⟨sg, 0, none⟩)] w (BytesN (valsB L h.roots) w) := by
 have h32r := f.r32
 have hrl := f.roots
 have HRT := Lib.hid (roots_any H f)
 have c0 := S.box.cell 0
 have HV := Lib.hid (fun (w' : World) (hb : Below w.heap.size w w') (o : Nat) (ho : o < 4294967296) => svalue_any (S.below hb) hL hnd o ho)
 have HVL := Lib.hid (fun (o : Nat) (ho : o < 4294967296) => cnt7I_len5 (vnum_lt hL ho))
 unfold NewRow ptr at HRT
 rw [u32s_len] at HRT
 unfold BytesN at *
 clear H S
 go_enter Tryz.func109, Tryz.ntmps109
 go_wp2_with fail
 refine HRT.out.mono ?_
 rintro e w1 ⟨gr, cr, rfl, hrowr, hgr, hb1⟩
 have HRR := Lib.hid hrowr
 have HB1 := Lib.hid hb1
 clear hrowr hb1 HRT c0
 go_wp2_with fail
 go_loopw [3, 12] (fun b i wr => ∃ k : Nat, i = .int .i64 k ∧ k ≤ h.roots.length ∧ RB w1 wr w1.heap.size b (valsB L (h.roots.take k))) (fun _ y _ => h.roots.length - (intOf y).toNat)
 case atStart => exact ⟨0, rfl, by omega, RB.nil (Below.refl _ _) (Nat.le_refl _) (Nat.le_refl _)⟩
 case round =>
  obtain ⟨k, rfl, hk, hcr⟩ := hrel
  have HCR := Lib.hid hcr
  clear hcr
  by_cases hkn : k < h.roots.length
  ·have hd : decide ((k : Int) < (h.roots.length : Int)) = true := by simp; omega
   have hc1 : wr.cell? ⟨gr, k, none⟩ = some (.int .u32 ((h.roots.getD k 0 : Nat) : Int)) := (HRR.out.below HCR.out.base).cell (u32s_get hkn)
   have hx32 : h.roots.getD k 0 < 4294967296 := by rw [List.getD_eq_getElem?_getD, List.getElem?_eq_getElem hkn]; exact h32r _ (List.getElem_mem hkn)
   have HX := Lib.hid (valsB_take1 (L := L) hkn)
   have hbl := valsB_len hL (h.roots.take k) (fun x hx => h32r x (List.mem_of_mem_take hx))
   rw [List.length_take] at hbl
   generalize h.roots.getD k 0 = x at *
   go_wp2_with fail
   refine (HV.out _ (below_top HB1.out HCR.out.base) x hx32).mono ?_
   rintro e w5 ⟨v5, rfl, hown5, hb5⟩
   obtain ⟨A5, c5, rfl, hr5⟩ := own_sliceI hown5
   have HR5 := Lib.hid hr5
   have HC5 := Lib.hid (HCR.out.below hb5)
   have hvl := HVL.out x hx32
   clear hown5 hb5 hr5 HCR hc1
   generalize cnt7 (vnum L x) = cx at *
   go_wp2_with (at_builtin; refine wpList_app_RB (.tmp 16) (.tmp 19) HC5.out HR5.out rfl rfl (by omega) rfl rfl ?_; intro v6 w6 C6 hg6; clear hg6; have HC6 := Lib.hid C6; clear C6)
   go_roundw
   case rel => exact ⟨k + 1, by go_num, by omega, by rw [HX.out]; exact HC6.out⟩
   case measure => simp [intOf]; omega
  ·obtain rfl : k = h.roots.length := by omega
   have hd : decide ((h.roots.length : Int) < (h.roots.length : Int)) = false := by simp
   have hcw := HCR.out
   rw [List.take_length] at hcw
   have HCW := Lib.hid hcw
   clear HCR hk hcw
   go_wp2_with fail
   go_ret
   exact ⟨_, rfl, own_lessI HCW.out.own HB1.out.size, below_top HB1.out HCW.out.base⟩
end
section
open Go.RowKit
attribute [local go_sem] Oper.semAt_some
def payB (L : List Nat) (b : Ob) : List Nat := if b.x.fmt = 2 then (bytesM b.fs).take b.x.len else if b.x.fmt = 3 then b.fs.flatMap cnt7 else valsB L b.fs
def objB' (L : List Nat) (b : Ob) : List Nat := cnt7 (numL L b.x.cls) ++ ([b.x.fmt + 16 * b.x.spare] ++ (cnt7 b.x.size ++ (cnt7 b.x.ser ++ payB L b)))
theorem words_len {fs : List Nat} (h : ∀ x ∈ fs, x < 4294967296) : (fs.flatMap cnt7).length ≤ 5 * fs.length := by
 induction fs with
 | nil => simp
 | cons a fs ih =>
   have h1 := ih (fun x hx => h x (by simp [hx]))
   have h2 := cnt7I_len5 (h a (by simp))
   rw [List.flatMap_cons, List.length_append, List.length_cons]
   omega
theorem payB_len {L : List Nat} (hL : L.length ≤ 1048576) {b : Ob} (K : b.Ok) : (payB L b).length ≤ 5 * b.fs.length := by
 unfold payB
 split
 ·rw [List.length_take, bytesM_len]; omega
 ·split
  ·exact words_len K.f32
  ·exact valsB_len hL _ K.f32
theorem objB_len {L : List Nat} (hL : L.length ≤ 1048576) {b : Ob} (K : b.Ok) : (objB' L b).length ≤ 16 + 5 * b.fs.length := by
 have h1 := payB_len hL K
 have h2 := cnt7I_len5 (show numL L b.x.cls < 4294967296 by have := numL_le L b.x.cls; omega)
 have h3 := cnt7I_len5 (show b.x.size < 4294967296 by have := K.fit.size; omega)
 have h4 := cnt7I_len5 K.fit.ser
 unfold objB'
 simp only [List.length_append, List.length_cons, List.length_nil]
 omega
theorem ok_size {b : Ob} (K : b.Ok) : b.fs.length ≤ 65535 := by
 have hm := K.may
 unfold Hd.may at hm
 simp at hm
 have := K.size
 omega
def objsB (L : List Nat) (bs : List Ob) : List Nat := bs.flatMap (objB' L)
theorem objsB_snoc (L : List Nat) (bs : List Ob) (b : Ob) : objsB L (bs ++ [b]) = objsB L bs ++ objB' L b := by unfold objsB; rw [List.flatMap_append]; simp
theorem objsB_len {L : List Nat} (hL : L.length ≤ 1048576) : ∀ bs : List Ob, (∀ b ∈ bs, b.Ok) → (objsB L bs).length ≤ 400000 * bs.length
 | [], _ => by simp [objsB]
 | b :: bs, h => by
   have h1 := objsB_len hL bs (fun x hx => h x (by simp [hx]))
   have h2 := objB_len hL (h b (by simp))
   have h3 := ok_size (h b (by simp))
   unfold objsB at *
   rw [List.flatMap_cons, List.length_append, List.length_cons]
   omega
section
variable {w : World} {p : HP} {h : HM} {l : List Ob}
theorem ob_at (G : h.Good l) (k : Nat) (hk : k < l.length) : h.fields (2 * posOf (l.take k)) = (l[k]).fs ∧ (l[k]).Ok ∧ (∀ j, j < (l[k]).fs.length → fw h (2 * posOf (l.take k)) j = (l[k]).fs.getD j 0) ∧ h.isB (2 * posOf (l.take k)) = true ∧ h.hd (2 * posOf (l.take k) / 2) = (l[k]).x := by
 have L := G.laid
 have e := split_at l k hk
 have L' := L
 rw [e] at L'
 exact ⟨L'.fields_at, L.ok _ (List.getElem_mem hk), fun j hj => L'.f_at j hj, isB_at G k hk, by rw [half_pos]; exact hd_at' G k hk⟩
theorem oget_any (H : HAt w p h) (G : h.Good l) (hs : Spares w) (k : Nat) (hk : k < l.length) (i : Nat) (hi : i < (l[k]).fs.length) (hf : (l[k]).x.fmt = 1 ∨ (l[k]).x.fmt = 4) (ho : 2 * posOf (l.take k) < 4294967296) :
 Calls Tryz.prog 175 #[ptr p.g, .int .u32 (2 * posOf (l.take k) : Nat), .int .i64 i] w (Told (.tuple #[.int .u32 ((l[k]).fs.getD i 0 : Nat), .int .i64 0]) w) := by
 obtain ⟨h1, K, h3, h4, h5⟩ := ob_at G k hk
 have hG := get_any H G.fit G.laid.heads hs _ ho (i : Int)
 have hln : (l[k]).x.len = (l[k]).fs.length := by unfold Hd.len; rw [if_neg (by omega), K.size]
 have he : h.lookE (2 * posOf (l.take k)) (i : Int) [1, 4] = 0 := by
  unfold HM.lookE
  rw [h4, h5, if_neg (by decide), if_neg (by rcases hf with e | e <;> rw [e] <;> decide), if_neg (by omega)]
 unfold HM.readV at hG
 rw [he, if_pos rfl, Int.toNat_natCast, h3 i hi] at hG
 exact hG
theorem oword_any (H : HAt w p h) (G : h.Good l) (hs : Spares w) (k : Nat) (hk : k < l.length) (i : Nat) (hi : i < (l[k]).fs.length) (hf : (l[k]).x.fmt = 3) (ho : 2 * posOf (l.take k) < 4294967296) :
 Calls Tryz.prog 136 #[ptr p.g, .int .u32 (2 * posOf (l.take k) : Nat), .int .i64 i] w (Told (.tuple #[.int .u32 ((l[k]).fs.getD i 0 : Nat), .int .i64 0]) w) := by
 obtain ⟨h1, K, h3, h4, h5⟩ := ob_at G k hk
 have hG := word_any H G.fit G.laid.heads hs _ ho (i : Int)
 have hln : (l[k]).x.len = (l[k]).fs.length := by unfold Hd.len; rw [if_neg (by omega), K.size]
 have he : h.lookE (2 * posOf (l.take k)) (i : Int) [3] = 0 := by
  unfold HM.lookE
  rw [h4, h5, if_neg (by decide), if_neg (by rw [hf]; decide), if_neg (by omega)]
 unfold HM.readV at hG
 rw [he, if_pos rfl, Int.toNat_natCast, h3 i hi] at hG
 exact hG
theorem bytesI_reads {w : World} {g c len : Nat} {xs : List Nat} (hr : Row w g 5 c (u8c xs)) (hl : len ≤ xs.length) : Reads w w.heap.size 1 (some ⟨g, 0, none⟩) len (u8c (xs.take len)) := by
 refine ⟨by simp [u8c]; omega, fun _ => ⟨_, rfl, hr.lt, fun j u hu => ?_⟩⟩
 rw [WideShapes.add_plain, Nat.zero_add]
 refine hr.cell ?_
 unfold u8c at hu ⊢
 rw [List.getElem?_map] at hu ⊢
 rw [List.getElem?_take] at hu
 split at hu
 ·exact hu
 ·cases hu
def OBytesP (b : Ob) (w : World) (e : Ending) (w' : World) : Prop :=
 Below w.heap.size w w' ∧ ∃ g, e = .returned (.tuple #[.slice (some ⟨g, 0, none⟩) ((bytesM b.fs).take b.x.len).length ((bytesM b.fs).take b.x.len).length, .int .i64 0]) ∧ Reads w' w'.heap.size 1 (some ⟨g, 0, none⟩) ((bytesM b.fs).take b.x.len).length (u8c ((bytesM b.fs).take b.x.len))
theorem obytes_any (H : HAt w p h) (G : h.Good l) (hs : Spares w) (k : Nat) (hk : k < l.length) (hf : (l[k]).x.fmt = 2) (ho : 2 * posOf (l.take k) < 4294967296) :
 Calls Tryz.prog 137 #[ptr p.g, .int .u32 (2 * posOf (l.take k) : Nat)] w (OBytesP (l[k]) w) := by
 obtain ⟨h1, K, h3, h4, h5⟩ := ob_at G k hk
 refine (bytes_any H G.fit G.laid.heads hs _ ho).mono ?_
 rintro e w' ⟨hb, hy⟩
 have hE : h.bytesE (2 * posOf (l.take k)) = 0 := by
  unfold HM.bytesE
  rw [if_neg (by simp [h4]), h5, if_pos hf, h1]
  exact G.sound.spare _ (List.getElem_mem hk) hf
 have hlen : (l[k]).x.len ≤ (bytesM (l[k]).fs).length := by
  rw [bytesM_len]
  unfold Hd.len
  rw [if_pos hf, K.size]
  omega
 rw [if_pos hE, h1, h5] at hy
 obtain ⟨g, c, rfl, hrow, hg⟩ := hy
 have e1 : ((bytesM (l[k]).fs).take (l[k]).x.len).length = (l[k]).x.len := by rw [List.length_take]; omega
 refine ⟨hb, g, ?_, ?_⟩
 ·rw [e1]
 ·rw [e1]; exact bytesI_reads hrow hlen
end
end
section
theorem wordAt_lt256 {bs : List Nat} : (∀ x ∈ bs, x < 256) → ∀ j, wordAt bs j < 4294967296 := by
 intro h j
 have hg : ∀ i, bs.getD i 0 < 256 := by
  intro i
  rw [List.getD_eq_getElem?_getD]
  cases hh : bs[i]? with
  | none => simp
  | some v => simp; exact h v (List.mem_of_getElem? hh)
 have := hg (4*j); have := hg (4*j+1); have := hg (4*j+2); have := hg (4*j+3)
 unfold wordAt; omega
def rdN : Nat → Nat → List Nat → Option (Nat × List Nat)
 | _, _, [] => none
 | i, n, x :: t => if x < 128 then (if (x = 0 ∧ 0 < i) ∨ 4294967296 ≤ n + 128 ^ i * (x % 128) then none else some (n + 128 ^ i * (x % 128), t)) else if 4 ≤ i then none else rdN (i + 1) (n + 128 ^ i * (x % 128)) t
def rdNum (b : List Nat) : Option (Nat × List Nat) := rdN 0 0 b
theorem rdN_lt : ∀ (b : List Nat) (i n v : Nat) (t : List Nat), rdN i n b = some (v, t) → v < 4294967296 ∧ t.length < b.length ∧ ∃ c, b = c ++ t
 | [], i, n, v, t, h => by cases h
 | x :: b, i, n, v, t, h => by
   unfold rdN at h
   split at h
   ·split at h
    ·cases h
    ·rename_i h1
     cases h
     exact ⟨by omega, by simp, [x], rfl⟩
   ·split at h
    ·cases h
    ·obtain ⟨h1, h2, c, h3⟩ := rdN_lt b _ _ _ _ h
     exact ⟨h1, by simp; omega, x :: c, by rw [h3]; rfl⟩
theorem rdNum_lt {b : List Nat} {v : Nat} {t : List Nat} (h : rdNum b = some (v, t)) : v < 4294967296 ∧ t.length < b.length ∧ ∃ c, b = c ++ t := rdN_lt b 0 0 v t h
theorem rdN_cnt7 (t : List Nat) : ∀ (k i n m : Nat), m < 128 ^ (k + 1) → i + k = 4 → (0 < i → 0 < m) → n + 128 ^ i * m < 4294967296 → rdN i n (cnt7 m ++ t) = some (n + 128 ^ i * m, t)
 | k, i, n, m, hm, hik, h0, hn => by
   by_cases h : m < 128
   ·rw [cnt7_small h]
    show rdN i n (m :: t) = _
    unfold rdN
    rw [if_pos h, Nat.mod_eq_of_lt h, if_neg (by omega)]
   ·rw [cnt7_big h]
    show rdN i n ((m % 128 + 128) :: (cnt7 (m / 128) ++ t)) = _
    unfold rdN
    have e1 : (m % 128 + 128) % 128 = m % 128 := by omega
    have e2 : n + 128 ^ i * (m % 128) + 128 ^ (i + 1) * (m / 128) = n + 128 ^ i * m := by
     rw [Nat.pow_succ, Nat.mul_assoc, Nat.add_assoc, ← Nat.mul_add]
     congr 2
     omega
    cases k with
    | zero => omega
    | succ k =>
      rw [if_neg (by omega), if_neg (by omega), e1, rdN_cnt7 t k (i + 1) _ (m / 128) (by rw [Nat.div_lt_iff_lt_mul (by omega)]; rw [Nat.pow_succ] at hm; exact hm) (by omega) (fun _ => by omega) (by rw [e2]; exact hn), e2]
theorem rdNum_cnt7 {n : Nat} (h : n < 4294967296) (t : List Nat) : rdNum (cnt7 n ++ t) = some (n, t) := by
 have := rdN_cnt7 t 4 0 0 n (by rw [show (128 : Nat) ^ (4 + 1) = 34359738368 by decide]; omega) rfl (by omega) (by simpa using h)
 simpa [rdNum] using this
def rdK : Nat → List Nat → Option (List Nat × List Nat)
 | 0, b => some ([], b)
 | k + 1, b => match rdNum b with
   | none => none
   | some (v, t) => match rdK k t with
     | none => none
     | some (l, r) => some (v :: l, r)
theorem rdK_len : ∀ (k : Nat) (b l r : List Nat), rdK k b = some (l, r) → l.length = k ∧ r.length + k ≤ b.length ∧ (∀ x ∈ l, x < 4294967296) ∧ ∃ c, b = c ++ r
 | 0, b, l, r, h => by cases h; exact ⟨rfl, Nat.le_refl _, (fun _ h => (by cases h)), [], rfl⟩
 | k + 1, b, l, r, h => by
   unfold rdK at h
   split at h
   ·cases h
   ·rename_i v t hv
    split at h
    ·cases h
    ·rename_i l' r' hl
     cases h
     obtain ⟨h1, h2, h3, c, h4⟩ := rdK_len k t _ _ hl
     obtain ⟨g1, g2, d, g3⟩ := rdNum_lt hv
     refine ⟨by simp [h1], by omega, fun x hx => ?_, d ++ c, by rw [g3, h4, List.append_assoc]⟩
     rcases List.mem_cons.1 hx with rfl | hx
     ·exact g1
     ·exact h3 x hx
theorem rdK_snoc : ∀ (k : Nat) (b l r : List Nat), rdK k b = some (l, r) → rdK (k + 1) b = (match rdNum r with | none => none | some (v, t) => some (l ++ [v], t))
 | 0, b, l, r, h => by
   cases h
   show (match rdNum b with | none => none | some (v, t) => match rdK 0 t with | none => none | some (l, r) => some (v :: l, r)) = _
   cases rdNum b with
   | none => rfl
   | some p => rfl
 | k + 1, b, l, r, h => by
   unfold rdK at h
   unfold rdK
   cases hn : rdNum b with
   | none => rw [hn] at h; cases h
   | some p =>
     obtain ⟨v, t⟩ := p
     rw [hn] at h
     simp only at h ⊢
     cases hk : rdK k t with
     | none => rw [hk] at h; cases h
     | some q =>
       obtain ⟨l', r'⟩ := q
       rw [hk] at h
       simp only at h
       cases h
       rw [rdK_snoc k t l' r hk]
       cases rdNum r with
       | none => rfl
       | some u => rfl
theorem rdK_stop : ∀ (j k : Nat) (b : List Nat), rdK k b = none → k ≤ j → rdK j b = none
 | _, 0, b, h, _ => by cases h
 | 0, k + 1, b, h, hj => by omega
 | j + 1, k + 1, b, h, hj => by
   unfold rdK at h ⊢
   cases hn : rdNum b with
   | none => rfl
   | some p =>
     obtain ⟨v, t⟩ := p
     rw [hn] at h
     simp only at h ⊢
     cases hk : rdK k t with
     | none => rw [rdK_stop j k t hk (by omega)]
     | some q => rw [hk] at h; cases h
theorem rdK_all (t : List Nat) : ∀ (l : List Nat), (∀ x ∈ l, x < 4294967296) → rdK l.length (l.flatMap cnt7 ++ t) = some (l, t)
 | [], _ => rfl
 | a :: l, h => by
   rw [List.flatMap_cons, List.append_assoc, List.length_cons]
   unfold rdK
   rw [rdNum_cnt7 (h a (by simp)), ]
   simp only
   rw [rdK_all t l (fun x hx => h x (by simp [hx]))]
structure Th where
 x : Hd
 fs : List Nat
def okB (x : Hd) : Bool := x.may && decide (x.spare < 4)
theorem okB_fit {x : Hd} (h : okB x = true) (h1 : x.cls < 4294967296) (h2 : x.ser < 4294967296) : x.Fit ∧ x.may = true := by
 unfold okB Hd.may at h
 simp at h
 exact ⟨⟨by omega, by omega, by omega, h1, h2⟩, by unfold Hd.may; simp; omega⟩
def rdFs (x : Hd) (b : List Nat) : Option (Th × List Nat) :=
 if x.fmt = 2 then (if 4 * x.size - x.spare ≤ b.length then some (⟨x, packM (b.take (4 * x.size - x.spare))⟩, b.drop (4 * x.size - x.spare)) else none)
 else match rdK x.size b with
  | none => none
  | some (fs, r) => some (⟨x, fs⟩, r)
def rdHd (b : List Nat) : Option (Hd × List Nat) :=
 match rdNum b with
 | none => none
 | some (c, b1) => match b1 with
   | [] => none
   | k :: b2 => match rdNum b2 with
     | none => none
     | some (n, b3) => match rdNum b3 with
       | none => none
       | some (s, b4) => if okB ⟨n, k % 16, k / 16, c, s⟩ then some (⟨n, k % 16, k / 16, c, s⟩, b4) else none
def rdObj (b : List Nat) : Option (Th × List Nat) := match rdHd b with
 | none => none
 | some (x, b4) => rdFs x b4
theorem rdHd_ok {b : List Nat} {x : Hd} {r : List Nat} (h : rdHd b = some (x, r)) : okB x = true ∧ x.cls < 4294967296 ∧ x.ser < 4294967296 ∧ r.length + 4 ≤ b.length ∧ ∃ c, b = c ++ r := by
 unfold rdHd at h
 split at h
 ·cases h
 ·rename_i c b1 h1
  split at h
  ·cases h
  ·rename_i k b2
   split at h
   ·cases h
   ·rename_i n b3 h3
    split at h
    ·cases h
    ·rename_i s b4 h4
     split at h
     ·rename_i hk
      cases h
      obtain ⟨a1, a2, c1, a3⟩ := rdNum_lt h1
      obtain ⟨d1, d2, c2, d3⟩ := rdNum_lt h3
      obtain ⟨e1, e2, c3, e3⟩ := rdNum_lt h4
      simp only [List.length_cons] at a2
      exact ⟨hk, a1, e1, by omega, c1 ++ k :: (c2 ++ c3), by rw [a3, d3, e3]; simp⟩
     ·cases h
structure Th.Ok (t : Th) : Prop where
 fit : t.x.Fit
 may : t.x.may = true
 size : t.fs.length = t.x.size
 f32 : ∀ f ∈ t.fs, f < 4294967296
theorem rdObj_ok {b : List Nat} {t : Th} {r : List Nat} (h : rdObj b = some (t, r)) (hb : ∀ x ∈ b, x < 256) : t.Ok ∧ r.length + 4 + t.fs.length ≤ b.length ∧ ∃ c, b = c ++ r := by
 unfold rdObj at h
 split at h
 ·cases h
 ·rename_i x b4 hx
  obtain ⟨h1, h2, h3, h4, c, h5⟩ := rdHd_ok hx
  obtain ⟨k1, k2⟩ := okB_fit h1 h2 h3
  unfold rdFs at h
  split at h
  ·rename_i hf
   split at h
   ·rename_i hl
    cases h
    have hs : 4 * x.size - x.spare + 3 < 4 * (x.size + 1) ∧ 4 * x.size ≤ 4 * x.size - x.spare + 3 := by
     have := k1.spare
     unfold Hd.may at k2
     simp at k2
     omega
    have hlen : (packM (b4.take (4 * x.size - x.spare))).length = x.size := by
     rw [packM_len, List.length_take]
     omega
    refine ⟨⟨k1, k2, hlen, fun f hf' => ?_⟩, ?_, c ++ b4.take (4 * x.size - x.spare), ?_⟩
    ·unfold packM packK at hf'
     obtain ⟨j, _, rfl⟩ := List.mem_map.1 hf'
     refine wordAt_lt256 (fun y hy => hb y ?_) j
     rw [h5]
     exact List.mem_append_right _ (List.mem_of_mem_take (List.mem_of_mem_take hy))
    ·rw [hlen, List.length_drop]
     have := k1.spare
     unfold Hd.may at k2
     simp at k2
     omega
    ·rw [h5, List.append_assoc, List.take_append_drop]
   ·cases h
  ·split at h
   ·cases h
   ·rename_i fs r' hk
    cases h
    obtain ⟨a1, a2, a3, d, a4⟩ := rdK_len _ _ _ _ hk
    exact ⟨⟨k1, k2, a1, a3⟩, by simp only [a1]; omega, c ++ d, by rw [h5, a4, List.append_assoc]⟩
def rdObjs : Nat → List Nat → Option (List Th × List Nat)
 | 0, b => some ([], b)
 | k + 1, b => match rdObj b with
   | none => none
   | some (v, t) => match rdObjs k t with
     | none => none
     | some (l, r) => some (v :: l, r)
theorem rdObjs_snoc : ∀ (k : Nat) (b : List Nat) (l : List Th) (r : List Nat), rdObjs k b = some (l, r) → rdObjs (k + 1) b = (match rdObj r with | none => none | some (v, t) => some (l ++ [v], t))
 | 0, b, l, r, h => by
   cases h
   show (match rdObj b with | none => none | some (v, t) => match rdObjs 0 t with | none => none | some (l, r) => some (v :: l, r)) = _
   cases rdObj b with
   | none => rfl
   | some p => rfl
 | k + 1, b, l, r, h => by
   unfold rdObjs at h
   unfold rdObjs
   cases hn : rdObj b with
   | none => rw [hn] at h; cases h
   | some p =>
     obtain ⟨v, t⟩ := p
     rw [hn] at h
     simp only at h ⊢
     cases hk : rdObjs k t with
     | none => rw [hk] at h; cases h
     | some q =>
       obtain ⟨l', r'⟩ := q
       rw [hk] at h
       simp only at h
       cases h
       rw [rdObjs_snoc k t l' r hk]
       cases rdObj r with
       | none => rfl
       | some u => rfl
theorem rdObjs_stop : ∀ (j k : Nat) (b : List Nat), rdObjs k b = none → k ≤ j → rdObjs j b = none
 | _, 0, b, h, _ => by cases h
 | 0, k + 1, b, h, hj => by omega
 | j + 1, k + 1, b, h, hj => by
   unfold rdObjs at h ⊢
   cases hn : rdObj b with
   | none => rfl
   | some p =>
     obtain ⟨v, t⟩ := p
     rw [hn] at h
     simp only at h ⊢
     cases hk : rdObjs k t with
     | none => rw [rdObjs_stop j k t hk (by omega)]
     | some q => rw [hk] at h; cases h
theorem rdObjs_ok : ∀ (k : Nat) (b : List Nat) (l : List Th) (r : List Nat), rdObjs k b = some (l, r) → (∀ x ∈ b, x < 256) → l.length = k ∧ (∀ t ∈ l, t.Ok) ∧ 4 * k + r.length ≤ b.length ∧ ∃ c, b = c ++ r
 | 0, b, l, r, h, _ => by cases h; exact ⟨rfl, (fun _ h => (by cases h)), by omega, [], rfl⟩
 | k + 1, b, l, r, h, hb => by
   unfold rdObjs at h
   split at h
   ·cases h
   ·rename_i v t hv
    split at h
    ·cases h
    ·rename_i l' r' hl
     cases h
     obtain ⟨g1, g2, d, g5⟩ := rdObj_ok hv hb
     obtain ⟨h1, h2, h3, c, h4⟩ := rdObjs_ok k t _ _ hl (fun x hx => hb x (by rw [g5]; exact List.mem_append_right _ hx))
     refine ⟨by simp [h1], fun x hx => ?_, by omega, d ++ c, by rw [g5, h4, List.append_assoc]⟩
     rcases List.mem_cons.1 hx with rfl | hx
     ·exact g1
     ·exact h2 x hx
def rdSec (tag : Nat) (b : List Nat) : Except Nat (List Nat × List Nat) :=
 match b with
 | [] => .error 143
 | t :: b1 => if t ≠ tag then .error 142 else match rdNum b1 with
   | none => .error 143
   | some (n, b2) => if b2.length < n + 4 then .error 143 else if (b2.drop n).take 4 = four4 (sumN (tag :: b2.take n)) then .ok (b2.take n, b2.drop (n + 4)) else .error 144
def rdSecs : List Nat → List Nat → Except Nat (List (List Nat) × List Nat)
 | [], b => .ok ([], b)
 | tag :: ts, b => match rdSec tag b with
   | .error e => .error e
   | .ok (p, r) => match rdSecs ts r with
     | .error e => .error e
     | .ok (ps, r') => .ok (p :: ps, r')
def secI (tag : Nat) (p : List Nat) : List Nat := [tag] ++ (cnt7 p.length ++ (p ++ four4 (sumN (tag :: p))))
theorem rdSec_secI (tag : Nat) (p t : List Nat) (hp : p.length < 4294967296) : rdSec tag (secI tag p ++ t) = .ok (p, t) := by
 have e : secI tag p ++ t = tag :: (cnt7 p.length ++ (p ++ (four4 (sumN (tag :: p)) ++ t))) := by unfold secI; simp
 rw [e]
 unfold rdSec
 simp only [ne_eq, not_true_eq_false, if_false]
 rw [rdNum_cnt7 hp]
 simp only
 have h4 : (four4 (sumN (tag :: p))).length = 4 := rfl
 rw [if_neg (by simp only [List.length_append, h4]; omega), List.drop_left, List.take_left, List.take_append_of_le_length (by rw [h4]; omega), List.take_of_length_le (by rw [h4]; omega), if_pos rfl]
 congr 2
 rw [← List.drop_drop, List.drop_left]
 rfl
structure Img where
 ts : List Th
 rts : List Nat
 last : Nat
def partsM (p0 p1 p2 p3 : List Nat) : Option Img :=
 match rdNum p0 with
 | none => none
 | some (last, q) => match rdNum q with
   | none => none
   | some (many, q') => if q' ≠ [] then none else match rdObjs many p1 with
     | none => none
     | some (ts, q1) => if q1 ≠ [] then none else match rdK 64 p2 with
       | none => none
       | some (rts, q2) => if q2 ≠ [] ∨ p3 ≠ [] then none else some ⟨ts, rts, last⟩
def newM (b : List Nat) : Except Nat Img :=
 match rdSecs [72, 79, 82, 90] b with
 | .error e => .error e
 | .ok (ps, r) => if r ≠ [] then .error 143 else match partsM (ps.getD 0 []) (ps.getD 1 []) (ps.getD 2 []) (ps.getD 3 []) with
   | none => .error 143
   | some i => .ok i
def placeT (ts : List Th) : Nat := 1 + (ts.map fun t => 3 + t.x.size).sum
theorem placeT_snoc (ts : List Th) (t : Th) : placeT (ts ++ [t]) = placeT ts + (3 + t.x.size) := by unfold placeT; simp; omega
theorem placeT_le (ts : List Th) (k : Nat) : placeT (ts.take k) ≤ placeT ts := by
 unfold placeT
 conv => rhs; rw [← List.take_append_drop k ts, List.map_append, List.sum_append]
 omega
def namedT (ts : List Th) (n : Nat) : Nat := if n = 0 then 0 else if ts.length < n then 0 else (2 * placeT (ts.take (n - 1))) % 4294967296
def zagI (z : Nat) : Int := if z % 2 = 0 then (z / 2 : Nat) else -(((z + 1) / 2 : Nat) : Int)
def smallO (v : Int) : Nat := ((2 * v + 1) % 4294967296).toNat
def valT (ts : List Th) (n : Nat) : Nat := if n % 2 = 0 then namedT ts (n / 2) else smallO (zagI (n / 2))
theorem namedT_lt (ts : List Th) (n : Nat) : namedT ts n < 4294967296 := by unfold namedT; split; · omega
                                                                            split <;> omega
theorem valT_lt (ts : List Th) (n : Nat) : valT ts n < 4294967296 := by
 unfold valT smallO
 split
 ·exact namedT_lt _ _
 ·omega
def Hd.ptrT (x : Hd) : Bool := decide (x.fmt = 1) || decide (x.fmt = 4)
def obOf (ts : List Th) (t : Th) : Ob := ⟨{ t.x with cls := namedT ts t.x.cls }, if t.x.ptrT then t.fs.map (valT ts) else t.fs⟩
theorem obOf_ok {ts : List Th} {t : Th} (h : t.Ok) : (obOf ts t).Ok := by
 refine ⟨⟨h.fit.size, h.fit.fmt, h.fit.spare, namedT_lt _ _, h.fit.ser⟩, h.may, ?_, fun f hf => ?_⟩
 ·unfold obOf
  simp only
  split
  ·rw [List.length_map, h.size]
  ·rw [h.size]
 ·unfold obOf at hf
  simp only at hf
  split at hf
  ·obtain ⟨n, _, rfl⟩ := List.mem_map.1 hf
   exact valT_lt _ _
  ·exact h.f32 f hf
def wrongN (ts : List Th) (n : Nat) : Bool := decide (ts.length < n)
def wrongV (ts : List Th) (n : Nat) : Bool := decide (n % 2 = 0) && wrongN ts (n / 2)
def wrongT (ts : List Th) (t : Th) : Bool := wrongN ts t.x.cls || (t.x.ptrT && t.fs.any (wrongV ts))
def Img.words (i : Img) : List Nat := 0 :: wsOf (i.ts.map (obOf i.ts))
def Img.roots (i : Img) : List Nat := i.rts.map (valT i.ts)
def Img.wrong (i : Img) : Bool := i.ts.any (wrongT i.ts) || i.rts.any (wrongV i.ts)
structure Rd where
 ver : Nat
 words : List Nat
 roots : List Nat
 last : Nat
 wrong : Bool
def word4 (b : List Nat) (i : Nat) : Nat := b.getD i 0 + b.getD (i + 1) 0 * 256 + b.getD (i + 2) 0 * 65536 + b.getD (i + 3) 0 * 16777216
def oldM (b : List Nat) : Except Nat Rd :=
 if b.length < 273 ∨ b.length ≠ 273 + 4 * word4 b 9 then .error 143
 else if sumN (b.take (b.length - 4)) ≠ word4 b (b.length - 4) then .error 144
 else .ok ⟨1, (List.range (word4 b 9)).map (fun i => word4 b (13 + 4 * i)), (List.range 64).map (fun i => word4 b (13 + 4 * word4 b 9 + 4 * i)), word4 b 5, false⟩
def takeR (b : List Nat) : Except Nat Rd :=
 if 8388608 < b.length then .error 2
 else if b.length < 5 ∨ b.take 4 ≠ [69, 70, 73, 71] then .error 140
 else if b.getD 4 0 = 1 then oldM b
 else if b.getD 4 0 = 2 then match newM (b.drop 5) with
  | .error e => .error e
  | .ok i => .ok ⟨2, i.words, i.roots, i.last, i.wrong⟩
 else .error 141
theorem valT_vnum {ts : List Th} {L : List Nat} (hlen : ts.length = L.length) (hp : ∀ k, k < L.length → 2 * placeT (ts.take k) = L.getD k 0) (hL : ∀ x ∈ L, x < 4294967296) (o : Nat) (ho : o < 4294967296) (hv : o % 2 = 1 ∨ o = 0 ∨ o ∈ L) (h0 : 0 ∉ L) :
 valT ts (vnum L o) = o ∧ wrongV ts (vnum L o) = false := by
 unfold vnum valT wrongV wrongN
 by_cases h1 : o % 2 = 1
 ·rw [if_pos h1]
  have hlo : -1073741824 ≤ smallV o := by unfold smallV; split <;> omega
  have hhi : smallV o ≤ 1073741823 := by unfold smallV; split <;> omega
  have hs : (2 * smallV o + 1) % 4294967296 = o := by unfold smallV; split <;> omega
  by_cases hn : 0 ≤ smallV o
  ·have e := zigI_pos hn
   have e1 : zagI (zigI (smallV o) / 2) = smallV o := by unfold zagI; rw [if_pos (by omega)]; omega
   refine ⟨?_, by simp; omega⟩
   rw [if_neg (by omega), e1]; unfold smallO; omega
  ·have e := zigI_neg hn
   have e1 : zagI (zigI (smallV o) / 2) = smallV o := by unfold zagI; rw [if_neg (by omega)]; omega
   refine ⟨?_, by simp; omega⟩
   rw [if_neg (by omega), e1]; unfold smallO; omega
 ·rw [if_neg h1, if_pos (by omega), show 2 * numL L o / 2 = numL L o by omega]
  unfold namedT numL
  rcases hv with h | rfl | h
  ·omega
  ·rw [if_neg h0]; simp
  ·have hi := List.idxOf_lt_length_of_mem h
   rw [if_pos h, if_neg (by omega), if_neg (by omega), Nat.add_sub_cancel, hp _ hi]
   have hg : L.getD (L.idxOf o) 0 = o := by rw [List.getD_eq_getElem?_getD, List.getElem?_eq_getElem hi]; simp
   rw [hg]
   exact ⟨Nat.mod_eq_of_lt ho, by simp; omega⟩
theorem namedT_numL {ts : List Th} {L : List Nat} (hlen : ts.length = L.length) (hp : ∀ k, k < L.length → 2 * placeT (ts.take k) = L.getD k 0) (o : Nat) (ho : o < 4294967296) (hv : o = 0 ∨ o ∈ L) (h0 : 0 ∉ L) :
 namedT ts (numL L o) = o ∧ wrongN ts (numL L o) = false := by
 unfold namedT numL wrongN
 rcases hv with rfl | h
 ·rw [if_neg h0]; simp
 ·have hi := List.idxOf_lt_length_of_mem h
  rw [if_pos h, if_neg (by omega), if_neg (by omega), Nat.add_sub_cancel, hp _ hi]
  have hg : L.getD (L.idxOf o) 0 = o := by rw [List.getD_eq_getElem?_getD, List.getElem?_eq_getElem hi]; simp
  rw [hg]
  exact ⟨Nat.mod_eq_of_lt ho, by simp; omega⟩
end
section
def thOf (L : List Nat) (b : Ob) : Th := ⟨{ b.x with cls := numL L b.x.cls }, if b.x.ptrT then b.fs.map (vnum L) else b.fs⟩
theorem valsB_map (L rs : List Nat) : valsB L rs = (rs.map (vnum L)).flatMap cnt7 := by unfold valsB; rw [List.flatMap_map]
theorem rdHd_obj {L : List Nat} (hL : L.length ≤ 1048576) {b : Ob} (K : b.Ok) (t : List Nat) :
 rdHd (cnt7 (numL L b.x.cls) ++ ([b.x.fmt + 16 * b.x.spare] ++ (cnt7 b.x.size ++ (cnt7 b.x.ser ++ t)))) = some ({ b.x with cls := numL L b.x.cls }, t) := by
 have h1 := numL_le L b.x.cls
 have h2 := K.fit.size
 have h3 := K.fit.fmt
 have h4 := K.fit.spare
 unfold rdHd
 rw [rdNum_cnt7 (by omega)]
 simp only [List.singleton_append]
 rw [rdNum_cnt7 (by omega)]
 simp only
 rw [rdNum_cnt7 K.fit.ser]
 simp only
 rw [show (b.x.fmt + 16 * b.x.spare) % 16 = b.x.fmt by omega, show (b.x.fmt + 16 * b.x.spare) / 16 = b.x.spare by omega, if_pos]
 have hm := K.may
 unfold okB Hd.may at *
 simp only [Bool.and_eq_true, Bool.or_eq_true, decide_eq_true_eq] at *
 exact ⟨hm, h4⟩
theorem rdObj_obj {L : List Nat} (hL : L.length ≤ 1048576) {b : Ob} (K : b.Ok) (hs : b.x.fmt = 2 → spareE b.fs b.x.spare = 0) (t : List Nat) : rdObj (objB' L b ++ t) = some (thOf L b, t) := by
 have e : objB' L b ++ t = cnt7 (numL L b.x.cls) ++ ([b.x.fmt + 16 * b.x.spare] ++ (cnt7 b.x.size ++ (cnt7 b.x.ser ++ (payB L b ++ t)))) := by unfold objB'; simp only [List.append_assoc]
 rw [e]
 unfold rdObj
 rw [rdHd_obj hL K]
 simp only
 have hm := K.may
 have h4 := K.fit.spare
 unfold Hd.may at hm
 simp at hm
 unfold rdFs
 by_cases h2 : b.x.fmt = 2
 ·have hlen : b.x.len = 4 * b.fs.length - b.x.spare := by unfold Hd.len; rw [if_pos h2, K.size]
  have hp : payB L b = (bytesM b.fs).take (4 * b.fs.length - b.x.spare) := by unfold payB; rw [if_pos h2, hlen]
  have hpl : (payB L b).length = 4 * b.x.size - b.x.spare := by rw [hp, List.length_take, bytesM_len, K.size]; omega
  rw [if_pos h2, if_pos (by rw [List.length_append, hpl]; simp only; omega), ← hpl, List.take_left, List.drop_left, hp, packM_bytes (hs h2) (by omega) K.f32]
  unfold thOf
  rw [if_neg (by unfold Hd.ptrT; rw [h2]; decide)]
 ·rw [if_neg h2]
  by_cases h3 : b.x.fmt = 3
  ·have hp : payB L b = b.fs.flatMap cnt7 := by unfold payB; rw [if_neg h2, if_pos h3]
   rw [hp, K.size, rdK_all _ _ K.f32]
   unfold thOf
   rw [if_neg (by unfold Hd.ptrT; rw [h3]; decide)]
   simp only [K.size]
  ·have hp : payB L b = (b.fs.map (vnum L)).flatMap cnt7 := by unfold payB; rw [if_neg h2, if_neg h3, valsB_map]
   have hk := rdK_all t (b.fs.map (vnum L)) (fun x hx => by obtain ⟨y, hy, rfl⟩ := List.mem_map.1 hx; exact vnum_lt hL (K.f32 y hy))
   rw [List.length_map] at hk
   rw [hp, K.size, hk]
   unfold thOf
   rw [if_pos (by unfold Hd.ptrT; simp; omega)]
   simp only [K.size]
theorem rdObjs_objs {L : List Nat} (hL : L.length ≤ 1048576) (t : List Nat) : ∀ l : List Ob, (∀ b ∈ l, b.Ok ∧ (b.x.fmt = 2 → spareE b.fs b.x.spare = 0)) → rdObjs l.length (objsB L l ++ t) = some (l.map (thOf L), t)
 | [], _ => rfl
 | b :: l, h => by
   obtain ⟨K, hs⟩ := h b (by simp)
   have e : objsB L (b :: l) ++ t = objB' L b ++ (objsB L l ++ t) := by unfold objsB; rw [List.flatMap_cons, List.append_assoc]
   rw [e, List.length_cons]
   unfold rdObjs
   rw [rdObj_obj hL K hs]
   simp only
   rw [rdObjs_objs hL t l (fun x hx => h x (by simp [hx]))]
   rfl
theorem placeT_posOf (L : List Nat) : ∀ l : List Ob, (∀ b ∈ l, b.Ok) → placeT (l.map (thOf L)) = posOf l
 | [], _ => rfl
 | b :: l, h => by
   have h1 := placeT_posOf L l (fun x hx => h x (by simp [hx]))
   have h2 := (h b (by simp)).size
   unfold placeT posOf at *
   rw [wsOf_cons, List.length_append, Ob.ws_len, List.map_cons, List.map_cons, List.sum_cons]
   simp only [thOf] at *
   omega
section
variable {h : HM} {l : List Ob}
theorem oopsL_getD {k : Nat} (hk : k < l.length) : (oopsL l).getD k 0 = 2 * posOf (l.take k) := by
 rw [List.getD_eq_getElem?_getD, oopsL_get hk]; rfl
theorem oopsL_mem (L : h.Laid l) {o : Nat} (ho : h.isB o = true) : o ∈ oopsL l := by
 obtain ⟨a, b, c, e, rfl⟩ := (L.isB_iff o).1 ho
 have hk : a.length < l.length := by rw [e]; simp
 have := oopsL_get hk
 rw [e, List.take_left, ← e] at this
 exact List.mem_of_getElem? this
theorem oopsL_lt32 (G : h.Good l) : ∀ x ∈ oopsL l, x < 4294967296 := by
 intro x hx
 unfold oopsL at hx
 obtain ⟨j, hj, rfl⟩ := List.mem_map.1 hx
 have := posOf_take_lt G j (List.mem_range.1 hj)
 have := G.fit.room
 have := G.fit.hi
 omega
def imgOf (h : HM) (l : List Ob) : Img := ⟨l.map (thOf (oopsL l)), h.roots.map (vnum (oopsL l)), h.last⟩
theorem ptrT_ptrB (x : Hd) : x.ptrT = x.ptrB := rfl
theorem img_words (G : h.Good l) : (imgOf h l).words = h.words ∧ (imgOf h l).roots = h.roots ∧ (imgOf h l).wrong = false := by
 have hlen : (l.map (thOf (oopsL l))).length = (oopsL l).length := by rw [List.length_map, oopsL_len]
 have hp : ∀ k, k < (oopsL l).length → 2 * placeT ((l.map (thOf (oopsL l))).take k) = (oopsL l).getD k 0 := fun k hk => by
  rw [oopsL_len] at hk
  rw [← List.map_take, placeT_posOf _ _ (fun b hb => G.laid.ok b (List.mem_of_mem_take hb)), oopsL_getD hk]
 have h0 := oopsL_zero l
 have hc : ∀ b ∈ l, namedT (l.map (thOf (oopsL l))) (numL (oopsL l) b.x.cls) = b.x.cls ∧ wrongN (l.map (thOf (oopsL l))) (numL (oopsL l) b.x.cls) = false := fun b hb => by
  refine namedT_numL hlen hp _ (G.laid.ok b hb).fit.cls ?_ h0
  have := G.sound.cls b hb
  unfold HM.clsB at this
  rw [Bool.or_eq_true, decide_eq_true_eq] at this
  exact this.imp id (oopsL_mem G.laid)
 have hval : ∀ v, v < 4294967296 → h.valB v = true → valT (l.map (thOf (oopsL l))) (vnum (oopsL l) v) = v ∧ wrongV (l.map (thOf (oopsL l))) (vnum (oopsL l) v) = false := fun v hv hb => by
  refine valT_vnum hlen hp (oopsL_lt32 G) v hv ?_ h0
  unfold HM.valB at hb
  rw [Bool.or_eq_true, Bool.not_eq_true'] at hb
  rcases hb with hb | hb
  ·unfold objB kindM at hb
   simp only [decide_eq_false_iff_not] at hb
   by_cases hv0 : v = 0
   ·exact .inr (.inl hv0)
   ·rw [if_neg hv0] at hb
    by_cases h1 : v % 2 = 1
    ·exact .inl h1
    ·rw [if_neg h1] at hb; exact absurd rfl hb
  ·exact .inr (.inr (oopsL_mem G.laid hb))
 have hob : ∀ b ∈ l, obOf (l.map (thOf (oopsL l))) (thOf (oopsL l) b) = b ∧ wrongT (l.map (thOf (oopsL l))) (thOf (oopsL l) b) = false := fun b hb => by
  obtain ⟨c1, c2⟩ := hc b hb
  have hpt : (thOf (oopsL l) b).x.ptrT = b.x.ptrT := rfl
  have hcl : (thOf (oopsL l) b).x.cls = numL (oopsL l) b.x.cls := rfl
  by_cases hb2 : b.x.ptrT = true
  ·have hf : (thOf (oopsL l) b).fs = b.fs.map (vnum (oopsL l)) := by unfold thOf; rw [if_pos hb2]
   have hv : ∀ v ∈ b.fs, valT (l.map (thOf (oopsL l))) (vnum (oopsL l) v) = v ∧ wrongV (l.map (thOf (oopsL l))) (vnum (oopsL l) v) = false := fun v hv => hval v ((G.laid.ok b hb).f32 v hv) (G.sound.flds b hb (by rw [← ptrT_ptrB]; exact hb2) v hv)
   refine ⟨?_, ?_⟩
   ·unfold obOf
    rw [hpt, if_pos hb2, hcl, c1, hf, List.map_map, List.map_congr_left (f := valT (l.map (thOf (oopsL l))) ∘ vnum (oopsL l)) (g := id) (fun v hv' => (hv v hv').1), List.map_id]
    rfl
   ·unfold wrongT
    rw [hcl, c2, hpt, hb2, hf, Bool.false_or, Bool.true_and, List.any_eq_false]
    intro n hn
    obtain ⟨v, hv', rfl⟩ := List.mem_map.1 hn
    rw [(hv v hv').2]
    decide
  ·have hf : (thOf (oopsL l) b).fs = b.fs := by unfold thOf; rw [if_neg hb2]
   refine ⟨?_, ?_⟩
   ·unfold obOf
    rw [hpt, if_neg hb2, hcl, c1, hf]
    rfl
   ·unfold wrongT
    rw [hcl, c2, hpt]
    simp [hb2]
 have hrt : ∀ v ∈ h.roots, valT (l.map (thOf (oopsL l))) (vnum (oopsL l) v) = v ∧ wrongV (l.map (thOf (oopsL l))) (vnum (oopsL l) v) = false := fun v hv => hval v (G.fit.r32 v hv) (G.sound.roots v hv)
 refine ⟨?_, ?_, ?_⟩
 ·unfold imgOf Img.words
  simp only
  rw [List.map_map, List.map_congr_left (f := obOf (l.map (thOf (oopsL l))) ∘ thOf (oopsL l)) (g := id) (fun b hb => (hob b hb).1), List.map_id, G.laid.words]
 ·unfold imgOf Img.roots
  simp only
  rw [List.map_map, List.map_congr_left (f := valT (l.map (thOf (oopsL l))) ∘ vnum (oopsL l)) (g := id) (fun v hv => (hrt v hv).1), List.map_id]
 ·unfold imgOf Img.wrong
  simp only
  rw [Bool.or_eq_false_iff, List.any_eq_false, List.any_eq_false]
  refine ⟨fun t ht => ?_, fun n hn => ?_⟩
  ·obtain ⟨b, hb, rfl⟩ := List.mem_map.1 ht
   rw [(hob b hb).2]; decide
  ·obtain ⟨v, hv, rfl⟩ := List.mem_map.1 hn
   rw [(hrt v hv).2]; decide
def payH (h : HM) (l : List Ob) : List Nat := cnt7 h.last ++ cnt7 l.length
def HM.newI (h : HM) (l : List Ob) : List Nat := [69, 70, 73, 71, 2] ++ (secI 72 (payH h l) ++ (secI 79 (objsB (oopsL l) l) ++ (secI 82 (valsB (oopsL l) h.roots) ++ secI 90 [])))
theorem objsB_le {L : List Nat} (hL : L.length ≤ 1048576) : ∀ bs : List Ob, (∀ b ∈ bs, b.Ok) → (objsB L bs).length ≤ 6 * (wsOf bs).length
 | [], _ => by simp [objsB]
 | b :: bs, h => by
   have h1 := objsB_le hL bs (fun x hx => h x (by simp [hx]))
   have h2 := objB_len hL (h b (by simp))
   unfold objsB at *
   rw [List.flatMap_cons, List.length_append, wsOf_cons, List.length_append, Ob.ws_len]
   omega
theorem parts_new (G : h.Good l) : partsM (payH h l) (objsB (oopsL l) l) (valsB (oopsL l) h.roots) [] = some (imgOf h l) := by
 have hL := oopsL_le G
 have h64 := G.fit.roots
 have hl : l.length < 4294967296 := by rw [oopsL_len] at hL; omega
 have e1 := rdNum_cnt7 hl []
 have e2 := rdObjs_objs hL [] l (fun b hb => ⟨G.laid.ok b hb, G.sound.spare b hb⟩)
 have e3 := rdK_all [] (h.roots.map (vnum (oopsL l))) (fun x hx => by obtain ⟨y, hy, rfl⟩ := List.mem_map.1 hx; exact vnum_lt hL (G.fit.r32 y hy))
 rw [List.append_nil] at e1 e2 e3
 rw [List.length_map, h64] at e3
 unfold partsM payH
 rw [rdNum_cnt7 G.fit.l32]
 simp only [e1, ne_eq, not_true_eq_false, if_false, e2]
 rw [valsB_map, e3]
 simp only [not_true_eq_false, or_self, if_false]
 rfl
theorem cnt7_len_le {n : Nat} (h : n < 4294967296) : (cnt7 n).length ≤ 5 := cnt7I_len5 h
theorem secI_len (tag : Nat) (p : List Nat) : (secI tag p).length = 5 + (cnt7 p.length).length + p.length := by
 unfold secI
 simp only [List.length_append, four4, List.length_cons, List.length_nil]
 omega
theorem pay_lens (G : h.Good l) : (payH h l).length ≤ 10 ∧ (objsB (oopsL l) l).length ≤ 6291456 ∧ (valsB (oopsL l) h.roots).length ≤ 320 := by
 have hL := oopsL_le G
 have hl : l.length < 4294967296 := by rw [oopsL_len] at hL; omega
 have h1 := cnt7_len_le G.fit.l32
 have h2 := cnt7_len_le hl
 have h3 := objsB_le hL l G.laid.ok
 have h4 := valsB_len hL h.roots G.fit.r32
 have h5 : h.words.length = 1 + (wsOf l).length := by rw [G.laid.words]; simp; omega
 have := G.fit.room
 have := G.fit.hi
 have := G.fit.roots
 unfold payH
 rw [List.length_append]
 omega
theorem newI_len (G : h.Good l) : (h.newI l).length ≤ 8388608 := by
 obtain ⟨h1, h2, h3⟩ := pay_lens G
 have a1 := cnt7_len_le (show (payH h l).length < 4294967296 by omega)
 have a2 := cnt7_len_le (show (objsB (oopsL l) l).length < 4294967296 by omega)
 have a3 := cnt7_len_le (show (valsB (oopsL l) h.roots).length < 4294967296 by omega)
 have a4 := cnt7_len_le (show ([] : List Nat).length < 4294967296 by simp)
 unfold HM.newI
 simp only [List.length_append, secI_len, List.length_cons, List.length_nil]
 simp only [List.length_nil] at a4
 omega
theorem new_new (G : h.Good l) : newM (secI 72 (payH h l) ++ (secI 79 (objsB (oopsL l) l) ++ (secI 82 (valsB (oopsL l) h.roots) ++ secI 90 []))) = .ok (imgOf h l) := by
 obtain ⟨h1, h2, h3⟩ := pay_lens G
 have e4 := rdSec_secI 90 [] [] (by simp)
 rw [List.append_nil] at e4
 unfold newM rdSecs rdSecs rdSecs rdSecs rdSecs
 rw [rdSec_secI 72 _ _ (by omega)]
 simp only
 rw [rdSec_secI 79 _ _ (by omega)]
 simp only
 rw [rdSec_secI 82 _ _ (by omega)]
 simp only
 rw [e4]
 simp only [ne_eq, not_true_eq_false, if_false, List.getD_cons_zero, List.getD_cons_succ, parts_new G]
theorem take_new (G : h.Good l) : takeR (h.newI l) = .ok ⟨2, h.words, h.roots, h.last, false⟩ := by
 have hl := newI_len G
 obtain ⟨w1, w2, w3⟩ := img_words G
 have e : h.newI l = [69, 70, 73, 71, 2] ++ (secI 72 (payH h l) ++ (secI 79 (objsB (oopsL l) l) ++ (secI 82 (valsB (oopsL l) h.roots) ++ secI 90 []))) := rfl
 have h5 : 5 ≤ (h.newI l).length := by rw [e, List.length_append]; simp
 have ht : (h.newI l).take 4 = [69, 70, 73, 71] := by rw [e]; rfl
 have hg : (h.newI l).getD 4 0 = 2 := by rw [e]; rfl
 have hd : (h.newI l).drop 5 = secI 72 (payH h l) ++ (secI 79 (objsB (oopsL l) l) ++ (secI 82 (valsB (oopsL l) h.roots) ++ secI 90 [])) := by rw [e]; rfl
 unfold takeR
 rw [if_neg (by omega), ht, hg, hd, new_new G, if_neg (by simp; omega), if_neg (by decide), if_pos rfl]
 simp only [w1, w2, w3]
 rfl
end
end
section
open Go.RowKit
attribute [local go_sem] Oper.semAt_some
theorem wpListIn_app_RB {F : Fence} {n : Nat} {ops : Array Oper} {rest : List Oper} {o : Oper} {a : Act} {Q : Exit → Act → World → Prop} {w w2 : World} {B m c : Nat} {v : Value} {bs cs : List Nat} {A : Option Addr} (s x : Operand)
 (C : RB w2 w B v bs) (hr : Reads w w.heap.size 1 A m (u8c cs)) (hs : a.eval s = v) (hx : a.eval x = .slice A m c) (hn : bs.length + m ≤ 100000000000000)
 (ho : o.op = .call { callee := .builtin .append, args := #[s, x], argTypes := #[22, 22] }) (hgd : o.guard = none)
 (h : ∀ v' w', RB w2 w' B v' (bs ++ cs) → w.grownBy w' v.ownBlock → wpListIn F n Tryz.prog ops Q rest (a.put o.dst v') w') : wpListIn F n Tryz.prog ops Q (o :: rest) a w := by
 obtain ⟨i0, hi0, hz0, hz1, hz2⟩ := info_parts info_u8
 refine wpListIn_plain hgd fun K hK' => ?_
 obtain ⟨v', w', hrun, h2, h3, h4⟩ := run_append_any (P := Tryz.prog) w B 22 o.type 5 i0 _ 1 1 Tryz.underlying22 hi0 hz0 hz1 hz2 rfl (by omega) v bs.length (u8c bs) C.own w.heap.size A m c (u8c cs) hr (one_u8c _) (by simp only [maxLen]; omega) (by omega) C.top
 unfold Oper.wpIn
 refine ⟨?_, ?_⟩
 ·simp [Oper.about, ho, resolve, Target.leads, Sem.run_pure]
 ·rw [Oper.semAt_plain F _ _ (by rw [ho]; intro c hc'; cases hc')]
  simp [execOp, ho, resolve, invoke, builtin, hs, hx, hrun, Result.andThen]
  exact hK' _ _ (h _ _ (C.app (by have := hr.1; rw [u8c_len, Nat.mul_one] at this; exact this) h2 h3) h3)
theorem reads_one (w : World) (x : Nat) : Reads (w.alloc (.cells #[.int .u8 (x : Int)] 5)) (w.alloc (.cells #[.int .u8 (x : Int)] 5)).heap.size 1 (some ⟨w.heap.size, 0, none⟩) 1 (u8c [x]) := by
 have h := reads_new w [x] 1 rfl
 rw [World.size_alloc]
 exact h
end
section
open Go.RowKit
attribute [local go_sem] Oper.semAt_some
def tailA (A : Option Addr) (c k : Nat) : Option Addr := if c = k then A else A.map (·.add (k * 1))
theorem slice_rest (w : World) (A : Option Addr) (n c k : Nat) (h : k ≤ n) : (Instr.slice 22 (.slice A n c) (some (.int .i64 k)) none none).run Tryz.prog w = .ok (.slice (tailA A c k) (n - k) (c - k)) w := by
 have he : Program.elem Tryz.prog 22 = 5 := by simp [Program.elem, Tryz.underlying22]
 have hz : ∀ w, (Go.sizeOf 5).run Tryz.prog w = .ok 1 w := fun w => by go_simp
 rw [run_slice_l (P := Tryz.prog) w 22 A n c (by rw [he]; exact Tryz.underlying22) .i64 k (by omega) (by omega), he, hz]
 simp only [Result.andThen, sliced, Int.toNat_natCast]
 rfl
theorem slice_head (w : World) (A : Option Addr) (n c k : Nat) (h : k ≤ c) : (Instr.slice 22 (.slice A n c) none (some (.int .i64 k)) none).run Tryz.prog w = .ok (.slice (tailA A c 0) k c) w := by
 have he : Program.elem Tryz.prog 22 = 5 := by simp [Program.elem, Tryz.underlying22]
 have hz : ∀ w, (Go.sizeOf 5).run Tryz.prog w = .ok 1 w := fun w => by go_simp
 rw [run_slice_h (P := Tryz.prog) w 22 A n c (by rw [he]; exact Tryz.underlying22) .i64 k (by omega) (by omega), he, hz]
 simp only [Result.andThen, sliced, Int.toNat_natCast]
 rfl
theorem reads_rest {w : World} {B n c k : Nat} {A : Option Addr} {bs : List Nat} (h : Reads w B 1 A n (u8c bs)) (hc : n ≤ c) (hk : k ≤ n) : Reads w B 1 (tailA A c k) (n - k) (u8c (bs.drop k)) := by
 have hl : bs.length = n := by have := h.1; rw [u8c_len] at this; omega
 refine ⟨by rw [u8c_len, List.length_drop]; omega, fun hn => ?_⟩
 obtain ⟨ad, e, hb, hx⟩ := h.2 (by omega)
 subst e
 unfold tailA
 rw [if_neg (by omega)]
 refine ⟨ad.add (k * 1), rfl, by rw [block_of_add]; exact hb, fun j u hu => ?_⟩
 have := hx (k + j) u (by unfold u8c at hu ⊢; rw [List.getElem?_map, List.getElem?_drop] at hu; rw [List.getElem?_map]; exact hu)
 rw [show (ad.add (k * 1)).add j = ad.add (k + j) by unfold Addr.add; by_cases hk0 : k = 0 <;> by_cases hj : j = 0 <;> simp [hk0, hj, Nat.add_assoc]]
 exact this
theorem reads_head {w : World} {B n c k : Nat} {A : Option Addr} {bs : List Nat} (h : Reads w B 1 A n (u8c bs)) (hk : k ≤ n) : Reads w B 1 (tailA A c 0) k (u8c (bs.take k)) := by
 have hl : bs.length = n := by have := h.1; rw [u8c_len] at this; omega
 refine ⟨by rw [u8c_len, List.length_take]; omega, fun hn => ?_⟩
 obtain ⟨ad, e, hb, hx⟩ := h.2 (by omega)
 subst e
 have e : tailA (some ad) c 0 = some ad := by
  unfold tailA
  split
  ·rfl
  ·simp [Addr.add]
 rw [e]
 refine ⟨ad, rfl, hb, fun j u hu => hx j u ?_⟩
 unfold u8c at hu ⊢
 rw [List.getElem?_map, List.getElem?_take] at hu
 rw [List.getElem?_map]
 split at hu
 ·exact hu
 ·cases hu
structure RdAt (w : World) (L rg : Nat) (A : Option Addr) (c : Nat) (bs : List Nat) (bad : Bool) : Prop where
 box : Blk w rg 300 #[.slice A bs.length c, .bool bad]
 cap : bs.length ≤ c
 rd : Reads w L 1 A bs.length (u8c bs)
 far : L ≤ rg
 b8 : ∀ x ∈ bs, x < 256
structure Fr1 (rg : Nat) (w w' : World) : Prop where
 os : w'.os = w.os
 tape : w'.tape = w.tape
 output : w'.output = w.output
 size : w.heap.size ≤ w'.heap.size
 same : ∀ k, k < w.heap.size → k ≠ rg → w'.heap[k]? = w.heap[k]?
theorem Fr1.refl (rg : Nat) (w : World) : Fr1 rg w w := ⟨rfl, rfl, rfl, Nat.le_refl _, fun _ _ _ => rfl⟩
theorem Fr1.trans {rg : Nat} {w w' w'' : World} (h : Fr1 rg w w') (k : Fr1 rg w' w'') : Fr1 rg w w'' :=
 ⟨k.os.trans h.os, k.tape.trans h.tape, k.output.trans h.output, Nat.le_trans h.size k.size, fun i hi hne => (k.same i (Nat.lt_of_lt_of_le hi h.size) hne).trans (h.same i hi hne)⟩
theorem Fr1.set (rg i : Nat) (w : World) (v : Value) : Fr1 rg w (w.setCell ⟨rg, i, none⟩ v) :=
 ⟨rfl, rfl, rfl, by simp [World.setCell], fun k _ hne => Below.heap_setCell w ⟨rg, i, none⟩ v k hne⟩
theorem Fr1.of_below {rg : Nat} {w w' : World} (h : Below w.heap.size w w') : Fr1 rg w w' := ⟨h.os, h.tape, h.output, h.size, fun k hk _ => h.block k hk⟩
theorem Fr1.below {rg B : Nat} {w w' : World} (h : Fr1 rg w w') (hB : B ≤ rg) (hw : B ≤ w.heap.size) : Below B w w' := ⟨h.os, h.tape, h.output, h.size, fun k hk => h.same k (by omega) (by omega)⟩
theorem RdAt.below {w w' : World} {L rg c : Nat} {A : Option Addr} {bs : List Nat} {bad : Bool} (R : RdAt w L rg A c bs bad) (h : Below w.heap.size w w') : RdAt w' L rg A c bs bad :=
 ⟨R.box.below h R.box.lt, R.cap, R.rd.below (h.mono (by have := R.far; have := R.box.lt; omega)), R.far, R.b8⟩
def Rdd {α : Type} (bad : Bool) (r : Option (α × List Nat)) (v : α) (bs' : List Nat) (bad' : Bool) : Prop :=
 (bad' = false → bad = false ∧ r = some (v, bs')) ∧ (bad = false → (∃ p, r = some p) → bad' = false)
def rdB : List Nat → Option (Nat × List Nat)
 | [] => none
 | x :: t => some (x, t)
def ByteP (L rg : Nat) (bs : List Nat) (bad : Bool) (w : World) (e : Ending) (w' : World) : Prop :=
 ∃ x A c bs' bad', e = .returned (.int .u8 (x : Nat)) ∧ x < 256 ∧ RdAt w' L rg A c bs' bad' ∧ Fr1 rg w w' ∧ Rdd bad (rdB bs) x bs' bad' ∧ ∃ d, bs = d ++ bs'
set_option maxRecDepth 100000 in
theorem rbyteI_any {w : World} {L rg c : Nat} {A : Option Addr} {bs : List Nat} {bad : Bool} (R : RdAt w L rg A c bs bad) (hn : bs.length ≤ 9000000) :
 Calls Tryz.prog 248 #[.pointer (some ⟨rg, 0, none⟩)] w (ByteP L rg bs bad w) := by
 have c0 := R.box.cell 0
 have c1 := R.box.cell 1
 have z0 := R.box.frozen 0
 have z1 := R.box.frozen 1
 match bs, R with
 | [], R =>
   have HF := Lib.hid (show ByteP L rg [] bad w (.returned (.int .u8 0)) (w.setCell ⟨rg, 1, none⟩ (.bool true)) from
    ⟨0, A, c, [], true, rfl, by decide, ⟨R.box.set_ 1 _, R.cap, R.rd.below (Below.setCell (Below.refl _ _) (p := ⟨rg, 1, none⟩) R.far _), R.far, R.b8⟩, Fr1.set _ _ _ _, ⟨fun h => (by cases h), fun _ h => by obtain ⟨p, hp⟩ := h; cases hp⟩, [], rfl⟩)
   go_enter Tryz.func248, Tryz.ntmps248
   go_wp2_with fail
   go_ret
   exact HF.out
 | x :: t, R =>
   have hc := R.cap
   rw [List.length_cons] at hc
   have hx := R.b8 x (by simp)
   obtain ⟨ad, hA, hb, hcl⟩ := R.rd.2 (by simp)
   subst hA
   have h0 := hcl 0 (.int .u8 (x : Nat)) (by simp [u8c])
   have e0 : ad.add 0 = ad := by simp [Addr.add]
   rw [e0] at h0
   have hsl := fun w => slice_rest w (some ad) (t.length + 1) c 1 (by omega)
   have hrr := reads_rest (k := 1) R.rd R.cap (by simp)
   have HF := Lib.hid (show ∀ A' c', tailA (some ad) c 1 = A' → c - 1 = c' → ByteP L rg (x :: t) bad w (.returned (.int .u8 (x : Nat))) (w.setCell ⟨rg, 0, none⟩ (.slice A' t.length c')) from fun A' c' hA' hc' => by
    subst hA' hc'
    exact ⟨x, tailA (some ad) c 1, c - 1, t, bad, rfl, hx, ⟨R.box.set_ 0 _, by omega, by
     have := hrr.below (Below.setCell (Below.refl _ _) (p := ⟨rg, 0, none⟩) R.far (.slice (tailA (some ad) c 1) (t.length + 1 - 1) (c - 1)))
     simpa using this, R.far, fun y hy => R.b8 y (by simp [hy])⟩, Fr1.set _ _ _ _, ⟨fun h => ⟨h, rfl⟩, fun h _ => h⟩, [x], rfl⟩)
   clear hrr R hcl hb e0
   rw [List.length_cons] at c0
   go_enter Tryz.func248, Tryz.ntmps248
   go_wp2_with fail
   all_goals go_ret
   all_goals exact HF.out _ _ (by simp [tailA, Addr.add, *]) (by omega)
end
section
open Go.RowKit
attribute [local go_sem] Oper.semAt_some
theorem u8_low7 (x : Nat) (hx : x < 256) : bits .and .u8 (x : Int) 127 = ((x % 128 : Nat) : Int) := by
 have h := u8_and_nat x 127 hx (by omega)
 rw [show x &&& 127 = x % 128 from Nat.and_two_pow_sub_one_eq_mod x 7] at h
 exact h
theorem u64_join (i m y : Nat) (hm : m < 2 ^ i) (hy : y * 2 ^ i < 18446744073709551616) (hm2 : m < 18446744073709551616) : bits .or .u64 (m : Int) ((y * 2 ^ i : Nat) : Int) = ((m + y * 2 ^ i : Nat) : Int) := by
 rw [u64_or_nat _ _ hm2 hy, Nat.or_comm, nat_join i _ _ (by simp) hm, Nat.add_comm]
def NumP (L rg : Nat) (bs : List Nat) (bad : Bool) (w : World) (e : Ending) (w' : World) : Prop :=
 ∃ v A c bs' bad', e = .returned (.int .u32 (v : Nat)) ∧ v < 4294967296 ∧ RdAt w' L rg A c bs' bad' ∧ Fr1 rg w w' ∧ Rdd bad (rdNum bs) v bs' bad' ∧ ∃ d, bs = d ++ bs'
theorem numP_bad {w W : World} {L rg c : Nat} {A : Option Addr} {bs bs' : List Nat} {bad bad' : Bool} (R : RdAt W L rg A c bs' bad') (F : Fr1 rg w W) (hd : ∃ d, bs = d ++ bs') (h : bad = true ∨ rdNum bs = none) :
 NumP L rg bs bad w (.returned (.int .u32 0)) (W.setCell ⟨rg, 1, none⟩ (.bool true)) :=
 ⟨0, A, c, bs', true, rfl, by decide, ⟨R.box.set_ 1 _, R.cap, R.rd.below (Below.setCell (Below.refl _ _) (p := ⟨rg, 1, none⟩) R.far _), R.far, R.b8⟩, F.trans (Fr1.set _ _ _ _), ⟨fun e => (by cases e), fun e hp => by
   obtain ⟨p, hp⟩ := hp
   rcases h with h | h
   ·rw [h] at e; cases e
   ·rw [h] at hp; cases hp⟩, hd⟩
theorem numP_good {w W : World} {L rg c v : Nat} {A : Option Addr} {bs bs' : List Nat} (hv : v < 4294967296) (R : RdAt W L rg A c bs' false) (F : Fr1 rg w W) (hd : ∃ d, bs = d ++ bs') (h : rdNum bs = some (v, bs')) :
 NumP L rg bs false w (.returned (.int .u32 (v : Nat))) W := ⟨v, A, c, bs', false, rfl, hv, R, F, ⟨fun _ => ⟨rfl, h⟩, fun e _ => e⟩, hd⟩
def RdS (bs : List Nat) (bad : Bool) (i m : Nat) (bs' : List Nat) : Prop := m < 128 ^ i ∧ (i = 0 ∨ bad = false) ∧ ((i ≤ 4 ∧ rdN i m bs' = rdNum bs) ∨ (i = 5 ∧ rdNum bs = none)) ∧ ∃ d, bs = d ++ bs'
theorem RdS.stop {bs bs' t : List Nat} {bad : Bool} {i m x : Nat} (S : RdS bs bad i m bs') (hb : bs' = x :: t) (h : i = 5 ∨ (0 < i ∧ x = 0) ∨ 4294967296 ≤ m + 128 ^ i * (x % 128)) (hx : x < 256) : rdNum bs = none := by
 obtain ⟨h1, h2, h3 | h3, h4⟩ := S
 ·rw [← h3.2, hb]
  unfold rdN
  by_cases h128 : x < 128
  ·rw [if_pos h128, if_pos]
   rcases h with h | h | h
   ·omega
   ·exact .inl ⟨h.2, h.1⟩
   ·exact .inr h
  ·rw [if_neg h128, if_pos]
   rcases h with h | h | h
   ·omega
   ·omega
   ·have : x % 128 < 128 := Nat.mod_lt _ (by omega)
    rcases (by omega : i = 0 ∨ i = 1 ∨ i = 2 ∨ i = 3 ∨ i = 4) with rfl | rfl | rfl | rfl | rfl <;> simp at h h1 <;> omega
 ·exact h3.2
theorem RdS.done {bs bs' t : List Nat} {bad : Bool} {i m x : Nat} (S : RdS bs bad i m bs') (hb : bs' = x :: t) (hi : i ≤ 4) (h1 : ¬ (0 < i ∧ x = 0)) (h2 : m + 128 ^ i * (x % 128) < 4294967296) (hx : x < 128) : rdNum bs = some (m + 128 ^ i * (x % 128), t) := by
 obtain ⟨_, _, h3 | h3, h4⟩ := S
 ·rw [← h3.2, hb]
  unfold rdN
  rw [if_pos hx, if_neg (by omega)]
 ·omega
theorem RdS.next {bs bs' t : List Nat} {bad : Bool} {i m x : Nat} (S : RdS bs bad i m bs') (hbd : bad = false) (hb : bs' = x :: t) (hi : i ≤ 4) (hx : ¬ x < 128) : RdS bs bad (i + 1) (m + 128 ^ i * (x % 128)) t := by
 obtain ⟨h0, _, h3, d, h4⟩ := S
 have h5 : x % 128 < 128 := Nat.mod_lt _ (by omega)
 have h6 : 128 ^ i * (x % 128) ≤ 128 ^ i * 127 := Nat.mul_le_mul_left _ (by omega)
 refine ⟨by rw [Nat.pow_succ]; omega, .inr hbd, ?_, d ++ [x], by rw [h4, hb]; simp⟩
 rcases h3 with h3 | h3
 ·rw [hb] at h3
  obtain ⟨_, h3⟩ := h3
  unfold rdN at h3
  rw [if_neg hx] at h3
  by_cases h4 : 4 ≤ i
  ·rw [if_pos h4] at h3
   exact .inr ⟨by omega, h3.symm⟩
  ·rw [if_neg h4] at h3
   exact .inl ⟨by omega, h3⟩
 ·omega
set_option maxRecDepth 100000 in
set_option maxHeartbeats 8000000 in
theorem rnumberI_any {w : World} {L rg c : Nat} {A : Option Addr} {bs : List Nat} {bad : Bool} (R : RdAt w L rg A c bs bad) (hn : bs.length ≤ 9000000) :
 Calls Tryz.prog 197 #[.pointer (some ⟨rg, 0, none⟩)] w (NumP L rg bs bad w) := by
 have HR := Lib.hid R
 clear R
 go_enter Tryz.func197, Tryz.ntmps197
 go_wp2_with fail
 go_step3
 go_wp2_with fail
 go_step3
 go_wp2_with fail
 go_loopw [3, 4] (fun n s wr => ∃ (i m c' : Nat) (A' : Option Addr) (bs' : List Nat), s = .int .i64 ((7 * i : Nat) : Int) ∧ n = .int .u64 (m : Int) ∧ i ≤ 5 ∧ RdS bs bad i m bs' ∧ RdAt wr L rg A' c' bs' bad ∧ Fr1 rg w wr) (fun _ s _ => 40 - (intOf s).toNat)
 case atStart => exact ⟨0, 0, c, A, bs, rfl, rfl, by omega, ⟨by decide, .inl rfl, .inl ⟨by omega, rfl⟩, [], rfl⟩, HR.out, Fr1.refl _ _⟩
 case round =>
  clear HR
  obtain ⟨i, m, c', A', bs', rfl, rfl, hi, S, R, F⟩ := hrel
  have HS := Lib.hid S
  have HF := Lib.hid F
  have hl' : bs'.length ≤ 9000000 := by obtain ⟨_, _, _, d, h4⟩ := S; rw [h4, List.length_append] at hn; omega
  have hm1 : m < 2 ^ (7 * i) := by rw [Nat.pow_mul]; exact S.1
  have HB := Lib.hid (rbyteI_any R hl')
  clear S F R
  obtain rfl | rfl | rfl | rfl | rfl | rfl : i = 0 ∨ i = 1 ∨ i = 2 ∨ i = 3 ∨ i = 4 ∨ i = 5 := by omega
  ·go_wp2_with fail
   refine HB.out.mono ?_
   rintro e w5 ⟨x, A5, c5, bs5, bad5, rfl, hx, R5, F5, D5, d5, hd5⟩
   have HR5 := Lib.hid R5
   have HF5 := Lib.hid (HF.out.trans F5)
   have k1 := R5.box.cell 1
   have z1 := R5.box.frozen 1
   have hsf : ∃ d, bs = d ++ bs5 := by obtain ⟨_, _, _, d, h4⟩ := HS.out; exact ⟨d ++ d5, by rw [h4, hd5, List.append_assoc]⟩
   have HSF := Lib.hid hsf
   have HD := Lib.hid D5
   have hxm : x % 128 < 128 := Nat.mod_lt _ (by omega)
   have hlow := u8_low7 x hx
   have hjn := u64_join 0 m (x % 128) hm1 (by omega) (Nat.lt_of_lt_of_le hm1 (by decide))
   obtain ⟨y, hy⟩ : ∃ y, y = x % 128 := ⟨_, rfl⟩
   obtain ⟨N, hN⟩ : ∃ N, N = m + 128 ^ 0 * (x % 128) := ⟨_, rfl⟩
   have hNlt : N < 128 ^ 0 * 128 := by
    have h6 : 128 ^ 0 * (x % 128) ≤ 128 ^ 0 * 127 := Nat.mul_le_mul_left _ (by omega)
    have h7 : m < 128 ^ 0 := HS.out.1
    omega
   have HN := Lib.hid hN
   rw [← hy] at hlow hxm hjn hN
   have hjN : bits .or .u64 (m : Int) ((y : Int)) = (N : Int) := by
    rw [hN]
    have h0 : m = 0 := by simpa using hm1
    subst h0
    simpa using hjn
   simp only [Nat.reducePow, Nat.reduceMul] at hNlt
   clear R5 F5 hsf HB D5 hd5 hN hjn hm1 hy
   cases bad5 with
   | true =>
     have HF := Lib.hid (numP_bad HR5.out HF5.out HSF.out (show bad = true ∨ rdNum bs = none from by
      by_cases hb : bad = true
      ·exact .inl hb
      ·have hb' : bad = false := by simpa using hb
       obtain ⟨_, h2⟩ := HD.out
       have h3 : ∀ p, rdB bs' ≠ some p := fun p hp => by have := h2 hb' ⟨p, hp⟩; cases this
       obtain ⟨h4, h5, h6 | h6, h7⟩ := HS.out
       ·cases bs' with
        | nil => rw [← h6.2]; exact .inr rfl
        | cons a t => exact absurd rfl (h3 (a, t))
       ·exact .inr h6.2))
     clear HD HS HN HF5 HR5
     go_wp2_with fail
     rw [Exit.noGoto_ret]
     go_ret
     exact HF.out
   | false =>
     obtain ⟨hbad, hrd⟩ := HD.out.1 rfl
     have hbs : bs' = x :: bs5 := by
      cases bs' with
      | nil => cases hrd
      | cons a t => injection hrd with h; injection h with h1 h2; rw [h1, h2]
     have HBS := Lib.hid hbs
     have HBAD := Lib.hid hbad
     clear hbs hbad hrd HD
     have hge : ¬ 4294967296 ≤ N := by omega
     have hg : decide (4294967296 ≤ (N : Int)) = false := by simp; omega
     by_cases h128 : x < 128
     ·have hl : decide ((x : Int) < 128) = true := by simp; omega
      have HF := Lib.hid (numP_good (v := N) (by omega) HR5.out HF5.out HSF.out (by rw [HS.out.done HBS.out (by omega) (by omega) (by rw [← HN.out]; omega) h128, ← HN.out]))
      have HBD := Lib.hid HBAD.out
      clear HS HN HF5 HR5 HBS
      go_wp2_with fail
      try rw [Exit.noGoto_ret]
      go_ret
      have hw : (N : Int) % 4294967296 = (N : Int) := by omega
      subst_vars
      first | exact HF.out | (rw [HBAD.out]; exact HF.out)
     ·have hl : decide ((x : Int) < 128) = false := by simp; omega
      have HNX := Lib.hid (HS.out.next HBAD.out HBS.out (by omega) h128)
      clear HS HBS
      go_wp2_with fail
      go_roundw
      case rel => exact ⟨0 + 1, N, c5, A5, bs5, by go_num, rfl, by omega, by rw [HN.out]; exact HNX.out, by rw [HBAD.out]; exact HR5.out, HF5.out⟩
      case measure => simp [intOf]
  ·go_wp2_with fail
   refine HB.out.mono ?_
   rintro e w5 ⟨x, A5, c5, bs5, bad5, rfl, hx, R5, F5, D5, d5, hd5⟩
   have HR5 := Lib.hid R5
   have HF5 := Lib.hid (HF.out.trans F5)
   have k1 := R5.box.cell 1
   have z1 := R5.box.frozen 1
   have hsf : ∃ d, bs = d ++ bs5 := by obtain ⟨_, _, _, d, h4⟩ := HS.out; exact ⟨d ++ d5, by rw [h4, hd5, List.append_assoc]⟩
   have HSF := Lib.hid hsf
   have HD := Lib.hid D5
   have hxm : x % 128 < 128 := Nat.mod_lt _ (by omega)
   have hlow := u8_low7 x hx
   have hjn := u64_join 7 m (x % 128) hm1 (by omega) (Nat.lt_of_lt_of_le hm1 (by decide))
   obtain ⟨y, hy⟩ : ∃ y, y = x % 128 := ⟨_, rfl⟩
   obtain ⟨N, hN⟩ : ∃ N, N = m + 128 ^ 1 * (x % 128) := ⟨_, rfl⟩
   have hNlt : N < 128 ^ 1 * 128 := by
    have h6 : 128 ^ 1 * (x % 128) ≤ 128 ^ 1 * 127 := Nat.mul_le_mul_left _ (by omega)
    have h7 : m < 128 ^ 1 := HS.out.1
    omega
   have HN := Lib.hid hN
   rw [← hy] at hlow hxm hjn hN
   have hjN : bits .or .u64 (m : Int) ((y : Int) * 128) = (N : Int) := by
    rw [hN]
    simpa [Nat.mul_comm] using hjn
   simp only [Nat.reducePow, Nat.reduceMul] at hNlt
   clear R5 F5 hsf HB D5 hd5 hN hjn hm1 hy
   cases bad5 with
   | true =>
     have HF := Lib.hid (numP_bad HR5.out HF5.out HSF.out (show bad = true ∨ rdNum bs = none from by
      by_cases hb : bad = true
      ·exact .inl hb
      ·have hb' : bad = false := by simpa using hb
       obtain ⟨_, h2⟩ := HD.out
       have h3 : ∀ p, rdB bs' ≠ some p := fun p hp => by have := h2 hb' ⟨p, hp⟩; cases this
       obtain ⟨h4, h5, h6 | h6, h7⟩ := HS.out
       ·cases bs' with
        | nil => rw [← h6.2]; exact .inr rfl
        | cons a t => exact absurd rfl (h3 (a, t))
       ·exact .inr h6.2))
     clear HD HS HN HF5 HR5
     go_wp2_with fail
     rw [Exit.noGoto_ret]
     go_ret
     exact HF.out
   | false =>
     obtain ⟨hbad, hrd⟩ := HD.out.1 rfl
     have hbs : bs' = x :: bs5 := by
      cases bs' with
      | nil => cases hrd
      | cons a t => injection hrd with h; injection h with h1 h2; rw [h1, h2]
     have HBS := Lib.hid hbs
     have HBAD := Lib.hid hbad
     clear hbs hbad hrd HD
     by_cases hx0 : x = 0
     ·have hz : ((x : Int) == 0) = true := by simp; omega
      have HF := Lib.hid (numP_bad HR5.out HF5.out HSF.out (show bad = true ∨ rdNum bs = none from .inr (HS.out.stop HBS.out (.inr (.inl ⟨by omega, hx0⟩)) hx)))
      clear HS HN HF5 HR5 HBS
      clear hx0
      go_wp2_with fail
      rw [Exit.noGoto_ret]
      go_ret
      exact HF.out
     ·have hz : ((x : Int) == 0) = false := by simp; omega
      have hge : ¬ 4294967296 ≤ N := by omega
      have hg : decide (4294967296 ≤ (N : Int)) = false := by simp; omega
      by_cases h128 : x < 128
      ·have hl : decide ((x : Int) < 128) = true := by simp; omega
       have HF := Lib.hid (numP_good (v := N) (by omega) HR5.out HF5.out HSF.out (by rw [HS.out.done HBS.out (by omega) (by omega) (by rw [← HN.out]; omega) h128, ← HN.out]))
       have HBD := Lib.hid HBAD.out
       clear HS HN HF5 HR5 HBS
       go_wp2_with fail
       try rw [Exit.noGoto_ret]
       go_ret
       have hw : (N : Int) % 4294967296 = (N : Int) := by omega
       subst_vars
       first | exact HF.out | (rw [HBAD.out]; exact HF.out)
      ·have hl : decide ((x : Int) < 128) = false := by simp; omega
       have HNX := Lib.hid (HS.out.next HBAD.out HBS.out (by omega) h128)
       clear HS HBS
       go_wp2_with fail
       go_roundw
       case rel => exact ⟨1 + 1, N, c5, A5, bs5, by go_num, rfl, by omega, by rw [HN.out]; exact HNX.out, by rw [HBAD.out]; exact HR5.out, HF5.out⟩
       case measure => simp [intOf]
  ·go_wp2_with fail
   refine HB.out.mono ?_
   rintro e w5 ⟨x, A5, c5, bs5, bad5, rfl, hx, R5, F5, D5, d5, hd5⟩
   have HR5 := Lib.hid R5
   have HF5 := Lib.hid (HF.out.trans F5)
   have k1 := R5.box.cell 1
   have z1 := R5.box.frozen 1
   have hsf : ∃ d, bs = d ++ bs5 := by obtain ⟨_, _, _, d, h4⟩ := HS.out; exact ⟨d ++ d5, by rw [h4, hd5, List.append_assoc]⟩
   have HSF := Lib.hid hsf
   have HD := Lib.hid D5
   have hxm : x % 128 < 128 := Nat.mod_lt _ (by omega)
   have hlow := u8_low7 x hx
   have hjn := u64_join 14 m (x % 128) hm1 (by omega) (Nat.lt_of_lt_of_le hm1 (by decide))
   obtain ⟨y, hy⟩ : ∃ y, y = x % 128 := ⟨_, rfl⟩
   obtain ⟨N, hN⟩ : ∃ N, N = m + 128 ^ 2 * (x % 128) := ⟨_, rfl⟩
   have hNlt : N < 128 ^ 2 * 128 := by
    have h6 : 128 ^ 2 * (x % 128) ≤ 128 ^ 2 * 127 := Nat.mul_le_mul_left _ (by omega)
    have h7 : m < 128 ^ 2 := HS.out.1
    omega
   have HN := Lib.hid hN
   rw [← hy] at hlow hxm hjn hN
   have hjN : bits .or .u64 (m : Int) ((y : Int) * 16384) = (N : Int) := by
    rw [hN]
    simpa [Nat.mul_comm] using hjn
   simp only [Nat.reducePow, Nat.reduceMul] at hNlt
   clear R5 F5 hsf HB D5 hd5 hN hjn hm1 hy
   cases bad5 with
   | true =>
     have HF := Lib.hid (numP_bad HR5.out HF5.out HSF.out (show bad = true ∨ rdNum bs = none from by
      by_cases hb : bad = true
      ·exact .inl hb
      ·have hb' : bad = false := by simpa using hb
       obtain ⟨_, h2⟩ := HD.out
       have h3 : ∀ p, rdB bs' ≠ some p := fun p hp => by have := h2 hb' ⟨p, hp⟩; cases this
       obtain ⟨h4, h5, h6 | h6, h7⟩ := HS.out
       ·cases bs' with
        | nil => rw [← h6.2]; exact .inr rfl
        | cons a t => exact absurd rfl (h3 (a, t))
       ·exact .inr h6.2))
     clear HD HS HN HF5 HR5
     go_wp2_with fail
     rw [Exit.noGoto_ret]
     go_ret
     exact HF.out
   | false =>
     obtain ⟨hbad, hrd⟩ := HD.out.1 rfl
     have hbs : bs' = x :: bs5 := by
      cases bs' with
      | nil => cases hrd
      | cons a t => injection hrd with h; injection h with h1 h2; rw [h1, h2]
     have HBS := Lib.hid hbs
     have HBAD := Lib.hid hbad
     clear hbs hbad hrd HD
     by_cases hx0 : x = 0
     ·have hz : ((x : Int) == 0) = true := by simp; omega
      have HF := Lib.hid (numP_bad HR5.out HF5.out HSF.out (show bad = true ∨ rdNum bs = none from .inr (HS.out.stop HBS.out (.inr (.inl ⟨by omega, hx0⟩)) hx)))
      clear HS HN HF5 HR5 HBS
      clear hx0
      go_wp2_with fail
      rw [Exit.noGoto_ret]
      go_ret
      exact HF.out
     ·have hz : ((x : Int) == 0) = false := by simp; omega
      have hge : ¬ 4294967296 ≤ N := by omega
      have hg : decide (4294967296 ≤ (N : Int)) = false := by simp; omega
      by_cases h128 : x < 128
      ·have hl : decide ((x : Int) < 128) = true := by simp; omega
       have HF := Lib.hid (numP_good (v := N) (by omega) HR5.out HF5.out HSF.out (by rw [HS.out.done HBS.out (by omega) (by omega) (by rw [← HN.out]; omega) h128, ← HN.out]))
       have HBD := Lib.hid HBAD.out
       clear HS HN HF5 HR5 HBS
       go_wp2_with fail
       try rw [Exit.noGoto_ret]
       go_ret
       have hw : (N : Int) % 4294967296 = (N : Int) := by omega
       subst_vars
       first | exact HF.out | (rw [HBAD.out]; exact HF.out)
      ·have hl : decide ((x : Int) < 128) = false := by simp; omega
       have HNX := Lib.hid (HS.out.next HBAD.out HBS.out (by omega) h128)
       clear HS HBS
       go_wp2_with fail
       go_roundw
       case rel => exact ⟨2 + 1, N, c5, A5, bs5, by go_num, rfl, by omega, by rw [HN.out]; exact HNX.out, by rw [HBAD.out]; exact HR5.out, HF5.out⟩
       case measure => simp [intOf]
  ·go_wp2_with fail
   refine HB.out.mono ?_
   rintro e w5 ⟨x, A5, c5, bs5, bad5, rfl, hx, R5, F5, D5, d5, hd5⟩
   have HR5 := Lib.hid R5
   have HF5 := Lib.hid (HF.out.trans F5)
   have k1 := R5.box.cell 1
   have z1 := R5.box.frozen 1
   have hsf : ∃ d, bs = d ++ bs5 := by obtain ⟨_, _, _, d, h4⟩ := HS.out; exact ⟨d ++ d5, by rw [h4, hd5, List.append_assoc]⟩
   have HSF := Lib.hid hsf
   have HD := Lib.hid D5
   have hxm : x % 128 < 128 := Nat.mod_lt _ (by omega)
   have hlow := u8_low7 x hx
   have hjn := u64_join 21 m (x % 128) hm1 (by omega) (Nat.lt_of_lt_of_le hm1 (by decide))
   obtain ⟨y, hy⟩ : ∃ y, y = x % 128 := ⟨_, rfl⟩
   obtain ⟨N, hN⟩ : ∃ N, N = m + 128 ^ 3 * (x % 128) := ⟨_, rfl⟩
   have hNlt : N < 128 ^ 3 * 128 := by
    have h6 : 128 ^ 3 * (x % 128) ≤ 128 ^ 3 * 127 := Nat.mul_le_mul_left _ (by omega)
    have h7 : m < 128 ^ 3 := HS.out.1
    omega
   have HN := Lib.hid hN
   rw [← hy] at hlow hxm hjn hN
   have hjN : bits .or .u64 (m : Int) ((y : Int) * 2097152) = (N : Int) := by
    rw [hN]
    simpa [Nat.mul_comm] using hjn
   simp only [Nat.reducePow, Nat.reduceMul] at hNlt
   clear R5 F5 hsf HB D5 hd5 hN hjn hm1 hy
   cases bad5 with
   | true =>
     have HF := Lib.hid (numP_bad HR5.out HF5.out HSF.out (show bad = true ∨ rdNum bs = none from by
      by_cases hb : bad = true
      ·exact .inl hb
      ·have hb' : bad = false := by simpa using hb
       obtain ⟨_, h2⟩ := HD.out
       have h3 : ∀ p, rdB bs' ≠ some p := fun p hp => by have := h2 hb' ⟨p, hp⟩; cases this
       obtain ⟨h4, h5, h6 | h6, h7⟩ := HS.out
       ·cases bs' with
        | nil => rw [← h6.2]; exact .inr rfl
        | cons a t => exact absurd rfl (h3 (a, t))
       ·exact .inr h6.2))
     clear HD HS HN HF5 HR5
     go_wp2_with fail
     rw [Exit.noGoto_ret]
     go_ret
     exact HF.out
   | false =>
     obtain ⟨hbad, hrd⟩ := HD.out.1 rfl
     have hbs : bs' = x :: bs5 := by
      cases bs' with
      | nil => cases hrd
      | cons a t => injection hrd with h; injection h with h1 h2; rw [h1, h2]
     have HBS := Lib.hid hbs
     have HBAD := Lib.hid hbad
     clear hbs hbad hrd HD
     by_cases hx0 : x = 0
     ·have hz : ((x : Int) == 0) = true := by simp; omega
      have HF := Lib.hid (numP_bad HR5.out HF5.out HSF.out (show bad = true ∨ rdNum bs = none from .inr (HS.out.stop HBS.out (.inr (.inl ⟨by omega, hx0⟩)) hx)))
      clear HS HN HF5 HR5 HBS
      clear hx0
      go_wp2_with fail
      rw [Exit.noGoto_ret]
      go_ret
      exact HF.out
     ·have hz : ((x : Int) == 0) = false := by simp; omega
      have hge : ¬ 4294967296 ≤ N := by omega
      have hg : decide (4294967296 ≤ (N : Int)) = false := by simp; omega
      by_cases h128 : x < 128
      ·have hl : decide ((x : Int) < 128) = true := by simp; omega
       have HF := Lib.hid (numP_good (v := N) (by omega) HR5.out HF5.out HSF.out (by rw [HS.out.done HBS.out (by omega) (by omega) (by rw [← HN.out]; omega) h128, ← HN.out]))
       have HBD := Lib.hid HBAD.out
       clear HS HN HF5 HR5 HBS
       go_wp2_with fail
       try rw [Exit.noGoto_ret]
       go_ret
       have hw : (N : Int) % 4294967296 = (N : Int) := by omega
       subst_vars
       first | exact HF.out | (rw [HBAD.out]; exact HF.out)
      ·have hl : decide ((x : Int) < 128) = false := by simp; omega
       have HNX := Lib.hid (HS.out.next HBAD.out HBS.out (by omega) h128)
       clear HS HBS
       go_wp2_with fail
       go_roundw
       case rel => exact ⟨3 + 1, N, c5, A5, bs5, by go_num, rfl, by omega, by rw [HN.out]; exact HNX.out, by rw [HBAD.out]; exact HR5.out, HF5.out⟩
       case measure => simp [intOf]
  ·go_wp2_with fail
   refine HB.out.mono ?_
   rintro e w5 ⟨x, A5, c5, bs5, bad5, rfl, hx, R5, F5, D5, d5, hd5⟩
   have HR5 := Lib.hid R5
   have HF5 := Lib.hid (HF.out.trans F5)
   have k1 := R5.box.cell 1
   have z1 := R5.box.frozen 1
   have hsf : ∃ d, bs = d ++ bs5 := by obtain ⟨_, _, _, d, h4⟩ := HS.out; exact ⟨d ++ d5, by rw [h4, hd5, List.append_assoc]⟩
   have HSF := Lib.hid hsf
   have HD := Lib.hid D5
   have hxm : x % 128 < 128 := Nat.mod_lt _ (by omega)
   have hlow := u8_low7 x hx
   have hjn := u64_join 28 m (x % 128) hm1 (by omega) (Nat.lt_of_lt_of_le hm1 (by decide))
   obtain ⟨y, hy⟩ : ∃ y, y = x % 128 := ⟨_, rfl⟩
   obtain ⟨N, hN⟩ : ∃ N, N = m + 128 ^ 4 * (x % 128) := ⟨_, rfl⟩
   have hNlt : N < 128 ^ 4 * 128 := by
    have h6 : 128 ^ 4 * (x % 128) ≤ 128 ^ 4 * 127 := Nat.mul_le_mul_left _ (by omega)
    have h7 : m < 128 ^ 4 := HS.out.1
    omega
   have HN := Lib.hid hN
   rw [← hy] at hlow hxm hjn hN
   have hjN : bits .or .u64 (m : Int) ((y : Int) * 268435456) = (N : Int) := by
    rw [hN]
    simpa [Nat.mul_comm] using hjn
   simp only [Nat.reducePow, Nat.reduceMul] at hNlt
   clear R5 F5 hsf HB D5 hd5 hN hjn hm1 hy
   cases bad5 with
   | true =>
     have HF := Lib.hid (numP_bad HR5.out HF5.out HSF.out (show bad = true ∨ rdNum bs = none from by
      by_cases hb : bad = true
      ·exact .inl hb
      ·have hb' : bad = false := by simpa using hb
       obtain ⟨_, h2⟩ := HD.out
       have h3 : ∀ p, rdB bs' ≠ some p := fun p hp => by have := h2 hb' ⟨p, hp⟩; cases this
       obtain ⟨h4, h5, h6 | h6, h7⟩ := HS.out
       ·cases bs' with
        | nil => rw [← h6.2]; exact .inr rfl
        | cons a t => exact absurd rfl (h3 (a, t))
       ·exact .inr h6.2))
     clear HD HS HN HF5 HR5
     go_wp2_with fail
     rw [Exit.noGoto_ret]
     go_ret
     exact HF.out
   | false =>
     obtain ⟨hbad, hrd⟩ := HD.out.1 rfl
     have hbs : bs' = x :: bs5 := by
      cases bs' with
      | nil => cases hrd
      | cons a t => injection hrd with h; injection h with h1 h2; rw [h1, h2]
     have HBS := Lib.hid hbs
     have HBAD := Lib.hid hbad
     clear hbs hbad hrd HD
     by_cases hx0 : x = 0
     ·have hz : ((x : Int) == 0) = true := by simp; omega
      have HF := Lib.hid (numP_bad HR5.out HF5.out HSF.out (show bad = true ∨ rdNum bs = none from .inr (HS.out.stop HBS.out (.inr (.inl ⟨by omega, hx0⟩)) hx)))
      clear HS HN HF5 HR5 HBS
      clear hx0
      go_wp2_with fail
      rw [Exit.noGoto_ret]
      go_ret
      exact HF.out
     ·have hz : ((x : Int) == 0) = false := by simp; omega
      by_cases hge : 4294967296 ≤ N
      ·have hg : decide (4294967296 ≤ (N : Int)) = true := by simp; omega
       have HF := Lib.hid (numP_bad HR5.out HF5.out HSF.out (show bad = true ∨ rdNum bs = none from .inr (HS.out.stop HBS.out (.inr (.inr (by rw [← HN.out]; exact hge))) hx)))
       clear HS HN HF5 HR5 HBS
       go_wp2_with fail
       rw [Exit.noGoto_ret]
       go_ret
       exact HF.out
      ·have hg : decide (4294967296 ≤ (N : Int)) = false := by simp; omega
       by_cases h128 : x < 128
       ·have hl : decide ((x : Int) < 128) = true := by simp; omega
        have HF := Lib.hid (numP_good (v := N) (by omega) HR5.out HF5.out HSF.out (by rw [HS.out.done HBS.out (by omega) (by omega) (by rw [← HN.out]; omega) h128, ← HN.out]))
        have HBD := Lib.hid HBAD.out
        clear HS HN HF5 HR5 HBS
        go_wp2_with fail
        try rw [Exit.noGoto_ret]
        go_ret
        have hw : (N : Int) % 4294967296 = (N : Int) := by omega
        subst_vars
        first | exact HF.out | (rw [HBAD.out]; exact HF.out)
       ·have hl : decide ((x : Int) < 128) = false := by simp; omega
        have HNX := Lib.hid (HS.out.next HBAD.out HBS.out (by omega) h128)
        clear HS HBS
        go_wp2_with fail
        go_roundw
        case rel => exact ⟨4 + 1, N, c5, A5, bs5, by go_num, rfl, by omega, by rw [HN.out]; exact HNX.out, by rw [HBAD.out]; exact HR5.out, HF5.out⟩
        case measure => simp [intOf]
  ·go_wp2_with fail
   refine HB.out.mono ?_
   rintro e w5 ⟨x, A5, c5, bs5, bad5, rfl, hx, R5, F5, D5, d5, hd5⟩
   have HR5 := Lib.hid R5
   have HF5 := Lib.hid (HF.out.trans F5)
   have k1 := R5.box.cell 1
   have z1 := R5.box.frozen 1
   have hsf : ∃ d, bs = d ++ bs5 := by obtain ⟨_, _, _, d, h4⟩ := HS.out; exact ⟨d ++ d5, by rw [h4, hd5, List.append_assoc]⟩
   have HSF := Lib.hid hsf
   have HD := Lib.hid D5
   have hxm : x % 128 < 128 := Nat.mod_lt _ (by omega)
   have hlow := u8_low7 x hx
   have hjn := u64_join 35 m (x % 128) hm1 (by omega) (Nat.lt_of_lt_of_le hm1 (by decide))
   obtain ⟨y, hy⟩ : ∃ y, y = x % 128 := ⟨_, rfl⟩
   obtain ⟨N, hN⟩ : ∃ N, N = m + 128 ^ 5 * (x % 128) := ⟨_, rfl⟩
   have hNlt : N < 128 ^ 5 * 128 := by
    have h6 : 128 ^ 5 * (x % 128) ≤ 128 ^ 5 * 127 := Nat.mul_le_mul_left _ (by omega)
    have h7 : m < 128 ^ 5 := HS.out.1
    omega
   have HN := Lib.hid hN
   rw [← hy] at hlow hxm hjn hN
   have hjN : bits .or .u64 (m : Int) ((y : Int) * 34359738368) = (N : Int) := by
    rw [hN]
    simpa [Nat.mul_comm] using hjn
   simp only [Nat.reducePow, Nat.reduceMul] at hNlt
   clear R5 F5 hsf HB D5 hd5 hN hjn hm1 hy
   cases bad5 with
   | true =>
     have HF := Lib.hid (numP_bad HR5.out HF5.out HSF.out (show bad = true ∨ rdNum bs = none from by
      by_cases hb : bad = true
      ·exact .inl hb
      ·have hb' : bad = false := by simpa using hb
       obtain ⟨_, h2⟩ := HD.out
       have h3 : ∀ p, rdB bs' ≠ some p := fun p hp => by have := h2 hb' ⟨p, hp⟩; cases this
       obtain ⟨h4, h5, h6 | h6, h7⟩ := HS.out
       ·cases bs' with
        | nil => rw [← h6.2]; exact .inr rfl
        | cons a t => exact absurd rfl (h3 (a, t))
       ·exact .inr h6.2))
     clear HD HS HN HF5 HR5
     go_wp2_with fail
     rw [Exit.noGoto_ret]
     go_ret
     exact HF.out
   | false =>
     obtain ⟨hbad, hrd⟩ := HD.out.1 rfl
     have hbs : bs' = x :: bs5 := by
      cases bs' with
      | nil => cases hrd
      | cons a t => injection hrd with h; injection h with h1 h2; rw [h1, h2]
     have HBS := Lib.hid hbs
     have HBAD := Lib.hid hbad
     clear hbs hbad hrd HD
     have HF := Lib.hid (numP_bad HR5.out HF5.out HSF.out (show bad = true ∨ rdNum bs = none from .inr (HS.out.stop HBS.out (.inl rfl) hx)))
     clear HS HN HF5 HR5 HBS
     go_wp2_with fail
     rw [Exit.noGoto_ret]
     go_ret
     exact HF.out
end
section
open Go.RowKit
attribute [local go_sem] Oper.semAt_some
def BytR (L rg : Nat) (A : Option Addr) (c : Nat) (bs : List Nat) (bad : Bool) (n : Nat) (w : World) (e : Ending) (w' : World) : Prop :=
 Fr1 rg w w' ∧ ((n ≤ bs.length ∧ e = .returned (.slice (tailA A c 0) n c) ∧ RdAt w' L rg (tailA A c n) (c - n) (bs.drop n) bad) ∨ (bs.length < n ∧ e = .returned (.slice none 0 0) ∧ RdAt w' L rg A c bs true))
set_option maxRecDepth 100000 in
theorem rbytesI_any {w : World} {L rg c : Nat} {A : Option Addr} {bs : List Nat} {bad : Bool} (R : RdAt w L rg A c bs bad) (hn : bs.length ≤ 9000000) (n : Nat) (hn63 : n ≤ 9000000000) :
 Calls Tryz.prog 249 #[.pointer (some ⟨rg, 0, none⟩), .int .i64 n] w (BytR L rg A c bs bad n w) := by
 have c0 := R.box.cell 0
 have c1 := R.box.cell 1
 have z0 := R.box.frozen 0
 have z1 := R.box.frozen 1
 have hc := R.cap
 by_cases h : bs.length < n
 ·have hd : decide ((bs.length : Int) < (n : Int)) = true := by simp; omega
  have HF := Lib.hid (show BytR L rg A c bs bad n w (.returned (.slice none 0 0)) (w.setCell ⟨rg, 1, none⟩ (.bool true)) from
   ⟨Fr1.set _ _ _ _, .inr ⟨h, rfl, ⟨R.box.set_ 1 _, R.cap, R.rd.below (Below.setCell (Below.refl _ _) (p := ⟨rg, 1, none⟩) R.far _), R.far, R.b8⟩⟩⟩)
  clear R
  go_enter Tryz.func249, Tryz.ntmps249
  go_wp2_with fail
  go_ret
  exact HF.out
 ·have hd : decide ((bs.length : Int) < (n : Int)) = false := by simp; omega
  have hln : (bs.drop n).length = bs.length - n := by simp
  have HF := Lib.hid (show ∀ A1 A2 k2 c2, tailA A c 0 = A1 → tailA A c n = A2 → bs.length - n = k2 → c - n = c2 → BytR L rg A c bs bad n w (.returned (.slice A1 n c)) (w.setCell ⟨rg, 0, none⟩ (.slice A2 k2 c2)) from by
   rintro A1 A2 k2 c2 rfl rfl rfl rfl
   refine ⟨Fr1.set _ _ _ _, .inl ⟨by omega, rfl, ⟨?_, by rw [hln]; omega, ?_, R.far, fun x hx => R.b8 x (List.mem_of_mem_drop hx)⟩⟩⟩
   ·rw [hln]; exact R.box.set_ 0 _
   ·rw [hln]; exact (reads_rest (k := n) R.rd R.cap (by omega)).below (Below.setCell (Below.refl _ _) (p := ⟨rg, 0, none⟩) R.far _))
  have hc1 : (n : Int) ≤ (c : Int) := by omega
  have hc2 : (n : Int) ≤ (bs.length : Int) := by omega
  clear R
  by_cases hcn : c = n
  ·subst hcn
   go_enter Tryz.func249, Tryz.ntmps249
   go_wp2_with fail
   all_goals go_ret
   all_goals refine HF.out _ _ _ _ ?_ ?_ ?_ ?_
   all_goals first | omega | (simp [tailA, Addr.add, *]; done) | (simp [tailA, Addr.add, *]; omega)
  ·have hcn' : n ≠ c := fun e => hcn e.symm
   go_enter Tryz.func249, Tryz.ntmps249
   go_wp2_with fail
   all_goals go_ret
   all_goals refine HF.out _ _ _ _ ?_ ?_ ?_ ?_
   all_goals first | omega | (simp [tailA, Addr.add, *]; done) | (simp [tailA, Addr.add, *]; omega)
end
section
open Go.RowKit
attribute [local go_sem] Oper.semAt_some
theorem okB_may {x : Hd} (h : x.spare < 4) : okB x = x.may := by unfold okB; rw [decide_eq_true h, Bool.and_true]
theorem okB_size {x : Hd} (h : 65535 < x.size) : okB x = false := by unfold okB Hd.may; rw [decide_eq_false (by omega)]; rfl
theorem okB_fmt {x : Hd} (h : 5 ≤ x.fmt) : okB x = false := by unfold okB Hd.may; rw [show decide (x.fmt ≤ 4) = false from decide_eq_false (by omega)]; simp
theorem okB_fmt0 {x : Hd} (h : x.fmt ≤ 0) : okB x = false := by unfold okB Hd.may; rw [show decide (1 ≤ x.fmt) = false from decide_eq_false (by omega)]; simp
theorem okB_spare {x : Hd} (h : 4 ≤ x.spare) : okB x = false := by unfold okB; rw [show decide (x.spare < 4) = false from decide_eq_false (by omega)]; simp
set_option maxHeartbeats 2000000 in
theorem may2_any (x : Hd) (h1 : x.size < 4294967296) (h2 : x.fmt < 16) (h3 : x.spare < 16) (h4 : x.cls < 4294967296) (h5 : x.ser < 4294967296) (w : World) (hs : Spares w) :
 Calls Tryz.prog 225 #[x.val] w fun e w' => e = .returned (.bool (okB x)) ∧ Below w.heap.size w w' := by
 by_cases ha : 65535 < x.size
 ·have HF := Lib.hid (okB_size ha)
  obtain ⟨n, t, s, c, r⟩ := x
  simp only at ha h1 h2 h3 h4 h5
  unfold Hd.val
  have hai : (65535 : Int) < (n : Int) := by omega
  go_enter Tryz.func225, Tryz.ntmps225
  go_wp2_with fail
  go_ret
  exact ⟨by rw [HF.out]; rfl, (Below.refl _ _).alloc (Nat.le_refl _) _⟩
 by_cases hb : 5 ≤ x.fmt
 ·have HF := Lib.hid (okB_fmt hb)
  obtain ⟨n, t, s, c, r⟩ := x
  simp only at ha hb h1 h2 h3 h4 h5
  unfold Hd.val
  go_enter Tryz.func225, Tryz.ntmps225
  go_wp2_with fail
  go_ret
  exact ⟨by rw [HF.out]; rfl, (Below.refl _ _).alloc (Nat.le_refl _) _⟩
 by_cases hc : 4 ≤ x.spare
 ·by_cases h0 : x.fmt ≤ 0
  ·have HF := Lib.hid (okB_fmt0 h0)
   obtain ⟨n, t, s, c, r⟩ := x
   simp only at ha hb hc h0 h1 h2 h3 h4 h5
   unfold Hd.val
   go_enter Tryz.func225, Tryz.ntmps225
   go_wp2_with fail
   go_ret
   exact ⟨by rw [HF.out]; rfl, (Below.refl _ _).alloc (Nat.le_refl _) _⟩
  ·have HF := Lib.hid (okB_spare hc)
   obtain ⟨n, t, s, c, r⟩ := x
   simp only at ha hb hc h0 h1 h2 h3 h4 h5
   have hci : (3 : Int) < (s : Int) := by omega
   unfold Hd.val
   go_enter Tryz.func225, Tryz.ntmps225
   go_wp2_with fail
   go_ret
   exact ⟨by rw [HF.out]; rfl, (Below.refl _ _).alloc (Nat.le_refl _) _⟩
 ·rw [okB_may (by omega)]
  exact may_any x ⟨by omega, by omega, by omega, h4, h5⟩ w hs
theorem PackNo_any (x : Hd) (h1 : x.size < 4294967296) (h2 : x.fmt < 16) (h3 : x.spare < 16) (h4 : x.cls < 4294967296) (h5 : x.ser < 4294967296) (hm : okB x = false) (w : World) (hs : Spares w) :
 Calls Tryz.prog 205 #[x.val] w fun e w' => e = .returned (.tuple #[.agg #[.int .u32 0, .int .u32 0, .int .u32 0], .int .i64 1]) ∧ Below w.heap.size w w' := by
 have hv : x.val = .agg #[.int .i64 x.size, .int .i64 x.fmt, .int .i64 x.spare, .int .u32 x.cls, .int .u32 x.ser] := rfl
 rw [hv]
 go_enter Tryz.func205, Tryz.ntmps205
 go_wp2_with fail
 rw [← hv]
 refine (may2_any x h1 h2 h3 h4 h5 _ (hs.below (((Below.refl _ _).alloc (Nat.le_refl _) _).alloc (by simp) _))).mono ?_
 rintro e w1 ⟨rfl, hb1⟩
 rw [hm]
 have hb : Below w.heap.size w w1 := (((Below.refl _ _).alloc (Nat.le_refl _) _).alloc (by simp) _).trans (hb1.mono (by simp; omega))
 have B2 := Blk.below (Blk.new (w.alloc _) _ _) hb1 (by simp)
 rw [World.size_alloc] at B2
 clear hb1
 obtain ⟨d0, d1, d2⟩ := B2.cells3
 have z2 := B2.fz
 have hz2 := B2.lt
 go_wp2_with fail
 have B3 := B2.setAll3 (.int .u32 0) (.int .u32 0) (.int .u32 0)
 obtain ⟨f0, f1, f2⟩ := B3.cells3
 refine bodyPost_ret (v := .tuple #[.agg #[.int .u32 0, .int .u32 0, .int .u32 0], .int .i64 1]) (by simp [results, Tryz.results205, go_sem, f0, f1, f2]) rfl ⟨rfl, ?_⟩
 exact ((hb.setCell (by simp) _).setCell (by simp) _).setCell (by simp) _
end
section
open Go.RowKit
attribute [local go_sem] Oper.semAt_some
theorem Blk.fr1 {w w' : World} {g rg : Nat} {t : TypeId} {c : Array Value} (b : Blk w g t c) (F : Fr1 rg w w') (h : g ≠ rg) : Blk w' g t c := b.same (F.same g b.lt h)
theorem RdAt.set {w : World} {L rg c g i : Nat} {A : Option Addr} {bs : List Nat} {bad : Bool} {v : Value} (R : RdAt w L rg A c bs bad) (h : g ≠ rg) (hL : L ≤ g) : RdAt (w.setCell ⟨g, i, none⟩ v) L rg A c bs bad :=
 ⟨R.box.same (Below.heap_setCell w ⟨g, i, none⟩ v rg h.symm), R.cap, R.rd.below (Below.setCell (Below.refl _ _) (p := ⟨g, i, none⟩) hL v), R.far, R.b8⟩
def wrC (x : Hd) (vf : Value) (at_ : Nat) : Array Value := #[.int .i64 x.size, .int .i64 x.fmt, .int .i64 x.spare, .int .u32 0, .int .u32 x.ser, .int .u32 x.cls, vf, .int .i64 at_]
def wrV (x : Hd) (vf : Value) (at_ : Nat) : Value := .agg (wrC x vf at_)
def ThV (lo : Nat) (w : World) (t : Th) (v : Value) : Prop := ∃ (A : Option Addr) (c : Nat), v = wrV t.x (.slice A t.fs.length c) 0 ∧ Reads w w.heap.size 1 A t.fs.length (u32s t.fs) ∧ ∀ a, A = some a → lo ≤ a.block
def ObjP (L rg : Nat) (bs : List Nat) (w : World) (e : Ending) (w' : World) : Prop :=
 ∃ v A c bs' bad', e = .returned v ∧ (∃ (x : Hd) (Af : Option Addr) (nf cf : Nat), v = wrV x (.slice Af nf cf) 0) ∧ RdAt w' L rg A c bs' bad' ∧ Fr1 rg w w' ∧ (bad' = true → rdObj bs = none) ∧ (bad' = false → ∃ t, rdObj bs = some (t, bs') ∧ ThV w.heap.size w' t v)
theorem Blk.setAll8 {w : World} {g : Nat} {t : TypeId} {a b c d e f k l : Value} (h : Blk w g t #[a, b, c, d, e, f, k, l]) (x0 x1 x2 x3 x4 x5 x6 x7 : Value) :
 Blk ((((((((w.setCell ⟨g, 0, none⟩ x0).setCell ⟨g, 1, none⟩ x1).setCell ⟨g, 2, none⟩ x2).setCell ⟨g, 3, none⟩ x3).setCell ⟨g, 4, none⟩ x4).setCell ⟨g, 5, none⟩ x5).setCell ⟨g, 6, none⟩ x6).setCell ⟨g, 7, none⟩ x7) g t #[x0, x1, x2, x3, x4, x5, x6, x7] := by
 have hh := (((((((h.set_ 0 x0).set_ 1 x1).set_ 2 x2).set_ 3 x3).set_ 4 x4).set_ 5 x5).set_ 6 x6).set_ 7 x7
 simp only [List.setIfInBounds_toArray, List.set_cons_zero, List.set_cons_succ] at hh
 exact hh
theorem Fr1.setAll8 {w w' : World} {g rg : Nat} (F : Fr1 rg w w') (hg : w.heap.size ≤ g) (x0 x1 x2 x3 x4 x5 x6 x7 : Value) :
 Fr1 rg w ((((((((w'.setCell ⟨g, 0, none⟩ x0).setCell ⟨g, 1, none⟩ x1).setCell ⟨g, 2, none⟩ x2).setCell ⟨g, 3, none⟩ x3).setCell ⟨g, 4, none⟩ x4).setCell ⟨g, 5, none⟩ x5).setCell ⟨g, 6, none⟩ x6).setCell ⟨g, 7, none⟩ x7) := by
 have h1 : ∀ (W : World) (i : Nat) (v : Value), Fr1 rg w W → Fr1 rg w (W.setCell ⟨g, i, none⟩ v) := fun W i v F => ⟨F.os, F.tape, F.output, by have := F.size; simp [World.setCell]; exact this, fun k hk hne => (Below.heap_setCell W ⟨g, i, none⟩ v k (by show k ≠ g; omega)).trans (F.same k hk hne)⟩
 exact h1 _ _ _ (h1 _ _ _ (h1 _ _ _ (h1 _ _ _ (h1 _ _ _ (h1 _ _ _ (h1 _ _ _ (h1 _ _ _ F)))))))
theorem reads8 {w : World} {g n : Nat} {A : Option Addr} {xs : List Value} (h : Reads w w.heap.size 1 A n xs) (hne : 0 < n → ∀ a, A = some a → a.block ≠ g) (x0 x1 x2 x3 x4 x5 x6 x7 : Value) :
 Reads ((((((((w.setCell ⟨g, 0, none⟩ x0).setCell ⟨g, 1, none⟩ x1).setCell ⟨g, 2, none⟩ x2).setCell ⟨g, 3, none⟩ x3).setCell ⟨g, 4, none⟩ x4).setCell ⟨g, 5, none⟩ x5).setCell ⟨g, 6, none⟩ x6).setCell ⟨g, 7, none⟩ x7) ((((((((w.setCell ⟨g, 0, none⟩ x0).setCell ⟨g, 1, none⟩ x1).setCell ⟨g, 2, none⟩ x2).setCell ⟨g, 3, none⟩ x3).setCell ⟨g, 4, none⟩ x4).setCell ⟨g, 5, none⟩ x5).setCell ⟨g, 6, none⟩ x6).setCell ⟨g, 7, none⟩ x7).heap.size 1 A n xs := by
 have h1 : ∀ (W : World) (i : Nat) (v : Value), Reads W W.heap.size 1 A n xs → Reads (W.setCell ⟨g, i, none⟩ v) (W.setCell ⟨g, i, none⟩ v).heap.size 1 A n xs := fun W i v h => by
  have hsz : (W.setCell ⟨g, i, none⟩ v).heap.size = W.heap.size := by simp [World.setCell]
  rw [hsz]
  refine ⟨h.1, fun hn => ?_⟩
  obtain ⟨a, ha, hb, hc⟩ := h.2 hn
  exact ⟨a, ha, hb, fun j u hu => (World.cell?_of_block (a := a.add j) (Below.heap_setCell W ⟨g, i, none⟩ v _ (by show (a.add j).block ≠ g; rw [block_of_add]; exact hne hn a ha))).trans (hc j u hu)⟩
 exact h1 _ _ _ (h1 _ _ _ (h1 _ _ _ (h1 _ _ _ (h1 _ _ _ (h1 _ _ _ (h1 _ _ _ (h1 _ _ _ h)))))))
theorem reads1 {w : World} {g i n : Nat} {v : Value} {A : Option Addr} {xs : List Value} (h : Reads w w.heap.size 1 A n xs) (hne : 0 < n → ∀ a, A = some a → a.block ≠ g) : Reads (w.setCell ⟨g, i, none⟩ v) (w.setCell ⟨g, i, none⟩ v).heap.size 1 A n xs := by
 have hsz : (w.setCell ⟨g, i, none⟩ v).heap.size = w.heap.size := by simp [World.setCell]
 rw [hsz]
 refine ⟨h.1, fun hn => ?_⟩
 obtain ⟨a, ha, hb, hc⟩ := h.2 hn
 exact ⟨a, ha, hb, fun j u hu => (World.cell?_of_block (a := a.add j) (Below.heap_setCell w ⟨g, i, none⟩ v _ (by show (a.add j).block ≠ g; rw [block_of_add]; exact hne hn a ha))).trans (hc j u hu)⟩
structure OrS (L rg : Nat) (w0 w : World) (b2 b3 : Nat) (cs : Array Value) (A : Option Addr) (c : Nat) (bs : List Nat) (bad : Bool) : Prop where
 rd : RdAt w L rg A c bs bad
 fr : Fr1 rg w0 w
 res : Blk w b2 303 #[.int .i64 0, .int .i64 0, .int .i64 0, .int .u32 0, .int .u32 0, .int .u32 0, .slice none 0 0, .int .i64 0]
 box : Blk w b3 303 cs
 h2 : w0.heap.size ≤ b2
 h3 : w0.heap.size ≤ b3
 ne : b2 ≠ b3
 hrg : rg < w0.heap.size
section
variable {L rg b2 b3 c c' : Nat} {w0 w w' : World} {cs : Array Value} {A A' : Option Addr} {bs bs' : List Nat} {bad bad' : Bool}
theorem OrS.read (S : OrS L rg w0 w b2 b3 cs A c bs bad) (R : RdAt w' L rg A' c' bs' bad') (F : Fr1 rg w w') : OrS L rg w0 w' b2 b3 cs A' c' bs' bad' :=
 ⟨R, S.fr.trans F, S.res.fr1 F (by have := S.h2; have := S.hrg; omega), S.box.fr1 F (by have := S.h3; have := S.hrg; omega), S.h2, S.h3, S.ne, S.hrg⟩
theorem OrS.below (S : OrS L rg w0 w b2 b3 cs A c bs bad) (h : Below w.heap.size w w') : OrS L rg w0 w' b2 b3 cs A c bs bad := S.read (S.rd.below h) (Fr1.of_below h)
theorem OrS.set (S : OrS L rg w0 w b2 b3 cs A c bs bad) (i : Nat) (v : Value) : OrS L rg w0 (w.setCell ⟨b3, i, none⟩ v) b2 b3 (cs.setIfInBounds i v) A c bs bad :=
 ⟨S.rd.set (by have := S.h3; have := S.hrg; omega) (by have := S.h3; have := S.hrg; have := S.rd.far; omega), ⟨S.fr.os, S.fr.tape, S.fr.output, by have := S.fr.size; simp [World.setCell]; exact this, fun k hk hne => (Below.heap_setCell w ⟨b3, i, none⟩ v k (by show k ≠ b3; have := S.h3; omega)).trans (S.fr.same k hk hne)⟩, S.res.same (Below.heap_setCell w ⟨b3, i, none⟩ v b2 S.ne), S.box.set_ i v, S.h2, S.h3, S.ne, S.hrg⟩
theorem OrS.bad_ (S : OrS L rg w0 w b2 b3 cs A c bs bad) : OrS L rg w0 (w.setCell ⟨rg, 1, none⟩ (.bool true)) b2 b3 cs A c bs true :=
 S.read ⟨S.rd.box.set_ 1 _, S.rd.cap, S.rd.rd.below (Below.setCell (Below.refl _ _) (p := ⟨rg, 1, none⟩) S.rd.far _), S.rd.far, S.rd.b8⟩ (Fr1.set _ _ _ _)
theorem OrS.fin (S : OrS L rg w0 w b2 b3 cs A c bs bad) (x0 x1 x2 x3 x4 x5 x6 x7 : Value) :
 Blk ((((((((w.setCell ⟨b2, 0, none⟩ x0).setCell ⟨b2, 1, none⟩ x1).setCell ⟨b2, 2, none⟩ x2).setCell ⟨b2, 3, none⟩ x3).setCell ⟨b2, 4, none⟩ x4).setCell ⟨b2, 5, none⟩ x5).setCell ⟨b2, 6, none⟩ x6).setCell ⟨b2, 7, none⟩ x7) b2 303 #[x0, x1, x2, x3, x4, x5, x6, x7] ∧
 RdAt ((((((((w.setCell ⟨b2, 0, none⟩ x0).setCell ⟨b2, 1, none⟩ x1).setCell ⟨b2, 2, none⟩ x2).setCell ⟨b2, 3, none⟩ x3).setCell ⟨b2, 4, none⟩ x4).setCell ⟨b2, 5, none⟩ x5).setCell ⟨b2, 6, none⟩ x6).setCell ⟨b2, 7, none⟩ x7) L rg A c bs bad ∧
 Fr1 rg w0 ((((((((w.setCell ⟨b2, 0, none⟩ x0).setCell ⟨b2, 1, none⟩ x1).setCell ⟨b2, 2, none⟩ x2).setCell ⟨b2, 3, none⟩ x3).setCell ⟨b2, 4, none⟩ x4).setCell ⟨b2, 5, none⟩ x5).setCell ⟨b2, 6, none⟩ x6).setCell ⟨b2, 7, none⟩ x7) := by
 have h1 : b2 ≠ rg := by have := S.h2; have := S.hrg; omega
 have h2 : L ≤ b2 := by have := S.h2; have := S.hrg; have := S.rd.far; omega
 exact ⟨S.res.setAll8 _ _ _ _ _ _ _ _, (((((((S.rd.set h1 h2).set h1 h2).set h1 h2).set h1 h2).set h1 h2).set h1 h2).set h1 h2).set h1 h2, S.fr.setAll8 S.h2 _ _ _ _ _ _ _ _⟩
theorem OrS.spares (S : OrS L rg w0 w b2 b3 cs A c bs bad) (hs : Spares w0) (hsp : 0 < L) : Spares w := fun i hi =>
 (World.cell?_of_block (a := ⟨0, i, none⟩) (S.fr.same 0 (by have := S.hrg; have := S.rd.far; omega) (by have := S.rd.far; omega))).trans (hs i hi)
end
theorem hd_of {bs bs1 bs2 bs3 bs4 : List Nat} {c1 k n s : Nat} {d1 d2 d3 d4 : Bool} (D1 : Rdd false (rdNum bs) c1 bs1 d1) (D2 : Rdd d1 (rdB bs1) k bs2 d2) (D3 : Rdd d2 (rdNum bs2) n bs3 d3) (D4 : Rdd d3 (rdNum bs3) s bs4 d4) :
 (d4 = true → rdHd bs = none) ∧ (d4 = false → rdHd bs = if okB ⟨n, k % 16, k / 16, c1, s⟩ then some (⟨n, k % 16, k / 16, c1, s⟩, bs4) else none) := by
 unfold rdHd
 cases d1 with
 | true =>
   have h1 : rdNum bs = none := by
    cases hh : rdNum bs with
    | none => rfl
    | some p => have := D1.2 rfl ⟨p, hh⟩; cases this
   rw [h1]
   refine ⟨fun _ => rfl, fun e => ?_⟩
   obtain ⟨e3, _⟩ := D4.1 e
   obtain ⟨e2, _⟩ := D3.1 e3
   obtain ⟨e1, _⟩ := D2.1 e2
   cases e1
 | false =>
   rw [(D1.1 rfl).2]
   simp only
   cases bs1 with
   | nil =>
     refine ⟨fun _ => rfl, fun e => ?_⟩
     obtain ⟨e3, _⟩ := D4.1 e
     obtain ⟨e2, _⟩ := D3.1 e3
     obtain ⟨_, e1⟩ := D2.1 e2
     cases e1
   | cons q t =>
     obtain rfl : d2 = false := D2.2 rfl ⟨_, rfl⟩
     obtain ⟨_, hq⟩ := D2.1 rfl
     injection hq with hq
     injection hq with h1 h2
     subst h1 h2
     simp only
     cases d3 with
     | true =>
       have h1 : rdNum t = none := by
        cases hh : rdNum t with
        | none => rfl
        | some p => have := D3.2 rfl ⟨p, hh⟩; cases this
       rw [h1]
       refine ⟨fun _ => rfl, fun e => ?_⟩
       obtain ⟨e3, _⟩ := D4.1 e
       cases e3
     | false =>
       rw [(D3.1 rfl).2]
       simp only
       cases d4 with
       | true =>
         have h1 : rdNum bs3 = none := by
          cases hh : rdNum bs3 with
          | none => rfl
          | some p => have := D4.2 rfl ⟨p, hh⟩; cases this
         rw [h1]
         exact ⟨fun _ => rfl, fun e => by cases e⟩
       | false =>
         rw [(D4.1 rfl).2]
         exact ⟨fun e => (by cases e), fun _ => rfl⟩
theorem rdObj_hd {bs bs4 : List Nat} {x : Hd} (h : rdHd bs = some (x, bs4)) : rdObj bs = rdFs x bs4 := by unfold rdObj; rw [h]
theorem rdObj_no {bs : List Nat} (h : rdHd bs = none) : rdObj bs = none := by unfold rdObj; rw [h]
theorem u8_low4 (x : Nat) (hx : x < 256) : bits .and .u8 (x : Int) 15 = ((x % 16 : Nat) : Int) := by
 have h := u8_and_nat x 15 hx (by omega)
 rw [show x &&& 15 = x % 16 from Nat.and_two_pow_sub_one_eq_mod x 4] at h
 exact h
set_option maxRecDepth 100000 in
set_option maxHeartbeats 8000000 in
theorem objectR_any {w : World} {L rg c : Nat} {A : Option Addr} {bs : List Nat} (R : RdAt w L rg A c bs false) (hn : bs.length ≤ 9000000) (hs : Spares w) (hsp : 0 < L) :
 Calls Tryz.prog 198 #[.pointer (some ⟨rg, 0, none⟩)] w (ObjP L rg bs w) := by
 have HR := Lib.hid R
 have hrg := R.box.lt
 have hLr := R.far
 clear R
 go_enter Tryz.func198, Tryz.ntmps198
 go_wp2_with fail
 have b2 := Blk.new w 303 #[.int .i64 0, .int .i64 0, .int .i64 0, .int .u32 0, .int .u32 0, .int .u32 0, .slice none 0 0, .int .i64 0]
 have hb0 := (Below.refl w.heap.size w).alloc (Nat.le_refl _) (.cells #[.int .i64 0, .int .i64 0, .int .i64 0, .int .u32 0, .int .u32 0, .int .u32 0, .slice none 0 0, .int .i64 0] 303)
 have HN1 := Lib.hid (rnumberI_any (HR.out.below hb0) hn)
 have hsz0 : (w.alloc (.cells #[.int .i64 0, .int .i64 0, .int .i64 0, .int .u32 0, .int .u32 0, .int .u32 0, .slice none 0 0, .int .i64 0] 303)).heap.size = w.heap.size + 1 := by simp
 have HB0 := Lib.hid hb0
 have HB2 := Lib.hid b2
 clear hb0 b2 HR
 generalize w.alloc (.cells #[.int .i64 0, .int .i64 0, .int .i64 0, .int .u32 0, .int .u32 0, .int .u32 0, .slice none 0 0, .int .i64 0] 303) = W0 at *
 refine HN1.out.mono ?_
 rintro e w1 ⟨c1, A1, k1, bs1, d1, rfl, hc1, R1, F1, D1, e1, he1⟩
 have HD1 := Lib.hid D1
 have hl1 : bs1.length ≤ 9000000 := by rw [he1, List.length_append] at hn; omega
 have hsz1 : w.heap.size + 1 ≤ w1.heap.size := by rw [← hsz0]; exact F1.size
 have S1 : OrS L rg w (w1.alloc (.cells (wrC ⟨0, 0, 0, c1, 0⟩ (.slice none 0 0) 0) 303)) w.heap.size w1.heap.size (wrC ⟨0, 0, 0, c1, 0⟩ (.slice none 0 0) 0) A1 k1 bs1 d1 :=
  ⟨R1.below ((Below.refl _ _).alloc (Nat.le_refl _) _), (Fr1.of_below HB0.out |>.trans F1).trans (Fr1.of_below ((Below.refl _ _).alloc (Nat.le_refl _) _)), ((HB2.out.fr1 F1 (by omega)).alloc _), Blk.new w1 _ _, Nat.le_refl _, by omega, by omega, hrg⟩
 have HS := Lib.hid S1
 clear S1 R1 F1 D1 HN1 HB0 HB2 he1 e1
 unfold wrC at HS
 go_upto_region 2 with fail
 generalize w1.alloc (.cells #[.int .i64 ((0 : Nat) : Int), .int .i64 ((0 : Nat) : Int), .int .i64 ((0 : Nat) : Int), .int .u32 0, .int .u32 ((0 : Nat) : Int), .int .u32 (c1 : Nat), .slice none 0 0, .int .i64 ((0 : Nat) : Int)] 303) = W1 at *
 generalize w1.heap.size = b3 at *
 have HBY := Lib.hid (rbyteI_any HS.out.rd hl1)
 go_wp2_with fail
 refine HBY.out.mono ?_
 rintro e w2 ⟨k, A2, k2, bs2, d2, rfl, hk8, R2, F2, D2, e2, he2⟩
 have HD2 := Lib.hid D2
 have HS2 := Lib.hid (HS.out.read R2 F2)
 have hl2 : bs2.length ≤ 9000000 := by rw [he2, List.length_append] at hl1; omega
 clear HBY R2 F2 D2 HS he2 e2
 have hlow := u8_low4 k hk8
 have q1 := HS2.out.box.cell 1
 have q2 := HS2.out.box.cell 2
 have y1 := HS2.out.box.frozen 1
 have y2 := HS2.out.box.frozen 2
 have HS3 := Lib.hid ((HS2.out.set 1 (.int .i64 ((k % 16 : Nat) : Int))).set 2 (.int .i64 ((k / 16 : Nat) : Int)))
 clear HS2
 go_upto_region 4 with fail
 have ek1 : ((k % 16 : Nat) : Int) = (k : Int) % 16 := by omega
 have ek2 : ((k / 16 : Nat) : Int) = (k : Int) / 16 := by omega
 have HS4 := Lib.hid (show OrS L rg w ((w2.setCell ⟨b3, 1, none⟩ (.int .i64 ((k : Int) % 16))).setCell ⟨b3, 2, none⟩ (.int .i64 ((k : Int) / 16))) w.heap.size b3 (wrC ⟨0, k % 16, k / 16, c1, 0⟩ (.slice none 0 0) 0) A2 k2 bs2 d2 from by
  have h := HS3.out
  rw [ek1, ek2] at h
  unfold wrC
  rw [show ((⟨0, k % 16, k / 16, c1, 0⟩ : Hd).fmt : Int) = (k : Int) % 16 from ek1, show ((⟨0, k % 16, k / 16, c1, 0⟩ : Hd).spare : Int) = (k : Int) / 16 from ek2]
  exact h)
 generalize (w2.setCell ⟨b3, 1, none⟩ (.int .i64 ((k : Int) % 16))).setCell ⟨b3, 2, none⟩ (.int .i64 ((k : Int) / 16)) = W3 at *
 have hfm : k % 16 < 16 := Nat.mod_lt _ (by omega)
 have hsp' : k / 16 < 16 := by omega
 clear HS3 q1 q2 y1 y2 hlow
 have HN3 := Lib.hid (rnumberI_any HS4.out.rd hl2)
 go_wp2_with fail
 refine HN3.out.mono ?_
 rintro e w3 ⟨n, A3, k3, bs3, d3, rfl, hn3, R3, F3, D3, e3, he3⟩
 have HD3 := Lib.hid D3
 have HS5 := Lib.hid (HS4.out.read R3 F3)
 have hl3 : bs3.length ≤ 9000000 := by rw [he3, List.length_append] at hl2; omega
 clear HN3 R3 F3 D3 HS4 he3 e3
 have HN4 := Lib.hid (rnumberI_any HS5.out.rd hl3)
 go_wp2_with fail
 refine HN4.out.mono ?_
 rintro e w4 ⟨s, A4, k4, bs4, d4, rfl, hs4, R4, F4, D4, e4, he4⟩
 have HD4 := Lib.hid (hd_of HD1.out HD2.out HD3.out D4)
 have HS6 := Lib.hid (HS5.out.read R4 F4)
 have hl4 : bs4.length ≤ 9000000 := by rw [he4, List.length_append] at hl3; omega
 clear HN4 R4 F4 D4 HS5 he4 e4 HD1 HD2 HD3
 have q4 := HS6.out.box.cell 4
 have y4 := HS6.out.box.frozen 4
 unfold wrC at q4
 have HS7 := Lib.hid (show OrS L rg w (w4.setCell ⟨b3, 4, none⟩ (.int .u32 (s : Nat))) w.heap.size b3 (wrC ⟨0, k % 16, k / 16, c1, s⟩ (.slice none 0 0) 0) A4 k4 bs4 d4 from HS6.out.set 4 (.int .u32 (s : Nat)))
 clear HS6
 go_upto_region 6 with fail
 generalize w4.setCell ⟨b3, 4, none⟩ (.int .u32 (s : Int)) = W5 at *
 clear q4 y4
 generalize hfmg : k % 16 = fm at *
 generalize hspg : k / 16 = sp at *
 clear hfmg hspg ek1 ek2
 by_cases hbig : 65535 < n
 ·have hbi : (65535 : Int) < (n : Int) := by omega
  have hdb : decide ((65535 : Int) < (n : Int)) = true := by simp; omega
  have HNO := Lib.hid (show rdObj bs = none from rdObj_no (by
   cases d4 with
   | true => exact HD4.out.1 rfl
   | false => rw [HD4.out.2 rfl, okB_size hbig]; rfl))
  have y1 := HS7.out.rd.box.frozen 1
  have q1 := HS7.out.rd.box.cell 1
  have HS8 := Lib.hid (HS7.out.bad_)
  clear HS7
  go_upto_region 8 with fail
  generalize W5.setCell ⟨rg, 1, none⟩ (.bool true) = W6 at *
  clear y1 q1
  have y1 := HS8.out.box.frozen 0
  have q1 := HS8.out.box.cell 0
  unfold wrC at q1
  have HS9 := Lib.hid (show OrS L rg w (W6.setCell ⟨b3, 0, none⟩ (.int .i64 (n : Nat))) w.heap.size b3 (wrC ⟨n, fm, sp, c1, s⟩ (.slice none 0 0) 0) A4 k4 bs4 true from HS8.out.set 0 (.int .i64 (n : Nat)))
  clear HS8
  go_upto_region 9 with fail
  generalize W6.setCell ⟨b3, 0, none⟩ (.int .i64 (n : Int)) = W7 at *
  clear y1 q1
  have q0 := HS9.out.box.cell 0
  have q1 := HS9.out.box.cell 1
  have q2 := HS9.out.box.cell 2
  have q3 := HS9.out.box.cell 3
  have q4 := HS9.out.box.cell 4
  unfold wrC at q0 q1 q2 q3 q4
  have HPK := Lib.hid (PackNo_any ⟨n, fm, sp, 0, s⟩ hn3 hfm hsp' (show (0 : Nat) < 4294967296 by omega) hs4 (okB_size hbig) W7 (HS9.out.spares hs hsp))
  go_wp2_with fail
  refine HPK.out.mono ?_
  rintro e w8 ⟨rfl, hb8⟩
  have HS10 := Lib.hid ((HS9.out.below hb8).below ((Below.refl _ _).alloc (Nat.le_refl _) (.cells #[.int .u32 0, .int .u32 0, .int .u32 0] 248)))
  clear HPK HS9 hb8 q0 q1 q2 q3 q4
  go_upto_region 10 with fail
  generalize w8.alloc (.cells #[.int .u32 0, .int .u32 0, .int .u32 0] 248) = W8 at *
  have y1 := HS10.out.rd.box.frozen 1
  have q1 := HS10.out.rd.box.cell 1
  have HS11 := Lib.hid (HS10.out.bad_)
  clear HS10
  go_upto_region 12 with fail
  generalize W8.setCell ⟨rg, 1, none⟩ (.bool true) = W9 at *
  clear y1 q1
  have q0 := HS11.out.box.cell 0
  have q1 := HS11.out.box.cell 1
  have q2 := HS11.out.box.cell 2
  have q3 := HS11.out.box.cell 3
  have q4 := HS11.out.box.cell 4
  have q5 := HS11.out.box.cell 5
  have q6 := HS11.out.box.cell 6
  have q7 := HS11.out.box.cell 7
  unfold wrC at q0 q1 q2 q3 q4 q5 q6 q7
  have z0 := HS11.out.res.frozen 0
  have z1 := HS11.out.res.frozen 1
  have z2 := HS11.out.res.frozen 2
  have z3 := HS11.out.res.frozen 3
  have z4 := HS11.out.res.frozen 4
  have z5 := HS11.out.res.frozen 5
  have z6 := HS11.out.res.frozen 6
  have z7 := HS11.out.res.frozen 7
  have d0 := HS11.out.res.cell 0
  have d1 := HS11.out.res.cell 1
  have d2 := HS11.out.res.cell 2
  have d3 := HS11.out.res.cell 3
  have d4 := HS11.out.res.cell 4
  have d5 := HS11.out.res.cell 5
  have d6 := HS11.out.res.cell 6
  have d7 := HS11.out.res.cell 7
  have r1 := HS11.out.rd.box.cell 1
  obtain ⟨BF, RF, FF⟩ := HS11.out.fin (.int .i64 n) (.int .i64 fm) (.int .i64 sp) (.int .u32 0) (.int .u32 s) (.int .u32 c1) (.slice none 0 0) (.int .i64 0)
  have HBF := Lib.hid BF
  have HRF := Lib.hid RF
  have HFF := Lib.hid FF
  clear BF RF FF
  go_wp2_with fail
  generalize ((((((((W9.setCell ⟨w.heap.size, 0, none⟩ (.int .i64 (n : Int))).setCell ⟨w.heap.size, 1, none⟩ (.int .i64 (fm : Int))).setCell ⟨w.heap.size, 2, none⟩ (.int .i64 (sp : Int))).setCell ⟨w.heap.size, 3, none⟩ (.int .u32 0)).setCell ⟨w.heap.size, 4, none⟩ (.int .u32 (s : Int))).setCell ⟨w.heap.size, 5, none⟩ (.int .u32 (c1 : Int))).setCell ⟨w.heap.size, 6, none⟩ (.slice none 0 0)).setCell ⟨w.heap.size, 7, none⟩ (.int .i64 0)) = WF at *
  clear q0 z0 d0 q1 z1 d1 q2 z2 d2 q3 z3 d3 q4 z4 d4 q5 z5 d5 q6 z6 d6 q7 z7 d7
  have f0 := HBF.out.cell 0
  have f1 := HBF.out.cell 1
  have f2 := HBF.out.cell 2
  have f3 := HBF.out.cell 3
  have f4 := HBF.out.cell 4
  have f5 := HBF.out.cell 5
  have f6 := HBF.out.cell 6
  have f7 := HBF.out.cell 7
  refine bodyPost_ret (v := wrV ⟨n, fm, sp, c1, s⟩ (.slice none 0 0) 0) (by simp [results, Tryz.results198, go_sem, wrV, wrC, f0, f1, f2, f3, f4, f5, f6, f7]) rfl ?_
  exact ⟨_, _, _, _, true, rfl, ⟨_, _, _, _, rfl⟩, HRF.out, HFF.out, fun _ => HNO.out, fun h => by cases h⟩
 ·have hbi : ¬ (65535 : Int) < (n : Int) := by omega
  have hdb : decide ((65535 : Int) < (n : Int)) = false := by simp; omega
  go_upto_region 8 with fail
  have y1 := HS7.out.box.frozen 0
  have q1 := HS7.out.box.cell 0
  unfold wrC at q1
  have HS9 := Lib.hid (show OrS L rg w (W5.setCell ⟨b3, 0, none⟩ (.int .i64 (n : Nat))) w.heap.size b3 (wrC ⟨n, fm, sp, c1, s⟩ (.slice none 0 0) 0) A4 k4 bs4 d4 from HS7.out.set 0 (.int .i64 (n : Nat)))
  clear HS7
  go_upto_region 9 with fail
  generalize W5.setCell ⟨b3, 0, none⟩ (.int .i64 (n : Int)) = W7 at *
  clear y1 q1
  by_cases hok : okB ⟨n, fm, sp, c1, s⟩ = true
  ·skip
   obtain ⟨hfit, hmay⟩ := okB_fit hok hc1 hs4
   have HMAY := Lib.hid hmay
   have hfit0 : (⟨n, fm, sp, 0, s⟩ : Hd).Fit := ⟨hfit.size, hfit.fmt, hfit.spare, show (0 : Nat) < 4294967296 by omega, hs4⟩
   have hmay0 : (⟨n, fm, sp, 0, s⟩ : Hd).may = true := hmay
   have HPK := Lib.hid (Pack_any ⟨n, fm, sp, 0, s⟩ hfit0 hmay0 W7 (HS9.out.spares hs hsp))
   clear hmay hmay0
   have q0 := HS9.out.box.cell 0
   have q1 := HS9.out.box.cell 1
   have q2 := HS9.out.box.cell 2
   have q3 := HS9.out.box.cell 3
   have q4 := HS9.out.box.cell 4
   unfold wrC at q0 q1 q2 q3 q4
   go_wp2_with fail
   refine HPK.out.mono ?_
   rintro e w8 ⟨rfl, hb8⟩
   rw [show (⟨n, fm, sp, 0, s⟩ : Hd).packed = .agg #[.int .u32 (⟨n, fm, sp, 0, s⟩ : Hd).w0, .int .u32 ((0 : Nat) : Int), .int .u32 (s : Nat)] from rfl]
   generalize (⟨n, fm, sp, 0, s⟩ : Hd).w0 = w0v at *
   have HS10 := Lib.hid ((HS9.out.below hb8).below ((Below.refl _ _).alloc (Nat.le_refl _) (.cells #[.int .u32 (w0v : Nat), .int .u32 0, .int .u32 (s : Nat)] 248)))
   clear HPK HS9 hb8 q0 q1 q2 q3 q4
   go_upto_region 10 with fail
   generalize w8.alloc (.cells #[.int .u32 (w0v : Int), .int .u32 0, .int .u32 (s : Int)] 248) = W8 at *
   have r1 := HS10.out.rd.box.cell 1
   cases d4 with
   | true =>
     have HNO := Lib.hid (show rdObj bs = none from rdObj_no (HD4.out.1 rfl))
     clear HD4 r1
     have q0 := HS10.out.box.cell 0
     have q1 := HS10.out.box.cell 1
     have q2 := HS10.out.box.cell 2
     have q3 := HS10.out.box.cell 3
     have q4 := HS10.out.box.cell 4
     have q5 := HS10.out.box.cell 5
     have q6 := HS10.out.box.cell 6
     have q7 := HS10.out.box.cell 7
     unfold wrC at q0 q1 q2 q3 q4 q5 q6 q7
     have z0 := HS10.out.res.frozen 0
     have z1 := HS10.out.res.frozen 1
     have z2 := HS10.out.res.frozen 2
     have z3 := HS10.out.res.frozen 3
     have z4 := HS10.out.res.frozen 4
     have z5 := HS10.out.res.frozen 5
     have z6 := HS10.out.res.frozen 6
     have z7 := HS10.out.res.frozen 7
     have d0 := HS10.out.res.cell 0
     have d1 := HS10.out.res.cell 1
     have d2 := HS10.out.res.cell 2
     have d3 := HS10.out.res.cell 3
     have d4 := HS10.out.res.cell 4
     have d5 := HS10.out.res.cell 5
     have d6 := HS10.out.res.cell 6
     have d7 := HS10.out.res.cell 7
     have r1 := HS10.out.rd.box.cell 1
     obtain ⟨BF, RF, FF⟩ := HS10.out.fin (.int .i64 n) (.int .i64 fm) (.int .i64 sp) (.int .u32 0) (.int .u32 s) (.int .u32 c1) (.slice none 0 0) (.int .i64 0)
     have HBF := Lib.hid BF
     have HRF := Lib.hid RF
     have HFF := Lib.hid FF
     clear BF RF FF
     go_wp2_with fail
     generalize ((((((((W8.setCell ⟨w.heap.size, 0, none⟩ (.int .i64 (n : Int))).setCell ⟨w.heap.size, 1, none⟩ (.int .i64 (fm : Int))).setCell ⟨w.heap.size, 2, none⟩ (.int .i64 (sp : Int))).setCell ⟨w.heap.size, 3, none⟩ (.int .u32 0)).setCell ⟨w.heap.size, 4, none⟩ (.int .u32 (s : Int))).setCell ⟨w.heap.size, 5, none⟩ (.int .u32 (c1 : Int))).setCell ⟨w.heap.size, 6, none⟩ (.slice none 0 0)).setCell ⟨w.heap.size, 7, none⟩ (.int .i64 0)) = WF at *
     clear q0 z0 d0 q1 z1 d1 q2 z2 d2 q3 z3 d3 q4 z4 d4 q5 z5 d5 q6 z6 d6 q7 z7 d7
     have f0 := HBF.out.cell 0
     have f1 := HBF.out.cell 1
     have f2 := HBF.out.cell 2
     have f3 := HBF.out.cell 3
     have f4 := HBF.out.cell 4
     have f5 := HBF.out.cell 5
     have f6 := HBF.out.cell 6
     have f7 := HBF.out.cell 7
     refine bodyPost_ret (v := wrV ⟨n, fm, sp, c1, s⟩ (.slice none 0 0) 0) (by simp [results, Tryz.results198, go_sem, wrV, wrC, f0, f1, f2, f3, f4, f5, f6, f7]) rfl ?_
     exact ⟨_, _, _, _, true, rfl, ⟨_, _, _, _, rfl⟩, HRF.out, HFF.out, fun _ => HNO.out, fun h => by cases h⟩
   | false =>
     have HRD := Lib.hid (show rdObj bs = rdFs ⟨n, fm, sp, c1, s⟩ bs4 from rdObj_hd (by rw [HD4.out.2 rfl, if_pos hok]))
     clear HD4
     go_upto_region 14 with fail
     clear r1
     have q0 := HS10.out.box.cell 0
     have q1 := HS10.out.box.cell 1
     have q2 := HS10.out.box.cell 2
     have q3 := HS10.out.box.cell 3
     have q4 := HS10.out.box.cell 4
     have q5 := HS10.out.box.cell 5
     have q6 := HS10.out.box.cell 6
     have q7 := HS10.out.box.cell 7
     unfold wrC at q0 q1 q2 q3 q4 q5 q6 q7
     by_cases h2 : fm = 2
     ·have hd2 : ((fm : Int) == 2) = true := by simp; omega
      have hsp4 : sp < 4 := hfit.spare
      have hnl : n < 16777216 := hfit.size
      have hm0 : sp ≤ 4 * n := by have := HMAY.out; unfold Hd.may at this; simp at this; omega
      have hn65 : n ≤ 65535 := by have := HMAY.out; unfold Hd.may at this; simp at this; omega
      have HFM := Lib.hid h2
      have HBY := Lib.hid (rbytesI_any HS10.out.rd hl4 (4 * n - sp) (by omega))
      clear h2
      go_wp2_with fail
      rw [show (4 * (n : Int) - (sp : Int)) = ((4 * n - sp : Nat) : Int) by omega]
      refine HBY.out.mono ?_
      rintro e w9 ⟨F9, (⟨hle, rfl, R9⟩ | ⟨hlt, rfl, R9⟩)⟩
      ·have HS12 := Lib.hid (HS10.out.read R9 F9)
       have hb39 : b3 < w9.heap.size := HS12.out.box.lt
       have hb29 : w.heap.size < w9.heap.size := HS12.out.res.lt
       have hLw : L ≤ w9.heap.size := by have := HS12.out.rd.box.lt; have := HS12.out.rd.far; omega
       have HPB := Lib.hid (packBytes_any (w := w9) (tailA A4 k4 0) (4 * n - sp) k4 L (bs4.take (4 * n - sp)) (by omega) ((reads_head (k := 4 * n - sp) (c := k4) HS10.out.rd.rd (by omega)).below (F9.below HS10.out.rd.far (by have := HS10.out.rd.box.lt; have := HS10.out.rd.far; omega))) hLw (fun x hx => HS10.out.rd.b8 x (List.mem_of_mem_take hx)))
       have HRF1 := Lib.hid (show rdObj bs = some (⟨⟨n, fm, sp, c1, s⟩, packM (bs4.take (4 * n - sp))⟩, bs4.drop (4 * n - sp)) from by
        rw [HRD.out]; unfold rdFs; rw [if_pos HFM.out, if_pos hle])
       unfold PackedB at HPB
       generalize packM (bs4.take (4 * n - sp)) = fs at *
       clear R9 F9 HS10 HBY q0 q1 q2 q3 q4 q5 q6 q7
       go_wp2_with fail
       refine HPB.out.mono ?_
       rintro e w10 ⟨g, rfl, hrow, hg, hb10⟩
       have HS13 := Lib.hid (HS12.out.below hb10)
       have HRW := Lib.hid (show Reads w10 w10.heap.size 1 (some ⟨g, 0, none⟩) fs.length (u32s fs) from by
        have h := hrow.reads hrow.lt
        rw [u32s_len] at h
        exact h)
       have hg3 : g ≠ b3 := by omega
       have hg2 : g ≠ w.heap.size := by omega
       have hgw : w.heap.size ≤ g := by omega
       clear HPB HS12 hrow hg hb10
       have q6 := HS13.out.box.cell 6
       have y6 := HS13.out.box.frozen 6
       unfold wrC at q6
       have HS14 := Lib.hid (show OrS L rg w (w10.setCell ⟨b3, 6, none⟩ (.slice (some ⟨g, 0, none⟩) fs.length fs.length)) w.heap.size b3 (wrC ⟨n, fm, sp, c1, s⟩ (.slice (some ⟨g, 0, none⟩) fs.length fs.length) 0) (tailA A4 k4 (4 * n - sp)) (k4 - (4 * n - sp)) (bs4.drop (4 * n - sp)) false from HS13.out.set 6 (.slice (some ⟨g, 0, none⟩) fs.length fs.length))
       have HRX := Lib.hid (reads1 (g := b3) (i := 6) (v := .slice (some ⟨g, 0, none⟩) fs.length fs.length) HRW.out (fun _ a ha => by injection ha with ha; rw [← ha]; exact hg3))
       clear HS13 HRW
       go_upto_region 17 with fail
       generalize w10.setCell ⟨b3, 6, none⟩ (.slice (some ⟨g, 0, none⟩) fs.length fs.length) = W11 at *
       clear q6 y6
       have HR8 := Lib.hid (reads8 (g := w.heap.size) HRX.out (fun _ a ha => by injection ha with ha; rw [← ha]; exact hg2) (.int .i64 n) (.int .i64 fm) (.int .i64 sp) (.int .u32 0) (.int .u32 s) (.int .u32 c1) (.slice (some ⟨g, 0, none⟩) fs.length fs.length) (.int .i64 0))
       clear HRX
       have q0 := HS14.out.box.cell 0
       have q1 := HS14.out.box.cell 1
       have q2 := HS14.out.box.cell 2
       have q3 := HS14.out.box.cell 3
       have q4 := HS14.out.box.cell 4
       have q5 := HS14.out.box.cell 5
       have q6 := HS14.out.box.cell 6
       have q7 := HS14.out.box.cell 7
       unfold wrC at q0 q1 q2 q3 q4 q5 q6 q7
       have z0 := HS14.out.res.frozen 0
       have z1 := HS14.out.res.frozen 1
       have z2 := HS14.out.res.frozen 2
       have z3 := HS14.out.res.frozen 3
       have z4 := HS14.out.res.frozen 4
       have z5 := HS14.out.res.frozen 5
       have z6 := HS14.out.res.frozen 6
       have z7 := HS14.out.res.frozen 7
       have d0 := HS14.out.res.cell 0
       have d1 := HS14.out.res.cell 1
       have d2 := HS14.out.res.cell 2
       have d3 := HS14.out.res.cell 3
       have d4 := HS14.out.res.cell 4
       have d5 := HS14.out.res.cell 5
       have d6 := HS14.out.res.cell 6
       have d7 := HS14.out.res.cell 7
       have r1 := HS14.out.rd.box.cell 1
       obtain ⟨BF, RF, FF⟩ := HS14.out.fin (.int .i64 n) (.int .i64 fm) (.int .i64 sp) (.int .u32 0) (.int .u32 s) (.int .u32 c1) (.slice (some ⟨g, 0, none⟩) fs.length fs.length) (.int .i64 0)
       have HBF := Lib.hid BF
       have HRF := Lib.hid RF
       have HFF := Lib.hid FF
       clear BF RF FF
       go_wp2_with fail
       generalize ((((((((W11.setCell ⟨w.heap.size, 0, none⟩ (.int .i64 (n : Int))).setCell ⟨w.heap.size, 1, none⟩ (.int .i64 (fm : Int))).setCell ⟨w.heap.size, 2, none⟩ (.int .i64 (sp : Int))).setCell ⟨w.heap.size, 3, none⟩ (.int .u32 0)).setCell ⟨w.heap.size, 4, none⟩ (.int .u32 (s : Int))).setCell ⟨w.heap.size, 5, none⟩ (.int .u32 (c1 : Int))).setCell ⟨w.heap.size, 6, none⟩ (.slice (some ⟨g, 0, none⟩) fs.length fs.length)).setCell ⟨w.heap.size, 7, none⟩ (.int .i64 0)) = WF at *
       clear q0 z0 d0 q1 z1 d1 q2 z2 d2 q3 z3 d3 q4 z4 d4 q5 z5 d5 q6 z6 d6 q7 z7 d7
       have f0 := HBF.out.cell 0
       have f1 := HBF.out.cell 1
       have f2 := HBF.out.cell 2
       have f3 := HBF.out.cell 3
       have f4 := HBF.out.cell 4
       have f5 := HBF.out.cell 5
       have f6 := HBF.out.cell 6
       have f7 := HBF.out.cell 7
       refine bodyPost_ret (v := wrV ⟨n, fm, sp, c1, s⟩ (.slice (some ⟨g, 0, none⟩) fs.length fs.length) 0) (by simp [results, Tryz.results198, go_sem, wrV, wrC, f0, f1, f2, f3, f4, f5, f6, f7]) rfl ?_
       exact ⟨_, _, _, _, false, rfl, ⟨_, _, _, _, rfl⟩, HRF.out, HFF.out, fun h => (by cases h), fun _ => ⟨_, HRF1.out, some ⟨g, 0, none⟩, fs.length, rfl, HR8.out, fun a ha => by injection ha with ha; rw [← ha]; exact hgw⟩⟩
      ·have HS12 := Lib.hid (HS10.out.read R9 F9)
       have hb39 : b3 < w9.heap.size := HS12.out.box.lt
       have hb29 : w.heap.size < w9.heap.size := HS12.out.res.lt
       have hLw : L ≤ w9.heap.size := by have := HS12.out.rd.box.lt; have := HS12.out.rd.far; omega
       have HPB := Lib.hid (packBytes_any (w := w9) none 0 0 L [] (by omega) Reads.none_ hLw (fun x hx => by cases hx))
       have HNO := Lib.hid (show rdObj bs = none from by
        rw [HRD.out]; unfold rdFs; rw [if_pos HFM.out, if_neg (by show ¬ 4 * n - sp ≤ bs4.length; omega)])
       unfold PackedB at HPB
       generalize packM [] = fs at *
       clear R9 F9 HS10 HBY q0 q1 q2 q3 q4 q5 q6 q7
       go_wp2_with fail
       refine HPB.out.mono ?_
       rintro e w10 ⟨g, rfl, hrow, hg, hb10⟩
       have HS13 := Lib.hid (HS12.out.below hb10)
       have HRW := Lib.hid (show Reads w10 w10.heap.size 1 (some ⟨g, 0, none⟩) fs.length (u32s fs) from by
        have h := hrow.reads hrow.lt
        rw [u32s_len] at h
        exact h)
       have hg3 : g ≠ b3 := by omega
       have hg2 : g ≠ w.heap.size := by omega
       have hgw : w.heap.size ≤ g := by omega
       clear HPB HS12 hrow hg hb10
       have q6 := HS13.out.box.cell 6
       have y6 := HS13.out.box.frozen 6
       unfold wrC at q6
       have HS14 := Lib.hid (show OrS L rg w (w10.setCell ⟨b3, 6, none⟩ (.slice (some ⟨g, 0, none⟩) fs.length fs.length)) w.heap.size b3 (wrC ⟨n, fm, sp, c1, s⟩ (.slice (some ⟨g, 0, none⟩) fs.length fs.length) 0) A4 k4 bs4 true from HS13.out.set 6 (.slice (some ⟨g, 0, none⟩) fs.length fs.length))
       have HRX := Lib.hid (reads1 (g := b3) (i := 6) (v := .slice (some ⟨g, 0, none⟩) fs.length fs.length) HRW.out (fun _ a ha => by injection ha with ha; rw [← ha]; exact hg3))
       clear HS13 HRW
       go_upto_region 17 with fail
       generalize w10.setCell ⟨b3, 6, none⟩ (.slice (some ⟨g, 0, none⟩) fs.length fs.length) = W11 at *
       clear q6 y6
       clear HRX
       have q0 := HS14.out.box.cell 0
       have q1 := HS14.out.box.cell 1
       have q2 := HS14.out.box.cell 2
       have q3 := HS14.out.box.cell 3
       have q4 := HS14.out.box.cell 4
       have q5 := HS14.out.box.cell 5
       have q6 := HS14.out.box.cell 6
       have q7 := HS14.out.box.cell 7
       unfold wrC at q0 q1 q2 q3 q4 q5 q6 q7
       have z0 := HS14.out.res.frozen 0
       have z1 := HS14.out.res.frozen 1
       have z2 := HS14.out.res.frozen 2
       have z3 := HS14.out.res.frozen 3
       have z4 := HS14.out.res.frozen 4
       have z5 := HS14.out.res.frozen 5
       have z6 := HS14.out.res.frozen 6
       have z7 := HS14.out.res.frozen 7
       have d0 := HS14.out.res.cell 0
       have d1 := HS14.out.res.cell 1
       have d2 := HS14.out.res.cell 2
       have d3 := HS14.out.res.cell 3
       have d4 := HS14.out.res.cell 4
       have d5 := HS14.out.res.cell 5
       have d6 := HS14.out.res.cell 6
       have d7 := HS14.out.res.cell 7
       have r1 := HS14.out.rd.box.cell 1
       obtain ⟨BF, RF, FF⟩ := HS14.out.fin (.int .i64 n) (.int .i64 fm) (.int .i64 sp) (.int .u32 0) (.int .u32 s) (.int .u32 c1) (.slice (some ⟨g, 0, none⟩) fs.length fs.length) (.int .i64 0)
       have HBF := Lib.hid BF
       have HRF := Lib.hid RF
       have HFF := Lib.hid FF
       clear BF RF FF
       go_wp2_with fail
       generalize ((((((((W11.setCell ⟨w.heap.size, 0, none⟩ (.int .i64 (n : Int))).setCell ⟨w.heap.size, 1, none⟩ (.int .i64 (fm : Int))).setCell ⟨w.heap.size, 2, none⟩ (.int .i64 (sp : Int))).setCell ⟨w.heap.size, 3, none⟩ (.int .u32 0)).setCell ⟨w.heap.size, 4, none⟩ (.int .u32 (s : Int))).setCell ⟨w.heap.size, 5, none⟩ (.int .u32 (c1 : Int))).setCell ⟨w.heap.size, 6, none⟩ (.slice (some ⟨g, 0, none⟩) fs.length fs.length)).setCell ⟨w.heap.size, 7, none⟩ (.int .i64 0)) = WF at *
       clear q0 z0 d0 q1 z1 d1 q2 z2 d2 q3 z3 d3 q4 z4 d4 q5 z5 d5 q6 z6 d6 q7 z7 d7
       have f0 := HBF.out.cell 0
       have f1 := HBF.out.cell 1
       have f2 := HBF.out.cell 2
       have f3 := HBF.out.cell 3
       have f4 := HBF.out.cell 4
       have f5 := HBF.out.cell 5
       have f6 := HBF.out.cell 6
       have f7 := HBF.out.cell 7
       refine bodyPost_ret (v := wrV ⟨n, fm, sp, c1, s⟩ (.slice (some ⟨g, 0, none⟩) fs.length fs.length) 0) (by simp [results, Tryz.results198, go_sem, wrV, wrC, f0, f1, f2, f3, f4, f5, f6, f7]) rfl ?_
       exact ⟨_, _, _, _, true, rfl, ⟨_, _, _, _, rfl⟩, HRF.out, HFF.out, fun _ => HNO.out, fun h => by cases h⟩
     ·have hd2 : ((fm : Int) == 2) = false := by simp; omega
      have HFM := Lib.hid h2
      have hn65 : n ≤ 65535 := by have := HMAY.out; unfold Hd.may at this; simp at this; omega
      have hb38 : b3 < W8.heap.size := HS10.out.box.lt
      have hb28 : w.heap.size < W8.heap.size := HS10.out.res.lt
      clear h2
      go_wp2_with fail
      clear q0 q1 q2 q3 q4 q5 q6 q7
      obtain ⟨i0, hi0, hz0, hz1, hz2⟩ := info_parts info_u32
      go_loopw [80] (fun i wr => ∃ (k' : Nat) (fs : List Nat) (vf : Value) (A' : Option Addr) (c' : Nat) (bs' : List Nat), i = .int .i64 k' ∧ k' ≤ n ∧ OrS L rg w wr w.heap.size b3 (wrC ⟨n, fm, sp, c1, s⟩ vf 0) A' c' bs' false ∧ wr.ownsRow W8.heap.size 32 1 vf k' (u32s fs) ∧ rdK k' bs4 = some (fs, bs') ∧ W8.heap.size ≤ wr.heap.size) (fun i _ => n - (intOf i).toNat)
      case atStart => exact ⟨0, [], .slice none 0 0, A4, k4, bs4, rfl, Nat.zero_le _, HS10.out, ⟨rfl, .inl ⟨rfl, rfl⟩⟩, rfl, Nat.le_refl _⟩
      case round =>
       clear HS10
       obtain ⟨k', fs, vf, A', c', bs', rfl, hk', S, O, K, hW8⟩ := hrel
       have HS := Lib.hid S
       have HO := Lib.hid O
       have HK := Lib.hid K
       have hfl := (rdK_len _ _ _ _ K).1
       have hbl : bs'.length ≤ 9000000 := by have := (rdK_len _ _ _ _ K).2.1; omega
       clear S O K
       by_cases hkn : k' < n
       ·have hd : decide ((k' : Int) < (n : Int)) = true := by simp; omega
        go_upto_region 20 with fail
        refine wp_region_U 7 (fun w' => w'.cell? ⟨b3, 6, none⟩ = some vf ∧ True) (by kernel_rfl) ?_
        have hbd : Below wr.heap.size wr wr.drew := ⟨rfl, rfl, rfl, Nat.le_refl _, fun _ _ => rfl⟩
        have HS5 := Lib.hid (HS.out.below hbd)
        have HO5 := Lib.hid (own_sameI HO.out (fun q hq => hbd.block q (HO.out.lt q hq).2))
        have hW5 : W8.heap.size ≤ wr.drew.heap.size := hW8
        clear hbd HS HO hW8
        generalize wr.drew = wq at *
        have hS : wq.cell? ⟨b3, 6, none⟩ = some vf ∧ True := ⟨HS5.out.box.cell 6, trivial⟩
        refine U_read 0 (v := (.pointer (some ⟨b3, 6, none⟩))) rfl (by kernel_rfl) (fun _ _ _ h => h) hS (by rfl) (fun w' hw' => by obtain ⟨h0, h1⟩ := hw'; go_simp) ?_
        try simp only [Act.put, List.setIfInBounds_toArray, List.set_cons_zero, List.set_cons_succ]
        refine U_read 1 (v := vf) rfl (by kernel_rfl) (fun _ _ _ h => h) hS (by rfl) (fun w' hw' => by obtain ⟨h0, h1⟩ := hw'; go_simp) ?_
        try simp only [Act.put, List.setIfInBounds_toArray, List.set_cons_zero, List.set_cons_succ]
        refine U_read 2 (v := (.pointer (some ⟨rg, 0, none⟩))) rfl (by kernel_rfl) (fun _ _ _ h => h) hS (by rfl) (fun w' hw' => by obtain ⟨h0, h1⟩ := hw'; go_simp) ?_
        try simp only [Act.put, List.setIfInBounds_toArray, List.set_cons_zero, List.set_cons_succ]
        refine U_one 3 (by kernel_rfl) rfl rfl (fun K hK => ?_)
        go_simp
        refine (rnumberI_any HS5.out.rd hbl).mono ?_
        rintro e w6 ⟨n6, A6, c6, bs6, bad6, rfl, hn6, R6, F6, D6, -⟩
        have HS6 := Lib.hid (HS5.out.read R6 F6)
        have HO6 := Lib.hid (own_sameI HO5.out (fun q hq => F6.same q (HO5.out.lt q hq).2 (by have := (HO5.out.lt q hq).1; omega)))
        have hW6 : W8.heap.size ≤ w6.heap.size := Nat.le_trans hW5 F6.size
        have HD6 := Lib.hid D6
        clear R6 F6 D6 HS5 HO5 hW5
        have hS6 : w6.cell? ⟨b3, 6, none⟩ = some vf ∧ True := ⟨HS6.out.box.cell 6, trivial⟩
        refine hK _ _ (fun _ => hS6) ?_
        clear hK K
        try simp only [Act.put, List.setIfInBounds_toArray, List.set_cons_zero, List.set_cons_succ]
        refine U_one 4 (by kernel_rfl) rfl rfl (fun K hK => ?_)
        go_simp
        have HS7 := Lib.hid (HS6.out.below ((Below.refl _ _).alloc (Nat.le_refl _) (.cells #[.int .u32 (n6 : Nat)] 32)))
        have HO7 := Lib.hid (own_sameI (w' := w6.alloc (.cells #[.int .u32 (n6 : Nat)] 32)) HO6.out (fun q hq => ((Below.refl w6.heap.size w6).alloc (Nat.le_refl _) (.cells #[.int .u32 (n6 : Nat)] 32)).block q (HO6.out.lt q hq).2))
        have hS7 : (w6.alloc (.cells #[.int .u32 (n6 : Nat)] 32)).cell? ⟨b3, 6, none⟩ = some vf ∧ True := ⟨HS7.out.box.cell 6, trivial⟩
        refine hK _ _ (fun _ => hS7) ?_
        clear hK K
        try simp only [Act.put, List.setIfInBounds_toArray, List.set_cons_zero, List.set_cons_succ]
        refine U_one 5 (by kernel_rfl) rfl rfl (fun K hK => ?_)
        refine wp_append_any _ (.tmp 83) (.tmp 86) _ rfl W8.heap.size 32 i0 _ 1 4 Tryz.underlying84 hi0 hz0 hz1 hz2 rfl (by omega) vf k' (u32s fs) rfl HO7.out (w6.heap.size + 1) (some ⟨w6.heap.size, 0, none⟩) 1 1 (u32s [n6]) rfl ⟨rfl, fun _ => ⟨_, rfl, by simp, cell_one_new _ _ _⟩⟩ (one_u32s _) (by simp only [maxLen]; omega) (by omega) (by simp; omega) ?_
        intro v8 w8' hown8 hg8 hat8
        obtain ⟨g8, c8, rfl, -, -, hge8⟩ := Row.of_any hown8 (by omega)
        have hsame : ∀ q, q < W8.heap.size → w8'.heap[q]? = (w6.alloc (.cells #[.int .u32 (n6 : Nat)] 32)).heap[q]? := fun q hq => hg8.block q (by simp; omega) (fun e => by have := (HO7.out.lt q (by first | exact e | exact e.symm)).1; omega)
        have HS8 := Lib.hid (show OrS L rg w w8' w.heap.size b3 (wrC ⟨n, fm, sp, c1, s⟩ vf 0) A6 c6 bs6 bad6 from
         ⟨⟨HS7.out.rd.box.same (hsame rg (by have := HS7.out.hrg; omega)), HS7.out.rd.cap, HS7.out.rd.rd.keep (fun p hp => World.cell?_of_block (hsame p.block (by have := HS7.out.rd.far; have := HS7.out.hrg; omega))), HS7.out.rd.far, HS7.out.rd.b8⟩, ⟨hg8.os.trans HS7.out.fr.os, hg8.tape.trans HS7.out.fr.tape, hg8.output.trans HS7.out.fr.output, Nat.le_trans HS7.out.fr.size hg8.size, fun q hq hne => (hsame q (by omega)).trans (HS7.out.fr.same q hq hne)⟩, HS7.out.res.same (hsame _ hb28), HS7.out.box.same (hsame _ hb38), HS7.out.h2, HS7.out.h3, HS7.out.ne, HS7.out.hrg⟩)
        have HO8 := Lib.hid hown8
        have hW8' : W8.heap.size ≤ w8'.heap.size := Nat.le_trans (by simp; omega) hg8.size
        clear hown8 hg8 hat8 hsame HS6 HO6 HS7 HO7
        have hS8 : w8'.cell? ⟨b3, 6, none⟩ = some vf ∧ True := ⟨HS8.out.box.cell 6, trivial⟩
        have hcu := hS8.1
        have hfz := HS8.out.box.frozen 6
        refine hK _ _ (fun _ => hS8) ?_
        clear hK K
        try simp only [Act.put, List.setIfInBounds_toArray, List.set_cons_zero, List.set_cons_succ]
        refine U_one 6 (by kernel_rfl) rfl rfl (fun K hK => ?_)
        go_simp
        refine hK _ _ (fun _ => hS8) ?_
        clear hK K
        try simp only [Act.put, List.setIfInBounds_toArray, List.set_cons_zero, List.set_cons_succ]
        refine U_one 7 (by kernel_rfl) rfl rfl (fun K hK => ?_)
        go_simp
        refine hK _ _ (fun h => absurd h (by decide)) ?_
        clear hK K
        try simp only [Act.put, List.setIfInBounds_toArray, List.set_cons_zero, List.set_cons_succ]
        refine U_done (by kernel_rfl) ?_ _
        simp only [Calm, Exit.then]
        have HS9 := Lib.hid (show OrS L rg w (w8'.setCell ⟨b3, 6, none⟩ (.slice (some ⟨g8, 0, none⟩) (k' + 1) c8)) w.heap.size b3 (wrC ⟨n, fm, sp, c1, s⟩ (.slice (some ⟨g8, 0, none⟩) (k' + 1) c8) 0) A6 c6 bs6 bad6 from HS8.out.set 6 (.slice (some ⟨g8, 0, none⟩) (k' + 1) c8))
        have HO9 := Lib.hid (own_sameI (w' := w8'.setCell ⟨b3, 6, none⟩ (.slice (some ⟨g8, 0, none⟩) (k' + 1) c8)) HO8.out (fun q hq => Below.heap_setCell w8' ⟨b3, 6, none⟩ (.slice (some ⟨g8, 0, none⟩) (k' + 1) c8) q (by show q ≠ b3; have := (HO8.out.lt q hq).1; omega)))
        have hW9 : W8.heap.size ≤ (w8'.setCell ⟨b3, 6, none⟩ (.slice (some ⟨g8, 0, none⟩) (k' + 1) c8)).heap.size := by simp [World.setCell]; exact hW8'
        clear HS8 HO8 hW8' hS hS6 hS7 hS8 hcu hfz
        generalize w8'.setCell ⟨b3, 6, none⟩ (.slice (some ⟨g8, 0, none⟩) (k' + 1) c8) = W9 at *
        have r1 := HS9.out.rd.box.cell 1
        cases bad6 with
        | true =>
          have HNO := Lib.hid (show rdObj bs = none from by
           rw [HRD.out]
           unfold rdFs
           rw [if_neg HFM.out]
           have h1 : rdNum bs' = none := by
            cases hh : rdNum bs' with
            | none => rfl
            | some q => have := HD6.out.2 rfl ⟨q, hh⟩; cases this
           have h2 := rdK_snoc _ _ _ _ HK.out
           rw [h1] at h2
           rw [show rdK n bs4 = none from rdK_stop n (k' + 1) bs4 h2 (by omega)])
          clear HD6 HRD HO9 HK r1
          have q0 := HS9.out.box.cell 0
          have q1 := HS9.out.box.cell 1
          have q2 := HS9.out.box.cell 2
          have q3 := HS9.out.box.cell 3
          have q4 := HS9.out.box.cell 4
          have q5 := HS9.out.box.cell 5
          have q6 := HS9.out.box.cell 6
          have q7 := HS9.out.box.cell 7
          unfold wrC at q0 q1 q2 q3 q4 q5 q6 q7
          have z0 := HS9.out.res.frozen 0
          have z1 := HS9.out.res.frozen 1
          have z2 := HS9.out.res.frozen 2
          have z3 := HS9.out.res.frozen 3
          have z4 := HS9.out.res.frozen 4
          have z5 := HS9.out.res.frozen 5
          have z6 := HS9.out.res.frozen 6
          have z7 := HS9.out.res.frozen 7
          have d0 := HS9.out.res.cell 0
          have d1 := HS9.out.res.cell 1
          have d2 := HS9.out.res.cell 2
          have d3 := HS9.out.res.cell 3
          have d4 := HS9.out.res.cell 4
          have d5 := HS9.out.res.cell 5
          have d6 := HS9.out.res.cell 6
          have d7 := HS9.out.res.cell 7
          have r1 := HS9.out.rd.box.cell 1
          obtain ⟨BF, RF, FF⟩ := HS9.out.fin (.int .i64 n) (.int .i64 fm) (.int .i64 sp) (.int .u32 0) (.int .u32 s) (.int .u32 c1) (.slice (some ⟨g8, 0, none⟩) (k' + 1) c8) (.int .i64 0)
          have HBF := Lib.hid BF
          have HRF := Lib.hid RF
          have HFF := Lib.hid FF
          clear BF RF FF
          go_wp2_with fail
          generalize ((((((((W9.setCell ⟨w.heap.size, 0, none⟩ (.int .i64 (n : Int))).setCell ⟨w.heap.size, 1, none⟩ (.int .i64 (fm : Int))).setCell ⟨w.heap.size, 2, none⟩ (.int .i64 (sp : Int))).setCell ⟨w.heap.size, 3, none⟩ (.int .u32 0)).setCell ⟨w.heap.size, 4, none⟩ (.int .u32 (s : Int))).setCell ⟨w.heap.size, 5, none⟩ (.int .u32 (c1 : Int))).setCell ⟨w.heap.size, 6, none⟩ (.slice (some ⟨g8, 0, none⟩) (k' + 1) c8)).setCell ⟨w.heap.size, 7, none⟩ (.int .i64 0)) = WF at *
          clear q0 z0 d0 q1 z1 d1 q2 z2 d2 q3 z3 d3 q4 z4 d4 q5 z5 d5 q6 z6 d6 q7 z7 d7
          have f0 := HBF.out.cell 0
          have f1 := HBF.out.cell 1
          have f2 := HBF.out.cell 2
          have f3 := HBF.out.cell 3
          have f4 := HBF.out.cell 4
          have f5 := HBF.out.cell 5
          have f6 := HBF.out.cell 6
          have f7 := HBF.out.cell 7
          refine bodyPost_ret (v := wrV ⟨n, fm, sp, c1, s⟩ (.slice (some ⟨g8, 0, none⟩) (k' + 1) c8) 0) (by simp [results, Tryz.results198, go_sem, wrV, wrC, f0, f1, f2, f3, f4, f5, f6, f7]) rfl ?_
          exact ⟨_, _, _, _, true, rfl, ⟨_, _, _, _, rfl⟩, HRF.out, HFF.out, fun _ => HNO.out, fun h => by cases h⟩
        | false =>
          have hnum := (HD6.out.1 rfl).2
          have h2 := rdK_snoc _ _ _ _ HK.out
          rw [hnum] at h2
          have HK9 := Lib.hid h2
          have e9 : u32s fs ++ u32s [n6] = u32s (fs ++ [n6]) := by unfold u32s; rw [List.map_append]
          have ho9 := HO9.out
          rw [e9] at ho9
          have HO10 := Lib.hid ho9
          clear hnum h2 HD6 HK HO9 e9 ho9
          go_wp2_with fail
          go_roundw
          case rel => exact ⟨k' + 1, fs ++ [n6], _, A6, c6, bs6, by go_num, by omega, HS9.out, HO10.out, HK9.out, hW9⟩
          case measure => simp [intOf]; omega
       ·obtain rfl : n = k' := by omega
        have hd : decide ((n : Int) < (n : Int)) = false := by simp
        obtain ⟨AF, cF, rfl, hrF⟩ := own_sliceI HO.out
        have hneF : 0 < n → ∀ a, AF = some a → a.block ≠ w.heap.size := fun _ a ha e => by have := (HO.out.lt a.block (by rw [ha]; rfl)).1; omega
        have HRF1 := Lib.hid (show rdObj bs = some (⟨⟨n, fm, sp, c1, s⟩, fs⟩, bs') from by
         rw [HRD.out]; unfold rdFs; rw [if_neg HFM.out]; rw [show rdK (⟨n, fm, sp, c1, s⟩ : Hd).size bs4 = some (fs, bs') from HK.out])
        have HR8 := Lib.hid (reads8 (g := w.heap.size) hrF hneF (.int .i64 n) (.int .i64 fm) (.int .i64 sp) (.int .u32 0) (.int .u32 s) (.int .u32 c1) (.slice AF n cF) (.int .i64 0))
        have HFL := Lib.hid hfl
        have HNW := Lib.hid (show ∀ a, AF = some a → w.heap.size ≤ a.block from fun a ha => by have := (HO.out.lt a.block (by rw [ha]; rfl)).1; omega)
        clear hrF HRD HK HO hfl hk' hkn
        have q0 := HS.out.box.cell 0
        have q1 := HS.out.box.cell 1
        have q2 := HS.out.box.cell 2
        have q3 := HS.out.box.cell 3
        have q4 := HS.out.box.cell 4
        have q5 := HS.out.box.cell 5
        have q6 := HS.out.box.cell 6
        have q7 := HS.out.box.cell 7
        unfold wrC at q0 q1 q2 q3 q4 q5 q6 q7
        have z0 := HS.out.res.frozen 0
        have z1 := HS.out.res.frozen 1
        have z2 := HS.out.res.frozen 2
        have z3 := HS.out.res.frozen 3
        have z4 := HS.out.res.frozen 4
        have z5 := HS.out.res.frozen 5
        have z6 := HS.out.res.frozen 6
        have z7 := HS.out.res.frozen 7
        have d0 := HS.out.res.cell 0
        have d1 := HS.out.res.cell 1
        have d2 := HS.out.res.cell 2
        have d3 := HS.out.res.cell 3
        have d4 := HS.out.res.cell 4
        have d5 := HS.out.res.cell 5
        have d6 := HS.out.res.cell 6
        have d7 := HS.out.res.cell 7
        have r1 := HS.out.rd.box.cell 1
        obtain ⟨BF, RF, FF⟩ := HS.out.fin (.int .i64 n) (.int .i64 fm) (.int .i64 sp) (.int .u32 0) (.int .u32 s) (.int .u32 c1) (.slice AF n cF) (.int .i64 0)
        have HBF := Lib.hid BF
        have HRF := Lib.hid RF
        have HFF := Lib.hid FF
        clear BF RF FF
        go_wp2_with fail
        generalize ((((((((wr.setCell ⟨w.heap.size, 0, none⟩ (.int .i64 (n : Int))).setCell ⟨w.heap.size, 1, none⟩ (.int .i64 (fm : Int))).setCell ⟨w.heap.size, 2, none⟩ (.int .i64 (sp : Int))).setCell ⟨w.heap.size, 3, none⟩ (.int .u32 0)).setCell ⟨w.heap.size, 4, none⟩ (.int .u32 (s : Int))).setCell ⟨w.heap.size, 5, none⟩ (.int .u32 (c1 : Int))).setCell ⟨w.heap.size, 6, none⟩ (.slice AF n cF)).setCell ⟨w.heap.size, 7, none⟩ (.int .i64 0)) = WF at *
        clear q0 z0 d0 q1 z1 d1 q2 z2 d2 q3 z3 d3 q4 z4 d4 q5 z5 d5 q6 z6 d6 q7 z7 d7
        have f0 := HBF.out.cell 0
        have f1 := HBF.out.cell 1
        have f2 := HBF.out.cell 2
        have f3 := HBF.out.cell 3
        have f4 := HBF.out.cell 4
        have f5 := HBF.out.cell 5
        have f6 := HBF.out.cell 6
        have f7 := HBF.out.cell 7
        refine bodyPost_ret (v := wrV ⟨n, fm, sp, c1, s⟩ (.slice AF n cF) 0) (by simp [results, Tryz.results198, go_sem, wrV, wrC, f0, f1, f2, f3, f4, f5, f6, f7]) rfl ?_
        exact ⟨_, _, _, _, false, rfl, ⟨_, _, _, _, rfl⟩, HRF.out, HFF.out, fun h => (by cases h), fun _ => ⟨_, HRF1.out, AF, cF, by rw [HFL.out], by rw [HFL.out]; exact HR8.out, fun a ha => HNW.out a ha⟩⟩
  ·have hno : okB ⟨n, fm, sp, c1, s⟩ = false := by simpa using hok
   have HNO := Lib.hid (show rdObj bs = none from rdObj_no (by
    cases d4 with
    | true => exact HD4.out.1 rfl
    | false => rw [HD4.out.2 rfl, hno]; rfl))
   have hno0 : okB ⟨n, fm, sp, 0, s⟩ = false := hno
   clear hno hok
   have q0 := HS9.out.box.cell 0
   have q1 := HS9.out.box.cell 1
   have q2 := HS9.out.box.cell 2
   have q3 := HS9.out.box.cell 3
   have q4 := HS9.out.box.cell 4
   unfold wrC at q0 q1 q2 q3 q4
   have HPK := Lib.hid (PackNo_any ⟨n, fm, sp, 0, s⟩ hn3 hfm hsp' (show (0 : Nat) < 4294967296 by omega) hs4 (hno0) W7 (HS9.out.spares hs hsp))
   go_wp2_with fail
   refine HPK.out.mono ?_
   rintro e w8 ⟨rfl, hb8⟩
   have HS10 := Lib.hid ((HS9.out.below hb8).below ((Below.refl _ _).alloc (Nat.le_refl _) (.cells #[.int .u32 0, .int .u32 0, .int .u32 0] 248)))
   clear HPK HS9 hb8 q0 q1 q2 q3 q4
   go_upto_region 10 with fail
   generalize w8.alloc (.cells #[.int .u32 0, .int .u32 0, .int .u32 0] 248) = W8 at *
   have y1 := HS10.out.rd.box.frozen 1
   have q1 := HS10.out.rd.box.cell 1
   have HS11 := Lib.hid (HS10.out.bad_)
   clear HS10
   go_upto_region 12 with fail
   generalize W8.setCell ⟨rg, 1, none⟩ (.bool true) = W9 at *
   clear y1 q1
   have q0 := HS11.out.box.cell 0
   have q1 := HS11.out.box.cell 1
   have q2 := HS11.out.box.cell 2
   have q3 := HS11.out.box.cell 3
   have q4 := HS11.out.box.cell 4
   have q5 := HS11.out.box.cell 5
   have q6 := HS11.out.box.cell 6
   have q7 := HS11.out.box.cell 7
   unfold wrC at q0 q1 q2 q3 q4 q5 q6 q7
   have z0 := HS11.out.res.frozen 0
   have z1 := HS11.out.res.frozen 1
   have z2 := HS11.out.res.frozen 2
   have z3 := HS11.out.res.frozen 3
   have z4 := HS11.out.res.frozen 4
   have z5 := HS11.out.res.frozen 5
   have z6 := HS11.out.res.frozen 6
   have z7 := HS11.out.res.frozen 7
   have d0 := HS11.out.res.cell 0
   have d1 := HS11.out.res.cell 1
   have d2 := HS11.out.res.cell 2
   have d3 := HS11.out.res.cell 3
   have d4 := HS11.out.res.cell 4
   have d5 := HS11.out.res.cell 5
   have d6 := HS11.out.res.cell 6
   have d7 := HS11.out.res.cell 7
   have r1 := HS11.out.rd.box.cell 1
   obtain ⟨BF, RF, FF⟩ := HS11.out.fin (.int .i64 n) (.int .i64 fm) (.int .i64 sp) (.int .u32 0) (.int .u32 s) (.int .u32 c1) (.slice none 0 0) (.int .i64 0)
   have HBF := Lib.hid BF
   have HRF := Lib.hid RF
   have HFF := Lib.hid FF
   clear BF RF FF
   go_wp2_with fail
   generalize ((((((((W9.setCell ⟨w.heap.size, 0, none⟩ (.int .i64 (n : Int))).setCell ⟨w.heap.size, 1, none⟩ (.int .i64 (fm : Int))).setCell ⟨w.heap.size, 2, none⟩ (.int .i64 (sp : Int))).setCell ⟨w.heap.size, 3, none⟩ (.int .u32 0)).setCell ⟨w.heap.size, 4, none⟩ (.int .u32 (s : Int))).setCell ⟨w.heap.size, 5, none⟩ (.int .u32 (c1 : Int))).setCell ⟨w.heap.size, 6, none⟩ (.slice none 0 0)).setCell ⟨w.heap.size, 7, none⟩ (.int .i64 0)) = WF at *
   clear q0 z0 d0 q1 z1 d1 q2 z2 d2 q3 z3 d3 q4 z4 d4 q5 z5 d5 q6 z6 d6 q7 z7 d7
   have f0 := HBF.out.cell 0
   have f1 := HBF.out.cell 1
   have f2 := HBF.out.cell 2
   have f3 := HBF.out.cell 3
   have f4 := HBF.out.cell 4
   have f5 := HBF.out.cell 5
   have f6 := HBF.out.cell 6
   have f7 := HBF.out.cell 7
   refine bodyPost_ret (v := wrV ⟨n, fm, sp, c1, s⟩ (.slice none 0 0) 0) (by simp [results, Tryz.results198, go_sem, wrV, wrC, f0, f1, f2, f3, f4, f5, f6, f7]) rfl ?_
   exact ⟨_, _, _, _, true, rfl, ⟨_, _, _, _, rfl⟩, HRF.out, HFF.out, fun _ => HNO.out, fun h => by cases h⟩
end
section
open Go.RowKit
theorem u8c_getI {l : List Nat} {k : Nat} (h : k < l.length) : (u8c l)[k]? = some (.int .u8 (l.getD k 0 : Nat)) := by
 unfold u8c
 rw [List.getElem?_map, List.getElem?_eq_getElem h, List.getD_eq_getElem?_getD, List.getElem?_eq_getElem h]
 rfl
set_option maxHeartbeats 1000000 in
theorem equal_u8 (A A' : Option Addr) (n n' c c' : Nat) (xs ys : List Nat) (w : World) (hn : n ≤ 9223372036854775807) (hn' : n' ≤ 9223372036854775807) (hr : Reads w w.heap.size 1 A n (u8c xs)) (hr' : Reads w w.heap.size 1 A' n' (u8c ys)) :
 Calls Tryz.prog 250 #[.slice A n c, .slice A' n' c'] w fun e w' => e = .returned (.bool (sameL xs ys)) ∧ ∃ m, w' = w.drewN m := by
 have hl : xs.length = n := by have := hr.1; rw [u8c_len] at this; omega
 have hl' : ys.length = n' := by have := hr'.1; rw [u8c_len] at this; omega
 have HL := Lib.hid hl; have HL' := Lib.hid hl'
 clear hl hl'
 have HR := Lib.hid hr; have HR' := Lib.hid hr'
 clear hr hr'
 by_cases hnn : n = n'
 ·subst hnn
  go_enter Tryz.func250, Tryz.ntmps250
  go_wp2_with fail
  go_loopw [13] (fun i wr => ∃ k : Nat, k ≤ n ∧ i = .int .i64 k ∧ xs.take k = ys.take k ∧ ∃ m, wr = w.drewN m) (fun i _ => n - (intOf i).toNat)
  case atStart => exact ⟨0, by omega, rfl, rfl, 0, rfl⟩
  case round =>
   obtain ⟨k, hk, rfl, ht, m, rfl⟩ := hrel
   have HT := Lib.hid ht; clear ht
   by_cases hlt : k < n
   ·have hx : k < xs.length := by rw [HL.out]; exact hlt
    have hy : k < ys.length := by rw [HL'.out]; exact hlt
    obtain ⟨ad, u, rfl, hbl, hu, hc⟩ := HR.out.at_ hlt
    obtain ⟨ad', u', rfl, hbl', hu', hc'⟩ := HR'.out.at_ hlt
    rw [u8c_getI hx] at hu
    rw [u8c_getI hy] at hu'
    injection hu with hu
    injection hu' with hu'
    subst hu hu'
    have HX := Lib.hid hx; have HY := Lib.hid hy
    clear hx hy
    by_cases he : xs.getD k 0 = ys.getD k 0
    ·have HE := Lib.hid (take_eq_succ HX.out HY.out he HT.out)
     have hv : ((xs.getD k 0 : Int) != (ys.getD k 0 : Int)) = false := by rw [he]; simp
     clear he
     generalize xs.getD k 0 = x at *
     generalize ys.getD k 0 = y at *
     go_wp2_with fail
     go_region
     all_goals go_wp2_with fail
     all_goals go_roundw
     case rel => exact ⟨k + 1, by omega, by go_num, HE.out, m + 1, rfl⟩
     case measure => simp [intOf]; omega
    ·have HE := Lib.hid (sameL_at HX.out HY.out he)
     have hv : ((xs.getD k 0 : Int) != (ys.getD k 0 : Int)) = true := by rw [bne_iff_ne]; omega
     clear he
     generalize xs.getD k 0 = x at *
     generalize ys.getD k 0 = y at *
     go_wp2_with fail
     go_region
     all_goals go_wp2_with fail
     all_goals go_ret
     all_goals exact ⟨by rw [HE.out]; rfl, m + 1, rfl⟩
   ·obtain rfl : k = n := by omega
    have HA := Lib.hid (sameL_all HL.out HL'.out HT.out)
    go_wp2_with fail
    go_ret
    exact ⟨by rw [HA.out]; rfl, m, rfl⟩
 ·have HF := Lib.hid (sameL_len (xs := xs) (ys := ys) (by rw [HL.out, HL'.out]; exact hnn))
  have hv : ((n : Int) != (n' : Int)) = true := by simp; omega
  clear hnn
  go_enter Tryz.func250, Tryz.ntmps250
  go_wp2_with fail
  go_ret
  exact ⟨by rw [HF.out]; rfl, 0, rfl⟩
end
section
open Go.RowKit
attribute [local go_sem] Oper.semAt_some
section
variable {w wi w' : World} {B : Nat} {v vi : Value} {bs cs ds : List Nat} {e : Ending}
theorem BytesB.refl (ho : w.ownsRow B 5 1 v bs.length (u8c bs)) : BytesB B v bs [] w (.returned v) w :=
 ⟨v, rfl, by simpa using ho, Nat.le_refl _, rfl, rfl, rfl, fun _ _ _ => rfl, fun k hk => .inl hk⟩
theorem BytesB.own (h : BytesB B v bs cs w (.returned vi) wi) : wi.ownsRow B 5 1 vi (bs ++ cs).length (u8c (bs ++ cs)) := by
 obtain ⟨b', hb', h0, _⟩ := h
 injection hb' with hb'
 subst hb'
 exact h0
theorem BytesB.size (h : BytesB B v bs cs w (.returned vi) wi) : w.heap.size ≤ wi.heap.size := by
 obtain ⟨b', hb', h0, h1, _⟩ := h
 exact h1
theorem BytesB.below (h : BytesB B v bs cs w (.returned vi) wi) (hb : Below wi.heap.size wi w') : BytesB B v bs cs w (.returned vi) w' := by
 obtain ⟨b', hb', h0, h1, h2, h3, h4, h5, h6⟩ := h
 injection hb' with hb'
 subst hb'
 refine ⟨vi, rfl, own_sameI h0 (fun k hk => hb.block k (h0.lt k hk).2), Nat.le_trans h1 hb.size, hb.os.trans h2, hb.tape.trans h3, hb.output.trans h4, fun k hk hne => (hb.block k (by omega)).trans (h5 k hk hne), fun k hk => h6 k hk⟩
theorem BytesB.trans (h : BytesB B v bs cs w (.returned vi) wi) (k : BytesB B vi (bs ++ cs) ds wi e w') : BytesB B v bs (cs ++ ds) w e w' := by
 obtain ⟨b', hb', h0, h1, h2, h3, h4, h5, h6⟩ := h
 injection hb' with hb'
 subst hb'
 obtain ⟨v2, rfl, k0, k1, k2, k3, k4, k5, k6⟩ := k
 refine ⟨v2, rfl, by rw [← List.append_assoc]; exact k0, Nat.le_trans h1 k1, k2.trans h2, k3.trans h3, k4.trans h4, fun i hi hne => ?_, fun i hi => ?_⟩
 ·refine (k5 i (by omega) (fun e => ?_)).trans (h5 i hi hne)
  rcases h6 i e with g | g
  ·exact hne g
  ·omega
 ·rcases k6 i hi with g | g
  ·exact h6 i g
  ·exact .inr (by omega)
theorem BytesB.reads {A : Option Addr} {n : Nat} {xs : List Value} (h : BytesB B v bs cs w (.returned vi) wi) (hr : Reads w w.heap.size 1 A n xs) (hne : 0 < n → ∀ a, A = some a → v.ownBlock ≠ some a.block) : Reads wi wi.heap.size 1 A n xs := by
 obtain ⟨b', hb', h0, h1, h2, h3, h4, h5, h6⟩ := h
 refine ⟨hr.1, fun hn => ?_⟩
 obtain ⟨a, ha, hlt, hc⟩ := hr.2 hn
 refine ⟨a, ha, Nat.lt_of_lt_of_le hlt h1, fun j u hu => ?_⟩
 have hb := h5 a.block hlt (hne hn a ha)
 exact (World.cell?_of_block (a := a.add j) (by rw [block_of_add]; exact hb)).trans (hc j u hu)
theorem BytesB.blk {g : Nat} {t : TypeId} {c : Array Value} (h : BytesB B v bs cs w (.returned vi) wi) (b : Blk w g t c) (hne : v.ownBlock ≠ some g) : Blk wi g t c := by
 obtain ⟨b', hb', h0, h1, h2, h3, h4, h5, h6⟩ := h
 exact b.same (h5 g b.lt hne)
theorem wpList_app_BB {ops : Array Oper} {rest : List Oper} {o : Oper} {a : Act} {Q : Exit → Act → World → Prop} {w0 : World} {m c : Nat} {A : Option Addr} (s x : Operand)
 (S : BytesB B v bs cs w (.returned vi) wi) (hb : Below wi.heap.size wi w0) (hB : B ≤ w.heap.size) (hr : Reads w0 w0.heap.size 1 A m (u8c ds)) (hs : a.eval s = vi) (hx : a.eval x = .slice A m c) (hn : (bs ++ cs).length + m ≤ 100000000000000)
 (ho : o.op = .call { callee := .builtin .append, args := #[s, x], argTypes := #[22, 22] }) (hgd : o.guard = none)
 (h : ∀ v' w', BytesB B v bs (cs ++ ds) w (.returned v') w' → wpList Tryz.prog ops Q rest (a.put o.dst v') w') : wpList Tryz.prog ops Q (o :: rest) a w0 := by
 obtain ⟨i0, hi0, hz0, hz1, hz2⟩ := info_parts info_u8
 have hm : ds.length = m := by have := hr.1; rw [u8c_len, Nat.mul_one] at this; exact this
 have hown := S.own
 have hsz := S.size
 refine wpList_append_any _ hgd s x _ ho B 5 i0 _ 1 1 Tryz.underlying22 hi0 hz0 hz1 hz2 rfl (by omega) vi (bs ++ cs).length (u8c (bs ++ cs)) hs (own_sameI hown (fun k hk => hb.block k (hown.lt k hk).2)) w0.heap.size A m c (u8c ds) hx hr (one_u8c _) (by simp only [maxLen]; omega) (by omega) (by have := hb.size; omega) ?_
 intro v4 w4 hown4 hgrow4 hat4
 exact h _ _ (S.app hb (by rw [hm]; exact hown4) hgrow4 hat4)
end
theorem RB.one (w : World) (x : Nat) : RB w (w.alloc (.cells #[.int .u8 (x : Int)] 5)) w.heap.size (.slice (some ⟨w.heap.size, 0, none⟩) 1 1) [x] :=
 RB.new (own_new8 w [x] 1 rfl (by decide)) ((Below.refl _ _).alloc (Nat.le_refl _) _) (Below.refl _ _)
theorem four4_len (x : Nat) : (four4 x).length = 4 := rfl
set_option maxRecDepth 100000 in
set_option maxHeartbeats 4000000 in
theorem rsection_any {w : World} {B : Nat} {v : Value} {bs : List Nat} (hown : w.ownsRow B 5 1 v bs.length (u8c bs)) (hB : B ≤ w.heap.size) (hn : bs.length ≤ 1000000000000) (tag : Nat) (ht : tag < 256)
 {A : Option Addr} {n c : Nat} {p : List Nat} (hr : Reads w w.heap.size 1 A n (u8c p)) (hp : n < 4294967296) (hb8 : ∀ x ∈ p, x < 256) (hne : 0 < n → ∀ a, A = some a → v.ownBlock ≠ some a.block) :
 Calls Tryz.prog 69 #[v, .int .u8 tag, .slice A n c] w (BytesB B v bs (secI tag p) w) := by
 have hpl : p.length = n := by have := hr.1; rw [u8c_len, Nat.mul_one] at this; exact this
 have hc5 := cnt7I_len5 hp
 have HE := Lib.hid (show secI tag p = ([] ++ [tag] ++ cnt7 n ++ p) ++ four4 (sumN (tag :: p)) by unfold secI; rw [hpl]; simp only [List.nil_append, List.append_assoc])
 have HS0 := Lib.hid (BytesB.refl hown)
 have HR := Lib.hid hr
 have HNE := Lib.hid hne
 have h8 : ∀ x ∈ tag :: p, x < 256 := fun x hx => by rcases List.mem_cons.1 hx with rfl | hx; exact ht; exact hb8 x hx
 obtain ⟨hs1, hs2⟩ := sumN_eq h8
 have HSM := Lib.hid (fun (A' : Option Addr) (c' : Nat) (w' : World) (hr' : Reads w' w'.heap.size 1 A' (n + 1) (u8c (tag :: p))) => refSum_any A' (n + 1) c' w'.heap.size (tag :: p) w' (by omega) hr' h8)
 rw [hs1] at HSM
 have hwn : IntKind.u32.wrap (n : Int) = (n : Int) := by show (n : Int) % 4294967296 = _; omega
 have HPL := Lib.hid hpl
 have HC5 := Lib.hid hc5
 clear hr hown hne h8 hs1 hpl hc5 hb8
 go_enter Tryz.func69, Tryz.ntmps69
 go_wp2_with (at_builtin; refine wpList_app_BB (.tmp 7) (.tmp 9) HS0.out ((Below.refl _ _).alloc (Nat.le_refl _) _) hB (reads_one w tag) rfl rfl (by simp only [List.append_nil]; omega) rfl rfl ?_; intro v1 w1 S1; have HS1 := Lib.hid S1; clear S1 HS0)
 have hsz1 := HS1.out.size
 refine (rnumber_any HS1.out.own (by omega) (by simp; omega) n hp).mono ?_
 rintro e w2 hB2
 obtain ⟨v2, rfl, _⟩ := id hB2
 have HS2 := Lib.hid (HS1.out.trans hB2)
 have HR2 := Lib.hid (HS2.out.reads HR.out HNE.out)
 clear hB2 HS1 hsz1
 go_wp2_with (first | (at_builtin; refine wpList_app_BB (.tmp 16) (.tmp 17) HS2.out (Below.refl _ _) hB HR2.out rfl rfl (by have := HC5.out; simp; omega) rfl rfl ?_; intro v3 w3 S3; have HS3 := Lib.hid S3; have HR3 := Lib.hid (S3.reads HR.out HNE.out); clear S3 HR2 HS2) | (at_builtin; refine wpList_app_RB (.tmp 21) (.tmp 22) (RB.one w3 tag) ((HR3.out.below ((Below.refl _ _).alloc (Nat.le_refl _) (.cells #[.int .u8 (tag : Int)] 5))).more (by simp)) rfl rfl (by simp; omega) rfl rfl ?_; intro v4 w4 C4 hg4; clear hg4; have HC4 := Lib.hid C4; clear C4))
 obtain ⟨A4, c4, rfl, hr4⟩ := HC4.out.reads
 have hr4' : Reads w4 w4.heap.size 1 A4 (n + 1) (u8c (tag :: p)) := by
  have e := HPL.out
  simp only [List.length_append, List.length_cons, List.length_nil, e] at hr4
  rw [Nat.add_comm] at hr4
  exact hr4
 have HM := Lib.hid (HSM.out A4 c4 w4 hr4')
 have HBW := Lib.hid HC4.out.base
 have e4 : ([tag] ++ p).length = n + 1 := by rw [List.length_append, HPL.out]; simp; omega
 rw [e4]
 clear hr4 hr4' HC4 HSM e4
 refine HM.out.mono ?_
 rintro e w5 ⟨rfl, rfl⟩
 have HS5 := Lib.hid (HS3.out.below HBW.out)
 have hsz5 := HS5.out.size
 go_wp2_with fail
 refine (rfour_any HS5.out.own (by omega) (by have := HC5.out; have := HPL.out; simp; omega) (sumN (tag :: p)) hs2).mono ?_
 rintro e w6 hB6
 have HS6 := Lib.hid (HS5.out.trans hB6)
 obtain ⟨v6, rfl, _⟩ := hB6
 have hfin := HS6.out
 rw [← HE.out] at hfin
 clear HS5 HS6
 go_wp2_with fail
 go_ret
 exact hfin
end
end Go.Proofs.YtlkahgagmfhdaaaGreatDoor
