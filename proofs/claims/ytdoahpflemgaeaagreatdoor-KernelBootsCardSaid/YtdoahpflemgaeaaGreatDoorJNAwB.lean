import Derived.Test.YtdoahpflemgaeaaGreatDoorJLive
import Derived.Test.YtdoahpflemgaeaaGreatDoorJNTxt
import Derived.Test.YtdoahpflemgaeaaGreatDoorJUntil
set_option linter.unusedVariables false
set_option linter.unusedSimpArgs false
set_option linter.unusedSectionVars false
namespace Go.Proofs.YtdoahpflemgaeaaGreatDoor
section
open Go.RowKit
attribute [local go_sem] Oper.semAt_some
def HM.metaK (h:HM) (o:Nat):Bool:=decide (h.isE o=0) && (h.isB (h.hdO o).cls && decide ((h.hdO o).cls=h.rt 12))
def HM.isClsK (h:HM) (o:Nat):Bool:= !h.bareK && (decide (h.isE o=0) && (h.metaK o || h.metaK (h.hdO o).cls))
theorem cls_lt {h:HM} (f:h.Fit) (o:Nat):(h.hdO o).cls<4294967296:=by
 unfold HM.hdO
 split
 ·exact (h.hd_fit f (o / 2)).cls
 ·decide
def BytS (h:HM) (o:Nat) (w:World) (e:Ending) (w':World):Prop:=
 ∃ A n c,e = .returned (.tuple #[.slice A n c,.int .i64 (h.bytesE o:Nat)])∧Below w.heap.size w w'∧(h.bytesE o=0→(convert 56 9 (.slice A n c)).run Tryz.prog w' = .ok (.string (txS (h.bodyK o))) w')
theorem bytesE_zero {h:HM} {o:Nat} (h0:h.bytesE o=0):h.isB o=true∧(h.hd (o / 2)).fmt=2:=by
 unfold HM.bytesE at h0
 cases hi:h.isB o with
 | false=>rw [hi] at h0; simp at h0
 | true=>
   rw [hi] at h0
   by_cases hf:(h.hd (o / 2)).fmt=2
   ·exact ⟨rfl,hf⟩
   ·rw [if_neg hf] at h0; simp at h0
section
variable {W w:World} {p:HP} {g:Nat} {h:HM} (L:Live W w p g h)
include L
theorem kbytes_any (o:Nat) (ho:o<4294967296):Calls Tryz.prog 78 #[.pointer (some ⟨g,0,none⟩),.int .u32 o] w (BytS h o w):=by
 obtain⟨l,G⟩:=L.good
 refine (L.bytes o ho).mono ?_
 rintro e w1 ⟨hb,hc⟩
 by_cases h0:h.bytesE o=0
 ·rw [if_pos h0] at hc
  obtain⟨g1,c1,rfl,r1,hg1⟩:=hc
  obtain⟨hi,hf⟩:=bytesE_zero h0
  obtain⟨-,hb2,hn⟩:=good_body G hi hf
  refine⟨_,_,_,by rw [h0]; rfl,hb,fun _=>?_⟩
  have hbl:(h.bodyK o).length=(h.hd (o / 2)).len:=by rw [body_len,hn]
  rw [← hbl]
  refine conv_txA (body_lt h o) (fun j hj=>?_)
  rw [WideShapes.add_plain,Nat.zero_add]
  refine r1.cell ?_
  unfold u8c
  have hbj:(bytesM (h.fields o))[j]? = some (h.bodyK o)[j]:=by
   have:((bytesM (h.fields o)).take (h.hd (o / 2)).len)[j]? = (h.bodyK o)[j]? :=by rw [hb2]
   rw [List.getElem?_take,if_pos (by omega)] at this
   rw [this,List.getElem?_eq_getElem hj]
  rw [List.getElem?_map,hbj]
  rfl
 ·rw [if_neg h0] at hc
  subst hc
  exact⟨none,0,0,rfl,hb,fun q=>absurd q h0⟩
set_option maxHeartbeats 4000000 in
theorem kmeta_any (o:Nat) (ho:o<4294967296):Calls Tryz.prog 152 #[.pointer (some ⟨g,0,none⟩),.int .u32 o] w (Told (.bool (h.metaK o)) w):=by
 have HH:=Lib.hid (L.header o ho)
 have hcl:=cls_lt L.fit o
 have HI:=Lib.hid (fun (w1:World) (hb:Below w.heap.size w w1)=>(L.after hb).is _ hcl)
 have HR:=Lib.hid (fun (w1:World) (hb:Below w.heap.size w w1)=>kroot_any (L.after hb) 12)
 have hr:h.rootN 12=h.rt 12:=rootN_rt h (i:=12) (by omega)
 rw [hr] at HR
 clear L hr
 unfold HM.metaK
 generalize h.isE o=E at *
 generalize h.hdO o=x at *
 obtain⟨sz,fm,sp,cl,se⟩:=x
 simp only at HI hcl ⊢
 generalize h.rt 12=r12 at *
 go_enter Tryz.func152,Tryz.ntmps152
 go_wp2_with fail
 refine HH.out.mono ?_
 rintro e w1 ⟨rfl,hb1⟩
 have hb2:=hb1.alloc hb1.size (.cells #[.int .i64 sz,.int .i64 fm,.int .i64 sp,.int .u32 cl,.int .u32 se] 137)
 have k:=Blk.new w1 137 #[.int .i64 sz,.int .i64 fm,.int .i64 sp,.int .u32 cl,.int .u32 se]
 unfold Hd.val
 go_upto_region 2 with fail
 generalize w1.alloc (.cells #[.int .i64 sz,.int .i64 fm,.int .i64 sp,.int .u32 cl,.int .u32 se] 137)=w2 at *
 have hB0:Below w.heap.size w w2.drew:=below_top hb2 (below_drew (Below.refl _ _))
 have HB:=Lib.hid hB0
 have hS0:∀ w',Below w2.heap.size w2 w'→w'.cell? ⟨w1.heap.size,3,none⟩=some (.int .u32 (cl:Nat))∧True:=fun w' hb=>⟨(k.below hb k.lt).cell 3,trivial⟩
 have hS0:=fun (w':World) (_:Below w.heap.size w w')=>hS0 _ (below_drew (Below.refl _ _):Below w2.heap.size w2 w2.drew)
 clear HH hb1 hb2 k
 --META
 by_cases h1:E=0
 ·subst h1
  cases hbc:h.isB cl with
  | false=>
    rw [hbc] at HI
    have HBC:=Lib.hid hbc; clear hbc
    refine wp_region_U 15 (fun w'=>w'.cell? ⟨w1.heap.size,3,none⟩=some (.int .u32 (cl:Nat))∧True) (by kernel_rfl) ?_
    have hS:=hS0 _ hB0
    refine U_readC 0 [1,2,7,8,14,15] (v:=(.int .i64 0)) rfl (by kernel_rfl) (fun _ _ _ h=>h) hS (by kernel_rfl) (fun w' hw'=>by obtain⟨h0,h1⟩:=hw'; go_simp) ?_
    try simp only [Act.put,List.setIfInBounds_toArray,List.set_cons_zero,List.set_cons_succ]
    refine U_readC 1 [2,7,8,14,15] (v:=(.bool true)) rfl (by kernel_rfl) (fun _ _ _ h=>h) hS (by kernel_rfl) (fun w' hw'=>by obtain⟨h0,h1⟩:=hw'; go_simp) ?_
    try simp only [Act.put,List.setIfInBounds_toArray,List.set_cons_zero,List.set_cons_succ]
    refine U_readC 2 [7,8,14,15] (v:=(.bool true)) rfl (by kernel_rfl) (fun _ _ _ h=>h) hS (by kernel_rfl) (fun w' hw'=>by obtain⟨h0,h1⟩:=hw'; go_simp) ?_
    try simp only [Act.put,List.setIfInBounds_toArray,List.set_cons_zero,List.set_cons_succ]
    refine U_readC 3 [6,7,8,14,15] (v:=(.pointer (some ⟨g,0,none⟩))) rfl (by kernel_rfl) (fun _ _ _ h=>h) hS (by kernel_rfl) (fun w' hw'=>by obtain⟨h0,h1⟩:=hw'; go_simp) ?_
    try simp only [Act.put,List.setIfInBounds_toArray,List.set_cons_zero,List.set_cons_succ]
    refine U_readC 4 [5,6,7,8,14,15] (v:=(.pointer (some ⟨w1.heap.size,3,none⟩))) rfl (by kernel_rfl) (fun _ _ _ h=>h) hS (by kernel_rfl) (fun w' hw'=>by obtain⟨h0,h1⟩:=hw'; go_simp) ?_
    try simp only [Act.put,List.setIfInBounds_toArray,List.set_cons_zero,List.set_cons_succ]
    refine U_readC 5 [6,7,8,14,15] (v:=(.int .u32 (cl:Nat))) rfl (by kernel_rfl) (fun _ _ _ h=>h) hS (by kernel_rfl) (fun w' hw'=>by obtain⟨h0,h1⟩:=hw'; go_simp) ?_
    try simp only [Act.put,List.setIfInBounds_toArray,List.set_cons_zero,List.set_cons_succ]
    refine U_oneG 6 (by kernel_rfl) rfl (by kernel_rfl) (fun K hK=>?_)
    go_simp
    refine (HI.out _ hB0).mono ?_
    rintro e w3 ⟨rfl,rfl⟩
    refine hK _ _ (fun _=>hS) ?_
    clear hK K
    try simp only [Act.put,List.setIfInBounds_toArray,List.set_cons_zero,List.set_cons_succ]
    refine U_readC 7 [8,14,15] (v:=(.bool false)) rfl (by kernel_rfl) (fun _ _ _ h=>h) hS (by kernel_rfl) (fun w' hw'=>by obtain⟨h0,h1⟩:=hw'; go_simp) ?_
    try simp only [Act.put,List.setIfInBounds_toArray,List.set_cons_zero,List.set_cons_succ]
    refine U_readC 8 [14,15] (v:=(.bool false)) rfl (by kernel_rfl) (fun _ _ _ h=>h) hS (by kernel_rfl) (fun w' hw'=>by obtain⟨h0,h1⟩:=hw'; go_simp) ?_
    try simp only [Act.put,List.setIfInBounds_toArray,List.set_cons_zero,List.set_cons_succ]
    refine U_skipG 9 [10,13,14,15] rfl (by kernel_rfl) (fun _ _ _ h=>h) hS (by kernel_rfl) ?_
    try simp only [Act.put,List.setIfInBounds_toArray,List.set_cons_zero,List.set_cons_succ]
    refine U_skipG 10 [13,14,15] rfl (by kernel_rfl) (fun _ _ _ h=>h) hS (by kernel_rfl) ?_
    try simp only [Act.put,List.setIfInBounds_toArray,List.set_cons_zero,List.set_cons_succ]
    refine U_skipG 11 [12,13,14,15] rfl (by kernel_rfl) (fun _ _ _ h=>h) hS (by kernel_rfl) ?_
    try simp only [Act.put,List.setIfInBounds_toArray,List.set_cons_zero,List.set_cons_succ]
    refine U_skipG 12 [13,14,15] rfl (by kernel_rfl) (fun _ _ _ h=>h) hS (by kernel_rfl) ?_
    try simp only [Act.put,List.setIfInBounds_toArray,List.set_cons_zero,List.set_cons_succ]
    refine U_skipG 13 [14,15] rfl (by kernel_rfl) (fun _ _ _ h=>h) hS (by kernel_rfl) ?_
    try simp only [Act.put,List.setIfInBounds_toArray,List.set_cons_zero,List.set_cons_succ]
    refine U_one 14 (by kernel_rfl) rfl rfl (fun K hK=>?_)
    go_simp
    refine hK _ _ (fun _=>hS) ?_
    clear hK K
    try simp only [Act.put,List.setIfInBounds_toArray,List.set_cons_zero,List.set_cons_succ]
    refine U_one 15 (by kernel_rfl) rfl rfl (fun K hK=>?_)
    go_simp
    refine hK _ _ (fun h=>absurd h (by decide)) ?_
    clear hK K
    try simp only [Act.put,List.setIfInBounds_toArray,List.set_cons_zero,List.set_cons_succ]
    refine U_done (by kernel_rfl) ?_ _
    simp only [Calm,Exit.then]
    go_wp2_with fail
    go_ret
    exact⟨by simp [HBC.out],HB.out⟩
  | true=>
    rw [hbc] at HI
    have HBC:=Lib.hid hbc; clear hbc
    by_cases hcr:cl=r12
    ·have hq:((cl:Int) == (r12:Int))=true:=by simp; omega
     have HCR:=Lib.hid hcr; clear hcr
     refine wp_region_U 15 (fun w'=>w'.cell? ⟨w1.heap.size,3,none⟩=some (.int .u32 (cl:Nat))∧True) (by kernel_rfl) ?_
     have hS:=hS0 _ hB0
     refine U_readC 0 [1,2,7,8,14,15] (v:=(.int .i64 0)) rfl (by kernel_rfl) (fun _ _ _ h=>h) hS (by kernel_rfl) (fun w' hw'=>by obtain⟨h0,h1⟩:=hw'; go_simp) ?_
     try simp only [Act.put,List.setIfInBounds_toArray,List.set_cons_zero,List.set_cons_succ]
     refine U_readC 1 [2,7,8,14,15] (v:=(.bool true)) rfl (by kernel_rfl) (fun _ _ _ h=>h) hS (by kernel_rfl) (fun w' hw'=>by obtain⟨h0,h1⟩:=hw'; go_simp) ?_
     try simp only [Act.put,List.setIfInBounds_toArray,List.set_cons_zero,List.set_cons_succ]
     refine U_readC 2 [7,8,14,15] (v:=(.bool true)) rfl (by kernel_rfl) (fun _ _ _ h=>h) hS (by kernel_rfl) (fun w' hw'=>by obtain⟨h0,h1⟩:=hw'; go_simp) ?_
     try simp only [Act.put,List.setIfInBounds_toArray,List.set_cons_zero,List.set_cons_succ]
     refine U_readC 3 [6,7,8,14,15] (v:=(.pointer (some ⟨g,0,none⟩))) rfl (by kernel_rfl) (fun _ _ _ h=>h) hS (by kernel_rfl) (fun w' hw'=>by obtain⟨h0,h1⟩:=hw'; go_simp) ?_
     try simp only [Act.put,List.setIfInBounds_toArray,List.set_cons_zero,List.set_cons_succ]
     refine U_readC 4 [5,6,7,8,14,15] (v:=(.pointer (some ⟨w1.heap.size,3,none⟩))) rfl (by kernel_rfl) (fun _ _ _ h=>h) hS (by kernel_rfl) (fun w' hw'=>by obtain⟨h0,h1⟩:=hw'; go_simp) ?_
     try simp only [Act.put,List.setIfInBounds_toArray,List.set_cons_zero,List.set_cons_succ]
     refine U_readC 5 [6,7,8,14,15] (v:=(.int .u32 (cl:Nat))) rfl (by kernel_rfl) (fun _ _ _ h=>h) hS (by kernel_rfl) (fun w' hw'=>by obtain⟨h0,h1⟩:=hw'; go_simp) ?_
     try simp only [Act.put,List.setIfInBounds_toArray,List.set_cons_zero,List.set_cons_succ]
     refine U_oneG 6 (by kernel_rfl) rfl (by kernel_rfl) (fun K hK=>?_)
     go_simp
     refine (HI.out _ hB0).mono ?_
     rintro e w3 ⟨rfl,rfl⟩
     refine hK _ _ (fun _=>hS) ?_
     clear hK K
     try simp only [Act.put,List.setIfInBounds_toArray,List.set_cons_zero,List.set_cons_succ]
     refine U_readC 7 [8,14,15] (v:=(.bool true)) rfl (by kernel_rfl) (fun _ _ _ h=>h) hS (by kernel_rfl) (fun w' hw'=>by obtain⟨h0,h1⟩:=hw'; go_simp) ?_
     try simp only [Act.put,List.setIfInBounds_toArray,List.set_cons_zero,List.set_cons_succ]
     refine U_readC 8 [14,15] (v:=(.bool true)) rfl (by kernel_rfl) (fun _ _ _ h=>h) hS (by kernel_rfl) (fun w' hw'=>by obtain⟨h0,h1⟩:=hw'; go_simp) ?_
     try simp only [Act.put,List.setIfInBounds_toArray,List.set_cons_zero,List.set_cons_succ]
     refine U_readC 9 [10,13,14,15] (v:=(.pointer (some ⟨w1.heap.size,3,none⟩))) rfl (by kernel_rfl) (fun _ _ _ h=>h) hS (by kernel_rfl) (fun w' hw'=>by obtain⟨h0,h1⟩:=hw'; go_simp) ?_
     try simp only [Act.put,List.setIfInBounds_toArray,List.set_cons_zero,List.set_cons_succ]
     refine U_readC 10 [13,14,15] (v:=(.int .u32 (cl:Nat))) rfl (by kernel_rfl) (fun _ _ _ h=>h) hS (by kernel_rfl) (fun w' hw'=>by obtain⟨h0,h1⟩:=hw'; go_simp) ?_
     try simp only [Act.put,List.setIfInBounds_toArray,List.set_cons_zero,List.set_cons_succ]
     refine U_readC 11 [12,13,14,15] (v:=(.pointer (some ⟨g,0,none⟩))) rfl (by kernel_rfl) (fun _ _ _ h=>h) hS (by kernel_rfl) (fun w' hw'=>by obtain⟨h0,h1⟩:=hw'; go_simp) ?_
     try simp only [Act.put,List.setIfInBounds_toArray,List.set_cons_zero,List.set_cons_succ]
     refine U_oneG 12 (by kernel_rfl) rfl (by kernel_rfl) (fun K hK=>?_)
     go_simp
     refine (HR.out _ hB0).mono ?_
     rintro e w4 ⟨rfl,rfl⟩
     refine hK _ _ (fun _=>hS) ?_
     clear hK K
     try simp only [Act.put,List.setIfInBounds_toArray,List.set_cons_zero,List.set_cons_succ]
     refine U_oneG 13 (by kernel_rfl) rfl (by kernel_rfl) (fun K hK=>?_)
     go_simp
     refine hK _ _ (fun _=>hS) ?_
     clear hK K
     try simp only [Act.put,List.setIfInBounds_toArray,List.set_cons_zero,List.set_cons_succ]
     refine U_one 14 (by kernel_rfl) rfl rfl (fun K hK=>?_)
     go_simp
     refine hK _ _ (fun _=>hS) ?_
     clear hK K
     try simp only [Act.put,List.setIfInBounds_toArray,List.set_cons_zero,List.set_cons_succ]
     refine U_one 15 (by kernel_rfl) rfl rfl (fun K hK=>?_)
     go_simp
     refine hK _ _ (fun h=>absurd h (by decide)) ?_
     clear hK K
     try simp only [Act.put,List.setIfInBounds_toArray,List.set_cons_zero,List.set_cons_succ]
     refine U_done (by kernel_rfl) ?_ _
     simp only [Calm,Exit.then]
     go_wp2_with fail
     go_ret
     exact⟨by rw [HBC.out,decide_eq_true HCR.out]; rfl,HB.out⟩
    ·have hq:((cl:Int) == (r12:Int))=false:=by simp; omega
     have HCR:=Lib.hid hcr; clear hcr
     refine wp_region_U 15 (fun w'=>w'.cell? ⟨w1.heap.size,3,none⟩=some (.int .u32 (cl:Nat))∧True) (by kernel_rfl) ?_
     have hS:=hS0 _ hB0
     refine U_readC 0 [1,2,7,8,14,15] (v:=(.int .i64 0)) rfl (by kernel_rfl) (fun _ _ _ h=>h) hS (by kernel_rfl) (fun w' hw'=>by obtain⟨h0,h1⟩:=hw'; go_simp) ?_
     try simp only [Act.put,List.setIfInBounds_toArray,List.set_cons_zero,List.set_cons_succ]
     refine U_readC 1 [2,7,8,14,15] (v:=(.bool true)) rfl (by kernel_rfl) (fun _ _ _ h=>h) hS (by kernel_rfl) (fun w' hw'=>by obtain⟨h0,h1⟩:=hw'; go_simp) ?_
     try simp only [Act.put,List.setIfInBounds_toArray,List.set_cons_zero,List.set_cons_succ]
     refine U_readC 2 [7,8,14,15] (v:=(.bool true)) rfl (by kernel_rfl) (fun _ _ _ h=>h) hS (by kernel_rfl) (fun w' hw'=>by obtain⟨h0,h1⟩:=hw'; go_simp) ?_
     try simp only [Act.put,List.setIfInBounds_toArray,List.set_cons_zero,List.set_cons_succ]
     refine U_readC 3 [6,7,8,14,15] (v:=(.pointer (some ⟨g,0,none⟩))) rfl (by kernel_rfl) (fun _ _ _ h=>h) hS (by kernel_rfl) (fun w' hw'=>by obtain⟨h0,h1⟩:=hw'; go_simp) ?_
     try simp only [Act.put,List.setIfInBounds_toArray,List.set_cons_zero,List.set_cons_succ]
     refine U_readC 4 [5,6,7,8,14,15] (v:=(.pointer (some ⟨w1.heap.size,3,none⟩))) rfl (by kernel_rfl) (fun _ _ _ h=>h) hS (by kernel_rfl) (fun w' hw'=>by obtain⟨h0,h1⟩:=hw'; go_simp) ?_
     try simp only [Act.put,List.setIfInBounds_toArray,List.set_cons_zero,List.set_cons_succ]
     refine U_readC 5 [6,7,8,14,15] (v:=(.int .u32 (cl:Nat))) rfl (by kernel_rfl) (fun _ _ _ h=>h) hS (by kernel_rfl) (fun w' hw'=>by obtain⟨h0,h1⟩:=hw'; go_simp) ?_
     try simp only [Act.put,List.setIfInBounds_toArray,List.set_cons_zero,List.set_cons_succ]
     refine U_oneG 6 (by kernel_rfl) rfl (by kernel_rfl) (fun K hK=>?_)
     go_simp
     refine (HI.out _ hB0).mono ?_
     rintro e w3 ⟨rfl,rfl⟩
     refine hK _ _ (fun _=>hS) ?_
     clear hK K
     try simp only [Act.put,List.setIfInBounds_toArray,List.set_cons_zero,List.set_cons_succ]
     refine U_readC 7 [8,14,15] (v:=(.bool true)) rfl (by kernel_rfl) (fun _ _ _ h=>h) hS (by kernel_rfl) (fun w' hw'=>by obtain⟨h0,h1⟩:=hw'; go_simp) ?_
     try simp only [Act.put,List.setIfInBounds_toArray,List.set_cons_zero,List.set_cons_succ]
     refine U_readC 8 [14,15] (v:=(.bool true)) rfl (by kernel_rfl) (fun _ _ _ h=>h) hS (by kernel_rfl) (fun w' hw'=>by obtain⟨h0,h1⟩:=hw'; go_simp) ?_
     try simp only [Act.put,List.setIfInBounds_toArray,List.set_cons_zero,List.set_cons_succ]
     refine U_readC 9 [10,13,14,15] (v:=(.pointer (some ⟨w1.heap.size,3,none⟩))) rfl (by kernel_rfl) (fun _ _ _ h=>h) hS (by kernel_rfl) (fun w' hw'=>by obtain⟨h0,h1⟩:=hw'; go_simp) ?_
     try simp only [Act.put,List.setIfInBounds_toArray,List.set_cons_zero,List.set_cons_succ]
     refine U_readC 10 [13,14,15] (v:=(.int .u32 (cl:Nat))) rfl (by kernel_rfl) (fun _ _ _ h=>h) hS (by kernel_rfl) (fun w' hw'=>by obtain⟨h0,h1⟩:=hw'; go_simp) ?_
     try simp only [Act.put,List.setIfInBounds_toArray,List.set_cons_zero,List.set_cons_succ]
     refine U_readC 11 [12,13,14,15] (v:=(.pointer (some ⟨g,0,none⟩))) rfl (by kernel_rfl) (fun _ _ _ h=>h) hS (by kernel_rfl) (fun w' hw'=>by obtain⟨h0,h1⟩:=hw'; go_simp) ?_
     try simp only [Act.put,List.setIfInBounds_toArray,List.set_cons_zero,List.set_cons_succ]
     refine U_oneG 12 (by kernel_rfl) rfl (by kernel_rfl) (fun K hK=>?_)
     go_simp
     refine (HR.out _ hB0).mono ?_
     rintro e w4 ⟨rfl,rfl⟩
     refine hK _ _ (fun _=>hS) ?_
     clear hK K
     try simp only [Act.put,List.setIfInBounds_toArray,List.set_cons_zero,List.set_cons_succ]
     refine U_oneG 13 (by kernel_rfl) rfl (by kernel_rfl) (fun K hK=>?_)
     go_simp
     refine hK _ _ (fun _=>hS) ?_
     clear hK K
     try simp only [Act.put,List.setIfInBounds_toArray,List.set_cons_zero,List.set_cons_succ]
     refine U_one 14 (by kernel_rfl) rfl rfl (fun K hK=>?_)
     go_simp
     refine hK _ _ (fun _=>hS) ?_
     clear hK K
     try simp only [Act.put,List.setIfInBounds_toArray,List.set_cons_zero,List.set_cons_succ]
     refine U_one 15 (by kernel_rfl) rfl rfl (fun K hK=>?_)
     go_simp
     refine hK _ _ (fun h=>absurd h (by decide)) ?_
     clear hK K
     try simp only [Act.put,List.setIfInBounds_toArray,List.set_cons_zero,List.set_cons_succ]
     refine U_done (by kernel_rfl) ?_ _
     simp only [Calm,Exit.then]
     go_wp2_with fail
     go_ret
     exact⟨by simp [HBC.out,HCR.out],HB.out⟩
 ·have hq:((E:Int) == 0)=false:=by simp; omega
  have hd3:decide (E=0)=false:=decide_eq_false h1
  clear h1
  refine wp_region_U 15 (fun w'=>w'.cell? ⟨w1.heap.size,3,none⟩=some (.int .u32 (cl:Nat))∧True) (by kernel_rfl) ?_
  have hS:=hS0 _ hB0
  refine U_readC 0 [1,2,7,8,14,15] (v:=(.int .i64 (E:Nat))) rfl (by kernel_rfl) (fun _ _ _ h=>h) hS (by kernel_rfl) (fun w' hw'=>by obtain⟨h0,h1⟩:=hw'; go_simp) ?_
  try simp only [Act.put,List.setIfInBounds_toArray,List.set_cons_zero,List.set_cons_succ]
  refine U_readC 1 [2,7,8,14,15] (v:=(.bool false)) rfl (by kernel_rfl) (fun _ _ _ h=>h) hS (by kernel_rfl) (fun w' hw'=>by obtain⟨h0,h1⟩:=hw'; go_simp) ?_
  try simp only [Act.put,List.setIfInBounds_toArray,List.set_cons_zero,List.set_cons_succ]
  refine U_readC 2 [7,8,14,15] (v:=(.bool false)) rfl (by kernel_rfl) (fun _ _ _ h=>h) hS (by kernel_rfl) (fun w' hw'=>by obtain⟨h0,h1⟩:=hw'; go_simp) ?_
  try simp only [Act.put,List.setIfInBounds_toArray,List.set_cons_zero,List.set_cons_succ]
  refine U_skipG 3 [6,7,8,14,15] rfl (by kernel_rfl) (fun _ _ _ h=>h) hS (by kernel_rfl) ?_
  try simp only [Act.put,List.setIfInBounds_toArray,List.set_cons_zero,List.set_cons_succ]
  refine U_skipG 4 [5,6,7,8,14,15] rfl (by kernel_rfl) (fun _ _ _ h=>h) hS (by kernel_rfl) ?_
  try simp only [Act.put,List.setIfInBounds_toArray,List.set_cons_zero,List.set_cons_succ]
  refine U_skipG 5 [6,7,8,14,15] rfl (by kernel_rfl) (fun _ _ _ h=>h) hS (by kernel_rfl) ?_
  try simp only [Act.put,List.setIfInBounds_toArray,List.set_cons_zero,List.set_cons_succ]
  refine U_skipG 6 [7,8,14,15] rfl (by kernel_rfl) (fun _ _ _ h=>h) hS (by kernel_rfl) ?_
  try simp only [Act.put,List.setIfInBounds_toArray,List.set_cons_zero,List.set_cons_succ]
  refine U_readC 7 [8,14,15] (v:=(.bool false)) rfl (by kernel_rfl) (fun _ _ _ h=>h) hS (by kernel_rfl) (fun w' hw'=>by obtain⟨h0,h1⟩:=hw'; go_simp) ?_
  try simp only [Act.put,List.setIfInBounds_toArray,List.set_cons_zero,List.set_cons_succ]
  refine U_readC 8 [14,15] (v:=(.bool false)) rfl (by kernel_rfl) (fun _ _ _ h=>h) hS (by kernel_rfl) (fun w' hw'=>by obtain⟨h0,h1⟩:=hw'; go_simp) ?_
  try simp only [Act.put,List.setIfInBounds_toArray,List.set_cons_zero,List.set_cons_succ]
  refine U_skipG 9 [10,13,14,15] rfl (by kernel_rfl) (fun _ _ _ h=>h) hS (by kernel_rfl) ?_
  try simp only [Act.put,List.setIfInBounds_toArray,List.set_cons_zero,List.set_cons_succ]
  refine U_skipG 10 [13,14,15] rfl (by kernel_rfl) (fun _ _ _ h=>h) hS (by kernel_rfl) ?_
  try simp only [Act.put,List.setIfInBounds_toArray,List.set_cons_zero,List.set_cons_succ]
  refine U_skipG 11 [12,13,14,15] rfl (by kernel_rfl) (fun _ _ _ h=>h) hS (by kernel_rfl) ?_
  try simp only [Act.put,List.setIfInBounds_toArray,List.set_cons_zero,List.set_cons_succ]
  refine U_skipG 12 [13,14,15] rfl (by kernel_rfl) (fun _ _ _ h=>h) hS (by kernel_rfl) ?_
  try simp only [Act.put,List.setIfInBounds_toArray,List.set_cons_zero,List.set_cons_succ]
  refine U_skipG 13 [14,15] rfl (by kernel_rfl) (fun _ _ _ h=>h) hS (by kernel_rfl) ?_
  try simp only [Act.put,List.setIfInBounds_toArray,List.set_cons_zero,List.set_cons_succ]
  refine U_one 14 (by kernel_rfl) rfl rfl (fun K hK=>?_)
  go_simp
  refine hK _ _ (fun _=>hS) ?_
  clear hK K
  try simp only [Act.put,List.setIfInBounds_toArray,List.set_cons_zero,List.set_cons_succ]
  refine U_one 15 (by kernel_rfl) rfl rfl (fun K hK=>?_)
  go_simp
  refine hK _ _ (fun h=>absurd h (by decide)) ?_
  clear hK K
  try simp only [Act.put,List.setIfInBounds_toArray,List.set_cons_zero,List.set_cons_succ]
  refine U_done (by kernel_rfl) ?_ _
  simp only [Calm,Exit.then]
  go_wp2_with fail
  go_ret
  exact⟨by simp [hd3],HB.out⟩
 --ATEM
set_option maxHeartbeats 4000000 in
theorem kisCls_any (o:Nat) (ho:o<4294967296):Calls Tryz.prog 125 #[.pointer (some ⟨g,0,none⟩),.int .u32 o] w (Told (.bool (h.isClsK o)) w):=by
 have HH:=Lib.hid (L.header o ho)
 have hcl:=cls_lt L.fit o
 have HBR:=Lib.hid (fun (w1:World) (hb:Below w.heap.size w w1)=>kbare_any (L.after hb))
 have HM1:=Lib.hid (fun (w1:World) (hb:Below w.heap.size w w1)=>kmeta_any (L.after hb) o ho)
 have HM2:=Lib.hid (fun (w1:World) (hb:Below w.heap.size w w1)=>kmeta_any (L.after hb) _ hcl)
 clear L
 unfold HM.isClsK
 generalize h.metaK (h.hdO o).cls=b2 at *
 generalize h.metaK o=b1 at *
 generalize h.bareK=b0 at *
 generalize h.isE o=E at *
 generalize h.hdO o=x at *
 obtain⟨sz,fm,sp,cl,se⟩:=x
 simp only at HM2 hcl
 have HV:=Lib.hid (show ∀ v:Bool,(!b0 && (decide (E=0) && (b1 || b2)))=v→Ending.returned (.bool v)=Ending.returned (.bool (!b0 && (decide (E=0) && (b1 || b2)))) from fun v e=>by rw [e])
 have hq:((E:Int) == 0)=decide (E=0):=by rw [Bool.eq_iff_iff]; simp
 generalize decide (E=0)=d at *
 go_enter Tryz.func125,Tryz.ntmps125
 go_wp2_with fail
 refine HH.out.mono ?_
 rintro e w1 ⟨rfl,hb1⟩
 have hb2:=hb1.alloc hb1.size (.cells #[.int .i64 sz,.int .i64 fm,.int .i64 sp,.int .u32 cl,.int .u32 se] 137)
 have k:=Blk.new w1 137 #[.int .i64 sz,.int .i64 fm,.int .i64 sp,.int .u32 cl,.int .u32 se]
 unfold Hd.val
 go_upto_region 2 with fail
 generalize w1.alloc (.cells #[.int .i64 sz,.int .i64 fm,.int .i64 sp,.int .u32 cl,.int .u32 se] 137)=w2 at *
 have HB2:=Lib.hid hb2; have HK2:=Lib.hid k
 have HBR2:=Lib.hid (HBR.out w2 hb2)
 generalize w1.heap.size=bh at *
 clear HH hb1 hb2 k HBR
 cases b0 with
 | true=>
   go_wp2_with fail
   refine HBR2.out.mono ?_
   rintro e w3 ⟨rfl,hb3⟩
   have HB3:=Lib.hid (below_top HB2.out hb3)
   clear hb3
   go_wp2_with fail
   go_ret
   exact⟨HV.out _ (by simp),HB3.out⟩
 | false=>
   cases d with
   | false=>
     go_wp2_with fail
     refine HBR2.out.mono ?_
     rintro e w3 ⟨rfl,hb3⟩
     have HB3:=Lib.hid (below_top HB2.out hb3)
     clear hb3
     go_wp2_with fail
     go_ret
     exact⟨HV.out _ (by simp),HB3.out⟩
   | true=>
     cases b1 with
     | true=>
       go_wp2_with fail
       refine HBR2.out.mono ?_
       rintro e w3 ⟨rfl,hb3⟩
       have HB3:=Lib.hid (below_top HB2.out hb3)
       have HM1':=Lib.hid (HM1.out w3 HB3.out)
       clear hb3 HBR2 HB2 HM1 HM2
       go_wp2_with fail
       refine HM1'.out.mono ?_
       rintro e w4 ⟨rfl,hb4⟩
       have HB4:=Lib.hid (below_top HB3.out hb4)
       clear hb4 HM1' HB3
       go_wp2_with fail
       go_ret
       exact⟨HV.out _ (by simp),HB4.out⟩
     | false=>
       go_wp2_with fail
       refine HBR2.out.mono ?_
       rintro e w3 ⟨rfl,hb3⟩
       have HB3:=Lib.hid (below_top HB2.out hb3)
       have HK3:=Lib.hid (HK2.out.below hb3 HK2.out.lt)
       have HM1':=Lib.hid (HM1.out w3 HB3.out)
       clear hb3 HBR2 HB2 HM1 HK2
       go_wp2_with fail
       refine HM1'.out.mono ?_
       rintro e w4 ⟨rfl,hb4⟩
       have HB4:=Lib.hid (below_top HB3.out hb4)
       have c3:=(HK3.out.below hb4 HK3.out.lt).cell 3
       have HM2':=Lib.hid (HM2.out w4 HB4.out)
       clear hb4 HM1' HB3 HM2 HK3
       go_wp2_with fail
       refine HM2'.out.mono ?_
       rintro e w5 ⟨rfl,hb5⟩
       have HB5:=Lib.hid (below_top HB4.out hb5)
       clear hb5 HM2' HB4 c3
       go_wp2_with fail
       go_ret
       exact⟨HV.out _ (by cases b2 <;> rfl),HB5.out⟩
theorem kname_any (c:Nat) (hc:c<4294967296) (hb:h.bareK=false) (hs:h.ptrsK c 6=true) (hn:h.bytesE (h.fldK c 0)=0):
 Calls Tryz.prog 126 #[.pointer (some ⟨g,0,none⟩),.int .u32 c] w (Told (.string (txS (h.bodyK (h.fldK c 0)))) w):=by
 have HBR:=Lib.hid (kbare_any L)
 rw [hb] at HBR
 have HSH:=Lib.hid (fun (w1:World) (hb:Below w.heap.size w w1)=>kshaped_any (L.after hb) c hc)
 rw [hs] at HSH
 have HFD:=Lib.hid (fun (w1:World) (hb:Below w.heap.size w w1)=>kfield_any (L.after hb) c hc 0)
 have HBY:=Lib.hid (fun (w1:World) (hb:Below w.heap.size w w1)=>kbytes_any (L.after hb) (h.fldK c 0) (fld_lt L.fit c 0))
 unfold BytS at HBY
 rw [hn] at HBY
 clear L hb hs hn
 generalize h.bodyK (h.fldK c 0)=t at *
 generalize h.fldK c 0=y at *
 go_enter Tryz.func126,Tryz.ntmps126
 go_wp2_with fail
 refine HBR.out.mono ?_
 rintro e w1 ⟨rfl,hb1⟩
 have HB1:=Lib.hid hb1
 have HS1:=Lib.hid (HSH.out w1 hb1)
 clear hb1 HBR HSH
 go_wp2_with fail
 refine HS1.out.mono ?_
 rintro e w2 ⟨rfl,hb2⟩
 have HB2:=Lib.hid (below_top HB1.out hb2)
 have HF2:=Lib.hid (HFD.out w2 HB2.out)
 clear hb2 HS1 HB1 HFD
 go_wp2_with fail
 refine HF2.out.mono ?_
 rintro e w3 ⟨rfl,hb3⟩
 have HB3:=Lib.hid (below_top HB2.out hb3)
 have HY3:=Lib.hid (HBY.out w3 HB3.out)
 clear hb3 HF2 HB2 HBY
 go_wp2_with fail
 refine HY3.out.mono ?_
 rintro e w4 ⟨A,n,k,rfl,hb4,hcv⟩
 have hcv:=hcv trivial
 have HB4:=Lib.hid (below_top HB3.out hb4)
 clear hb4 HY3 HB3
 go_wp2_with fail
 go_ret
 exact⟨rfl,HB4.out⟩
end
end
section
open Go.RowKit
def HM.chainK (h:HM):Nat→Nat→List Nat × Bool
 | 0,c=>([],decide (c=h.rt 0))
 | f+1,c=>if c=h.rt 0 then ([],true) else if h.ptrsK c 6=false then ([],false) else (c :: (h.chainK f (h.fldK c 1)).1,(h.chainK f (h.fldK c 1)).2)
def HM.chainFK (h:HM) (c:Nat):List Nat × Bool:=((c :: (h.chainK 1000 (h.fldK c 1)).1).take 1000,(h.chainK 1000 (h.fldK c 1)).2 && decide ((h.chainK 1000 (h.fldK c 1)).1.length<1000))
def fitsK (f:Int) (n:Nat) (x:Bool):Bool:=(decide (1≤f) && decide (f≤4)) && (decide (n≤255) && (decide (f=1) || (decide (n=0) && x)))
def letK (b:Nat):Bool:=decide (b=95) || (decide (97≤b) && decide (b≤122)) || (decide (65≤b) && decide (b≤90))
def isNameK (t:List Nat):Bool:=letK (t.getD 0 0) && t.all fun b=>letK b || (decide (48≤b) && decide (b≤57))
def HM.ownNK (h:HM) (o:Nat):List (List Nat) × Nat:=
 if h.fldK o 3=h.rt 0 then ([],0) else if h.ptrsK (h.fldK o 3) 0=false then ([],40)
 else if ((List.range (h.sizK (h.fldK o 3))).all fun i=>decide (h.bytesE (h.fldK (h.fldK o 3) i)=0)) then ((List.range (h.sizK (h.fldK o 3))).map fun i=>h.bodyK (h.fldK (h.fldK o 3) i),0) else ([],40)
def HM.namesStep (h:HM) (q:List (List Nat) × Nat) (o:Nat):List (List Nat) × Nat:=if q.2≠0 then q else if (h.ownNK o).2≠0 then ([],40) else (q.1++(h.ownNK o).1,0)
def HM.namesK (h:HM) (l:List Nat):List (List Nat) × Nat:=l.foldl h.namesStep ([],0)
def HM.fieldsK (h:HM) (c:Nat):List (List Nat) × Nat:=
 if h.lookK c≠0 then ([],h.lookK c) else if (h.chainFK c).2=false then ([],40) else h.namesK (h.chainFK c).1.reverse
def HM.def7 (h:HM) (c:Nat) (fs:List (List Nat)):HM × Nat × Nat:=if (h.ownK c fs).2≠0 then ((h.ownK c fs).1,0,(h.ownK c fs).2) else ((h.ownK c fs).1,c,0)
def HM.def6 (h:HM) (c:Nat) (t:List Nat) (fs:List (List Nat)):HM × Nat × Nat:=
 if (h.setGloK t c).2.2≠0 then ((h.setGloK t c).1,0,(h.setGloK t c).2.2) else if fs=[] then ((h.setGloK t c).1,c,0) else (h.setGloK t c).1.def7 c fs
def HM.def5 (h:HM) (c m sup sym v:Nat):HM:=
 (h.copyK c (fun i=>[sym,sup,h.rt 0,h.rt 0,v,h.rt 0].getD i 0) 6).copyK m (fun i=>[h.rt 0,(h.hdO sup).cls,h.rt 0,h.rt 0,smN 49,c].getD i 0) 6
def HM.def3 (h:HM) (c sup sym v:Nat) (t:List Nat) (fs:List (List Nat)):HM × Nat × Nat:=
 if h.AllocE (h.rt 12) 1 6≠0 then (h,0,h.AllocE (h.rt 12) 1 6)
 else (((h.AllocH (h.rt 12) 1 6).setClassH c (h.AllocO (h.rt 12) 1 6)).def5 c (h.AllocO (h.rt 12) 1 6) sup sym v).def6 c t fs
def HM.def2 (h:HM) (sup sym v:Nat) (t:List Nat) (fs:List (List Nat)):HM × Nat × Nat:=
 if h.AllocE 0 1 6≠0 then (h,0,h.AllocE 0 1 6) else (h.AllocH 0 1 6).def3 (h.AllocO 0 1 6) sup sym v t fs
def HM.defK (h:HM) (sup:Nat) (t:List Nat) (fs:List (List Nat)) (v:Nat):HM × Nat × Nat:=
 if (h.internK t).2.2≠0 then ((h.internK t).1,0,(h.internK t).2.2) else (h.internK t).1.def2 sup (h.internK t).2.1 v t fs
end
section
open Go.RowKit
attribute [local go_sem] Oper.semAt_some
theorem klet_any (b:Nat) (w:World):Calls Tryz.prog 108 #[.int .u8 b] w (Said (.bool (letK b)) w):=by
 have q1:((b:Int) == 95)=decide (b=95):=by rw [Bool.eq_iff_iff]; simp; omega
 have q2:decide ((b:Int)≥97)=decide (97≤b):=by rw [Bool.eq_iff_iff]; simp; omega
 have q3:decide ((b:Int)≤122)=decide (b≤122):=by rw [Bool.eq_iff_iff]; simp; omega
 have q4:decide ((b:Int)≥65)=decide (65≤b):=by rw [Bool.eq_iff_iff]; simp; omega
 have q5:decide ((b:Int)≤90)=decide (b≤90):=by rw [Bool.eq_iff_iff]; simp; omega
 unfold letK
 generalize decide (b=95)=d1 at *
 generalize decide (97≤b)=d2 at *
 generalize decide (b≤122)=d3 at *
 generalize decide (65≤b)=d4 at *
 generalize decide (b≤90)=d5 at *
 cases d1 <;> cases d2 <;> cases d3 <;> cases d4 <;> cases d5
 all_goals
  go_enter Tryz.func108,Tryz.ntmps108
  go_wp2_with fail
  go_ret
  exact⟨rfl,rfl⟩
def badK (b:Nat):Bool:= !letK b && (decide (b<48) || decide (57<b))
set_option maxHeartbeats 4000000 in
theorem kbad_any (b bx:Nat) (w:World) (hx:w.cell? ⟨bx,0,none⟩=some (.func (.func 108) #[] #[])):Calls Tryz.prog 110 #[.int .u8 b,.pointer (some ⟨bx,0,none⟩)] w (Said (.bool (badK b)) w):=by
 have HL:=Lib.hid (klet_any b w)
 have q1:decide ((b:Int)<48)=decide (b<48):=by rw [Bool.eq_iff_iff]; simp; omega
 have q2:decide ((b:Int)>57)=decide (57<b):=by rw [Bool.eq_iff_iff]; simp; omega
 unfold badK
 generalize letK b=d0 at *
 generalize decide (b<48)=d1 at *
 generalize decide (57<b)=d2 at *
 cases d0 <;> cases d1 <;> cases d2
 all_goals
  go_enter Tryz.func110,Tryz.ntmps110
  go_wp2_with fail
  refine HL.out.mono ?_
  rintro e w1 ⟨rfl,rfl⟩
  go_wp2_with fail
  go_ret
  exact⟨rfl,rfl⟩
set_option maxHeartbeats 4000000 in
theorem kindexF_any (A:Option Addr) (n c B:Nat) (bs:List Nat) (bx:Nat) (w:World) (hx:w.cell? ⟨bx,0,none⟩=some (.func (.func 108) #[] #[])) (hn:n≤9223372036854775807) (hr:Reads w B 1 A n (u8c bs)):
 Calls Tryz.prog 144 #[.slice A n c,.func (.func 110) #[] #[.pointer (some ⟨bx,0,none⟩)]] w (fun e w'=>∃ j:Int,e = .returned (.int .i64 j)∧decide (0≤j)=bs.any badK∧ -1≤j∧j≤9223372036854775807∧w=w'):=by
 have hl:bs.length=n:=by have:=hr.1; simpa [u8c] using this
 have HL:=Lib.hid hl; clear hl
 have HR:=Lib.hid hr; clear hr
 have HB:=Lib.hid (fun b=>kbad_any b bx w hx)
 clear hx
 go_enter Tryz.func144,Tryz.ntmps144
 go_wp2_with fail
 go_loop [8] (fun i=>∃ k:Nat,k≤n∧i = .int .i64 k∧(bs.take k).any badK=false) (fun i=>n-(intOf i).toNat)
 case atStart=>exact⟨0,by omega,rfl,by simp⟩
 case round=>
  obtain⟨k,hk,rfl,hno⟩:=hrel
  have HNO:=Lib.hid hno; clear hno
  by_cases hlt:k<n
  ·obtain⟨ad,u0,rfl,_,hxk,hcell⟩:=HR.out.at_ hlt
   obtain⟨y,hy,rfl⟩ :∃ y,bs[k]? = some y∧u0 = .int .u8 (y:Nat):=by
    unfold u8c at hxk
    rw [List.getElem?_map] at hxk
    cases q:bs[k]? with
    | none=>rw [q] at hxk; cases hxk
    | some y=>rw [q] at hxk; injection hxk with hxk; exact⟨y,rfl,hxk.symm⟩
   clear hxk
   have htk:bs.take (k+1)=bs.take k++[y]:=by rw [List.take_add_one,hy]; rfl
   have HBY:=Lib.hid (HB.out y)
   have HDR:=Lib.hid (show bs=bs.take (k+1)++bs.drop (k+1) from (List.take_append_drop _ _).symm)
   have HTK:=Lib.hid htk
   clear htk hy
   cases hq:badK y with
   | true=>
     rw [hq] at HBY
     have HAN:=Lib.hid (show bs.any badK=true from by rw [HDR.out,HTK.out]; simp [hq])
     clear hq HDR HTK
     go_wp2_with fail
     refine HBY.out.mono ?_
     rintro e w1 ⟨rfl,rfl⟩
     go_wp2_with fail
     go_ret
     exact⟨k,rfl,by rw [HAN.out]; simp,by omega,by omega,rfl⟩
   | false=>
     rw [hq] at HBY
     have HN2:=Lib.hid (show (bs.take (k+1)).any badK=false from by rw [HTK.out,List.any_append,HNO.out]; simp [hq])
     clear hq HDR HTK
     go_wp2_with fail
     refine HBY.out.mono ?_
     rintro e w1 ⟨rfl,rfl⟩
     go_wp2_with fail
     go_round
     case rel=>exact⟨k+1,by omega,by go_num,HN2.out⟩
     case measure=>simp [intOf]; omega
  ·obtain rfl:k=n:=by omega
   have hall:=HNO.out
   rw [List.take_of_length_le (by rw [HL.out]; omega)] at hall
   have HA:=Lib.hid hall; clear hall
   go_wp2_with fail
   go_ret
   exact⟨-1,rfl,by rw [HA.out]; simp,by omega,by omega,rfl⟩
theorem kcontF_any (A:Option Addr) (n c B:Nat) (bs:List Nat) (bx:Nat) (w:World) (hx:w.cell? ⟨bx,0,none⟩=some (.func (.func 108) #[] #[])) (hn:n≤9223372036854775807) (hr:Reads w B 1 A n (u8c bs)):
 Calls Tryz.prog 109 #[.slice A n c,.func (.func 110) #[] #[.pointer (some ⟨bx,0,none⟩)]] w (Said (.bool (bs.any badK)) w):=by
 have HI:=Lib.hid (kindexF_any A n c B bs bx w hx hn hr)
 clear hr hx
 go_enter Tryz.func109,Tryz.ntmps109
 go_wp2_with fail
 refine HI.out.mono ?_
 rintro e w' ⟨j,rfl,hj,hlo,hhi,rfl⟩
 have HJ:=Lib.hid hj; clear hj
 go_wp2_with fail
 go_ret
 exact⟨by rw [← HJ.out]; rfl,rfl⟩
end
section
open Go.RowKit
attribute [local go_sem] Oper.semAt_some
structure CelT (w:World) (A:Option Addr) (ts:List (List Nat)):Prop where
 at_:∀ i,i<ts.length→∃ ad,A=some ad∧w.cell? (ad.add i)=some (.string (txS (ts.getD i [])))
set_option maxHeartbeats 4000000 in
theorem kindexT_any (A:Option Addr) (c:Nat) (ts:List (List Nat)) (x:List Nat) (w:World) (hn:ts.length≤9223372036854775807) (hr:CelT w A ts) (h8:∀ t∈ts,∀ y∈t,y<256) (hx:∀ y∈x,y<256):
 Calls Tryz.prog 114 #[.slice A ts.length c,.string (txS x)] w (fun e w'=>∃ j:Int,e = .returned (.int .i64 j)∧(0≤j↔x∈ts)∧ -1≤j∧j≤9223372036854775807∧w=w'):=by
 have HR:=Lib.hid hr; clear hr
 have H8:=Lib.hid h8; have HX:=Lib.hid hx
 clear h8 hx
 obtain⟨n,hnn⟩ :∃ n,n=ts.length:=⟨_,rfl⟩
 rw [← hnn] at hn ⊢
 have HN:=Lib.hid hnn
 clear hnn
 go_enter Tryz.func114,Tryz.ntmps114
 go_wp2_with fail
 go_loop [8] (fun i=>∃ k:Nat,k≤n∧i = .int .i64 k∧x∉ts.take k) (fun i=>n-(intOf i).toNat)
 case atStart=>exact⟨0,by omega,rfl,by simp⟩
 case round=>
  obtain⟨k,hk,rfl,hno⟩:=hrel
  have HNO:=Lib.hid hno; clear hno
  by_cases hlt:k<n
  ·have hkt:k<ts.length:=by rw [← HN.out]; exact hlt
   obtain⟨ad,rfl,hcell⟩:=HR.out.at_ k hkt
   have hmem:ts.getD k []∈ts:=by rw [List.getD_eq_getElem?_getD,List.getElem?_eq_getElem hkt]; exact List.getElem_mem hkt
   have htk:ts.take (k+1)=ts.take k++[ts.getD k []]:=by rw [List.take_add_one,List.getD_eq_getElem?_getD,List.getElem?_eq_getElem hkt]; rfl
   have hq:=txS_beq HX.out (H8.out _ hmem)
   have HM:=Lib.hid hmem; have HTK:=Lib.hid htk
   clear hmem htk hkt
   generalize ts.getD k []=y at *
   by_cases hxy:x=y
   ·subst hxy
    clear hq
    go_wp2_with fail
    go_ret
    exact⟨k,rfl,⟨fun _=>HM.out,fun _=>by omega⟩,by omega,by omega,rfl⟩
   ·rw [decide_eq_false hxy] at hq
    have HN2:=Lib.hid (show x∉ts.take (k+1) from by
     rw [HTK.out,List.mem_append,List.mem_singleton]
     exact fun q=>q.elim HNO.out hxy)
    clear hxy
    go_wp2_with fail
    go_round
    case rel=>exact⟨k+1,by omega,by go_num,HN2.out⟩
    case measure=>simp [intOf]; omega
  ·obtain rfl:k=n:=by omega
   have hall:=HNO.out
   rw [List.take_of_length_le (by rw [HN.out]; omega)] at hall
   have HA:=Lib.hid hall; clear hall
   go_wp2_with fail
   go_ret
   exact⟨-1,rfl,⟨fun q=>absurd q (by omega),fun q=>absurd q HA.out⟩,by omega,by omega,rfl⟩
theorem kcontT_any (A:Option Addr) (c:Nat) (ts:List (List Nat)) (x:List Nat) (w:World) (hn:ts.length≤9223372036854775807) (hr:CelT w A ts) (h8:∀ t∈ts,∀ y∈t,y<256) (hx:∀ y∈x,y<256):
 Calls Tryz.prog 68 #[.slice A ts.length c,.string (txS x)] w (Said (.bool (decide (x∈ts))) w):=by
 have HI:=Lib.hid (kindexT_any A c ts x w hn hr h8 hx)
 clear hr h8 hx hn
 generalize ts.length=n at *
 go_enter Tryz.func68,Tryz.ntmps68
 go_wp2_with fail
 refine HI.out.mono ?_
 rintro e w' ⟨j,rfl,hj,hlo,hhi,rfl⟩
 have HJ:=Lib.hid hj; clear hj
 go_wp2_with fail
 go_ret
 exact⟨by rw [← decide_eq_decide.2 HJ.out]; rfl,rfl⟩
end
end Go.Proofs.YtdoahpflemgaeaaGreatDoor
