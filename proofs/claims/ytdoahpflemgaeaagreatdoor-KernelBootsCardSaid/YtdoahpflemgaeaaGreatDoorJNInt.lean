import Derived.Test.YtdoahpflemgaeaaGreatDoorJNPrF
import Derived.Test.YtdoahpflemgaeaaGreatDoorJUntil
import Derived.Deep.RegionHeld3
import Derived.Deep.CutBlock
set_option linter.unusedVariables false
set_option linter.unusedSimpArgs false
set_option linter.unusedSectionVars false
namespace Go.Proofs.YtdoahpflemgaeaaGreatDoor
section
open Go.RowKit
attribute [local go_sem] Oper.semAt_some
theorem Live.far2 {W w:World} {p:HP} {g:Nat} {h:HM} (L:Live W w p g h) {b:Nat} (hn:¬ p.has b) (hW:W.heap.size≤b) (i:Nat) (v:Value):Live W (w.setCell ⟨b,i,none⟩ v) p g h:=
 ⟨L.at_.same fun k hk=>Below.heap_setCell w ⟨b,i,none⟩ v k (by show k≠b; intro e; subst e; exact hn hk),L.hg,L.good,L.env,L.new,L.below.setCell (p:=⟨b,i,none⟩) hW v⟩
theorem make_push {h:HM} {c:Nat} {bs:List Nat} (h0:h.makeE c bs=0):h.makeH c bs=h.pushH (makeX c bs) (packM bs):=by unfold HM.makeH; rw [if_pos h0]
theorem make_no {h:HM} {c:Nat} {bs:List Nat} (h0:h.makeE c bs≠0):h.makeH c bs=h:=by unfold HM.makeH; rw [if_neg h0]
theorem put_size (h:HM) (o:Nat) (i:Int) (v:Nat):(h.putH o i v).size=h.size:=by
 unfold HM.putH
 split <;> rfl
theorem copy_size (h:HM) (b:Nat) (f:Nat→Nat) (n:Nat):(h.copyK b f n).size=h.size:=by
 unfold HM.copyK
 generalize List.range n=l
 induction l generalizing h with
 | nil=>rfl
 | cons x l ih=>rw [List.foldl_cons,ih,put_size]
theorem Alloc_size (h:HM) (c:Nat) (f n:Int):(h.AllocH c f n).size=h.size:=by
 rw [HM.AllocH_eq]
 split <;> rfl
theorem setRoot_size (h:HM) (i:Int) (v:Nat):(h.setRootH i v).size=h.size:=by
 unfold HM.setRootH
 split <;> rfl
theorem grown_size (h:HM) (a n:Nat):(h.grownK a n).1.size=h.size:=by
 unfold HM.grownK
 split
 ·rfl
 ·split
  ·rfl
  ·show HM.size (HM.copyK _ _ _ _)=_
   rw [copy_size,Alloc_size]
theorem add_size (h:HM) (r o:Nat):(h.addK r o).1.size=h.size:=by
 unfold HM.addK
 split
 ·split
  ·rfl
  ·show HM.size (HM.putH _ _ _ _)=_
   rw [put_size,setRoot_size,grown_size]
 ·exact put_size ..
def IntR (h:HM) (t:List Nat) (b3:Nat) (E:Nat) (h1:HM) (w1:World):Prop:=
 if h.makeE (h.rt 18) t≠0 then E=h.makeE (h.rt 18) t
 else E=((h.makeH (h.rt 18) t).addK 3 (2*h.words.length)).2∧h1=((h.makeH (h.rt 18) t).addK 3 (2*h.words.length)).1∧Blk w1 b3 38 #[.int .u32 (2*h.words.length:Nat)]
section
variable {W w:World} {p:HP} {g:Nat} {h:HM} (L:Live W w p g h)
include L
set_option maxRecDepth 100000 in
set_option maxHeartbeats 4000000 in
theorem kint1_any (b1 b2 b3:Nat) (t:List Nat) (h8:∀ x∈t,x<256) (hlen:t.length≤9223372036854775807) (B1:Blk w b1 22 #[.pointer (some ⟨g,0,none⟩)]) (B2:Blk w b2 9 #[.string (txS t)]) (B3:Blk w b3 38 #[.int .u32 0])
 (hn:¬ p.has b1∧¬ p.has b2∧¬ p.has b3∧(b3≠b1∧b3≠b2)) (hW:W.heap.size≤b3) (hp:h.ptrsK (h.rt 3) 0=true):
 Calls Tryz.prog 135 #[.pointer (some ⟨b1,0,none⟩),.pointer (some ⟨b2,0,none⟩),.pointer (some ⟨b3,0,none⟩)] w (fun e w'=>∃ (E:Nat) (h':HM) (p':HP),e = .returned (.int .i64 (E:Nat))∧Live W w' p' g h'∧StepB p p' b3 w w'∧h'.size=h.size∧IntR h t b3 E h' w'):=by
 have HL:=Lib.hid L; have HB3:=Lib.hid B3; have HN:=Lib.hid hn; have H8:=Lib.hid h8; have HPT0:=Lib.hid hp
 have hn1:=hn.1; have hn2:=hn.2.1; have hn3:=hn.2.2.1; have hn4:=hn.2.2.2
 have hr18:h.rootN 18=h.rt 18:=rootN_rt h (i:=18) (by omega)
 have hc32:h.rt 18<4294967296:=L.fit.root 18
 have c1:=B1.cell 0
 have c2:=B2.cell 0
 have HB1:=Lib.hid B1; have HB2:=Lib.hid B2; have HC32:=Lib.hid hc32
 have hcv:=fun w=>txBytes w t
 clear L B3 B1 B2 hn h8 hp hc32
 go_enter Tryz.func135,Tryz.ntmps135
 go_upto_region 1 with fail
 have hbd:Below w.heap.size w w.drew:=below_drew (Below.refl _ _)
 have hbt:Below w.heap.size w (Lib.bytesWorld w.drew 5 (txS t)):=below_top hbd (txWorld_below w.drew t)
 have KC:=Lib.hid (show ∀ w',Below w.heap.size w w'→w'.cell? ⟨b1,0,none⟩=some (.pointer (some ⟨g,0,none⟩))∧w'.cell? ⟨b2,0,none⟩=some (.string (txS t)) from fun w' hb=>⟨(World.cell?_of_block (w:=w) (hb.block b1 HB1.out.lt)).trans c1,(World.cell?_of_block (w:=w) (hb.block b2 HB2.out.lt)).trans c2⟩)
 have HR:=Lib.hid (fun (w':World) (hb:Below w.heap.size w w')=>kroot_any (HL.out.after hb) 18)
 rw [hr18] at HR
 have HMK:=Lib.hid ((HL.out.after hbt).make (h.rt 18) HC32.out (some ⟨w.heap.size,0,none⟩) t.length (grownCap w.drew t.length 0 5) t hlen (txWorld_reads w.drew H8.out) H8.out)
 have HS3C:=Lib.hid (fun (w3:World) (p3:HP) (s3:Step p p3 (Lib.bytesWorld w.drew 5 (txS t)) w3)=>show w3.cell? ⟨b1,0,none⟩=some (.pointer (some ⟨g,0,none⟩))∧w3.cell? ⟨b2,0,none⟩=some (.string (txS t)) from⟨(World.cell?_of_block (w:=Lib.bytesWorld w.drew 5 (txS t)) (s3.block b1 (by have:=hbt.size; have:=HB1.out.lt; omega) hn1)).trans (KC.out _ hbt).1,(World.cell?_of_block (w:=Lib.bytesWorld w.drew 5 (txS t)) (s3.block b2 (by have:=hbt.size; have:=HB2.out.lt; omega) hn2)).trans (KC.out _ hbt).2⟩)
 clear c1 c2 hr18
 go_cut [4,5] (fun v4 v5 wx=>v4 = .int .u32 (h.makeO (h.rt 18) t:Nat)∧v5 = .int .i64 (h.makeE (h.rt 18) t:Nat)∧∃ p3,Live W wx p3 g (h.makeH (h.rt 18) t)∧Step p p3 w wx)
 case first=>
  refine wp_region_U 10 (fun w'=>w'.cell? ⟨b1,0,none⟩=some (.pointer (some ⟨g,0,none⟩))∧w'.cell? ⟨b2,0,none⟩=some (.string (txS t))) (by kernel_rfl) ?_
  have hS:=KC.out _ hbd
  refine U_readC 0 [5,6,7,9,10] (v:=(.pointer (some ⟨g,0,none⟩))) rfl (by kernel_rfl) (fun _ _ _ h=>h) hS (by kernel_rfl) (fun w' hw'=>by obtain⟨h0,h1⟩:=hw'; go_simp) ?_
  try simp only [Act.put,List.setIfInBounds_toArray,List.set_cons_zero,List.set_cons_succ]
  refine U_readC 1 [2,5,6,7,9,10] (v:=(.pointer (some ⟨g,0,none⟩))) rfl (by kernel_rfl) (fun _ _ _ h=>h) hS (by kernel_rfl) (fun w' hw'=>by obtain⟨h0,h1⟩:=hw'; go_simp) ?_
  try simp only [Act.put,List.setIfInBounds_toArray,List.set_cons_zero,List.set_cons_succ]
  refine U_readC 3 [4,5,6,7,9,10] (v:=(.string (txS t))) rfl (by kernel_rfl) (fun _ _ _ h=>h) hS (by kernel_rfl) (fun w' hw'=>by obtain⟨h0,h1⟩:=hw'; go_simp) ?_
  try simp only [Act.put,List.setIfInBounds_toArray,List.set_cons_zero,List.set_cons_succ]
  refine U_two 2 4 (by kernel_rfl) rfl rfl rfl rfl (fun K hK=>?_) (fun K hK=>?_)
  ·go_simp
   refine (HR.out _ hbd).mono ?_
   rintro e w1 ⟨rfl,rfl⟩
   refine hK _ _ (fun _=>hS) ?_
   clear hK K
   try simp only [Act.put,List.setIfInBounds_toArray,List.set_cons_zero,List.set_cons_succ]
   refine U_one 4 (by kernel_rfl) rfl rfl (fun K hK=>?_)
   go_simp
   refine hK _ _ (fun _=>KC.out _ hbt) ?_
   clear hK K
   try simp only [Act.put,List.setIfInBounds_toArray,List.set_cons_zero,List.set_cons_succ]
   clear hS
   have hS:=KC.out _ hbt
   refine U_one 5 (by kernel_rfl) rfl rfl (fun K hK=>?_)
   go_simp
   refine HMK.out.mono ?_
   rintro e w3 ⟨p3,rfl,L3,s3⟩
   have hS3:=HS3C.out _ _ s3
   refine hK _ _ (fun _=>hS3) ?_
   clear hK K
   try simp only [Act.put,List.setIfInBounds_toArray,List.set_cons_zero,List.set_cons_succ]
   clear hS
   have hS:=hS3
   refine U_one 6 (by kernel_rfl) rfl rfl (fun K hK=>?_)
   go_simp
   refine hK _ _ (fun _=>hS) ?_
   clear hK K
   try simp only [Act.put,List.setIfInBounds_toArray,List.set_cons_zero,List.set_cons_succ]
   refine U_readC 7 [9,10] (v:=(.int .u32 (h.makeO (h.rt 18) t:Nat))) rfl (by kernel_rfl) (fun _ _ _ h=>h) hS (by kernel_rfl) (fun w' hw'=>by obtain⟨h0,h1⟩:=hw'; go_simp) ?_
   try simp only [Act.put,List.setIfInBounds_toArray,List.set_cons_zero,List.set_cons_succ]
   refine U_readC 8 [10] (v:=(.int .i64 (h.makeE (h.rt 18) t:Nat))) rfl (by kernel_rfl) (fun _ _ _ h=>h) hS (by kernel_rfl) (fun w' hw'=>by obtain⟨h0,h1⟩:=hw'; go_simp) ?_
   try simp only [Act.put,List.setIfInBounds_toArray,List.set_cons_zero,List.set_cons_succ]
   refine U_one 9 (by kernel_rfl) rfl rfl (fun K hK=>?_)
   go_simp
   refine hK _ _ (fun _=>hS) ?_
   clear hK K
   try simp only [Act.put,List.setIfInBounds_toArray,List.set_cons_zero,List.set_cons_succ]
   refine U_one 10 (by kernel_rfl) rfl rfl (fun K hK=>?_)
   go_simp
   refine hK _ _ (fun h=>absurd h (by decide)) ?_
   clear hK K
   try simp only [Act.put,List.setIfInBounds_toArray,List.set_cons_zero,List.set_cons_succ]
   refine U_done (by kernel_rfl) ?_ _
   simp only [Calm,Exit.then]
   go_wp2_with fail
   go_meet
   exact⟨rfl,rfl,p3,L3,(Step.of_below hbt).trans s3⟩
  ·go_simp
   refine hK _ _ (fun _=>KC.out _ hbt) ?_
   clear hK K
   try simp only [Act.put,List.setIfInBounds_toArray,List.set_cons_zero,List.set_cons_succ]
   clear hS
   have hS:=KC.out _ hbt
   refine U_one 2 (by kernel_rfl) rfl rfl (fun K hK=>?_)
   go_simp
   refine (HR.out _ hbt).mono ?_
   rintro e w1 ⟨rfl,rfl⟩
   refine hK _ _ (fun _=>hS) ?_
   clear hK K
   try simp only [Act.put,List.setIfInBounds_toArray,List.set_cons_zero,List.set_cons_succ]
   refine U_one 5 (by kernel_rfl) rfl rfl (fun K hK=>?_)
   go_simp
   refine HMK.out.mono ?_
   rintro e w3 ⟨p3,rfl,L3,s3⟩
   have hS3:=HS3C.out _ _ s3
   refine hK _ _ (fun _=>hS3) ?_
   clear hK K
   try simp only [Act.put,List.setIfInBounds_toArray,List.set_cons_zero,List.set_cons_succ]
   clear hS
   have hS:=hS3
   refine U_one 6 (by kernel_rfl) rfl rfl (fun K hK=>?_)
   go_simp
   refine hK _ _ (fun _=>hS) ?_
   clear hK K
   try simp only [Act.put,List.setIfInBounds_toArray,List.set_cons_zero,List.set_cons_succ]
   refine U_readC 7 [9,10] (v:=(.int .u32 (h.makeO (h.rt 18) t:Nat))) rfl (by kernel_rfl) (fun _ _ _ h=>h) hS (by kernel_rfl) (fun w' hw'=>by obtain⟨h0,h1⟩:=hw'; go_simp) ?_
   try simp only [Act.put,List.setIfInBounds_toArray,List.set_cons_zero,List.set_cons_succ]
   refine U_readC 8 [10] (v:=(.int .i64 (h.makeE (h.rt 18) t:Nat))) rfl (by kernel_rfl) (fun _ _ _ h=>h) hS (by kernel_rfl) (fun w' hw'=>by obtain⟨h0,h1⟩:=hw'; go_simp) ?_
   try simp only [Act.put,List.setIfInBounds_toArray,List.set_cons_zero,List.set_cons_succ]
   refine U_one 9 (by kernel_rfl) rfl rfl (fun K hK=>?_)
   go_simp
   refine hK _ _ (fun _=>hS) ?_
   clear hK K
   try simp only [Act.put,List.setIfInBounds_toArray,List.set_cons_zero,List.set_cons_succ]
   refine U_one 10 (by kernel_rfl) rfl rfl (fun K hK=>?_)
   go_simp
   refine hK _ _ (fun h=>absurd h (by decide)) ?_
   clear hK K
   try simp only [Act.put,List.setIfInBounds_toArray,List.set_cons_zero,List.set_cons_succ]
   refine U_done (by kernel_rfl) ?_ _
   simp only [Calm,Exit.then]
   go_wp2_with fail
   go_meet
   exact⟨rfl,rfl,p3,L3,(Step.of_below hbt).trans s3⟩
 case rest=>
  obtain⟨rfl,rfl,p3,L3,s3⟩:=hcut
  have HL3:=Lib.hid L3
  have HS3:=Lib.hid s3
  obtain⟨w3,hw3⟩ :∃ x,x=wc:=⟨_,rfl⟩
  subst hw3
  clear L3 s3 HMK HR KC HS3C hbd hbt
  obtain⟨E,hE⟩ :∃ E,E=h.makeE (h.rt 18) t:=⟨_,rfl⟩
  obtain⟨o,ho⟩ :∃ o,o=h.makeO (h.rt 18) t:=⟨_,rfl⟩
  have HE:=Lib.hid hE; have HO:=Lib.hid ho
  rw [← hE,← ho]
  by_cases hE0:E=0
  rotate_left
  ·have hne:((E:Int) != 0)=true:=by simp; omega
   have hnei:¬ ((E:Int)=0):=by omega
   have hh:=make_no (h:=h) (c:=h.rt 18) (bs:=t) (by rw [← hE]; exact hE0)
   have HL4:=Lib.hid (show Live W w3 p3 g h from by have:=HL3.out; rw [hh] at this; exact this)
   have HRR:=Lib.hid (show IntR h t b3 E h w3 from by unfold IntR; rw [← hE,if_pos hE0])
   clear hh HL3 hE ho hE0
   go_wp2_with fail
   go_ret
   exact⟨E,h,p3,rfl,HL4.out,StepB.of_step HS3.out,rfl,HRR.out⟩
  ·have hE1:h.makeE (h.rt 18) t=0:=by rw [← hE]; exact hE0
   have ho2:o=2*h.words.length:=by rw [ho]; unfold HM.makeO; rw [if_pos hE1]
   have hmp:=make_push hE1
   obtain⟨l,G⟩:=HL.out.good
   have K1:Kp h (h.makeH (h.rt 18) t):=by rw [hmp]; exact Kp.push G _ _
   have hr3:(h.makeH (h.rt 18) t).rt 3=h.rt 3:=by rw [hmp]; rfl
   have hsz:(h.makeH (h.rt 18) t).size=h.size:=by rw [hmp]; rfl
   have hp3:(h.makeH (h.rt 18) t).ptrsK ((h.makeH (h.rt 18) t).rt 3) 0=true:=by rw [hr3,K1.ptrs (sizK_of HPT0.out).1]; exact HPT0.out
   have hvb:(h.makeH (h.rt 18) t).valB o=true:=by unfold HM.valB; rw [ho2,hmp,push_isB G]; simp
   have hl1:=G.fit.hi; have hl2:=G.fit.room
   have ho32:o<4294967296:=by omega
   have hn3b:¬ p3.has b3:=fun q=>by rcases HS3.out.rows b3 q with q | q; exact hn3 q; have:=HB3.out.lt; omega
   have HB4:=Lib.hid (HB3.out.same (HS3.out.block b3 HB3.out.lt hn3))
   have d3:=HB4.out.cell 0; have y3:=HB4.out.frozen 0
   have HL4:=Lib.hid (HL3.out.far2 hn3b hW 0 (.int .u32 (o:Nat)))
   have HPT:=Lib.hid (kput_any HL4.out 3 (by omega) o ho32 hp3 hvb)
   have HB5:=Lib.hid (HB4.out.set_ 0 (.int .u32 (o:Nat)))
   have HS4:=Lib.hid ((StepB.of_step HS3.out:StepB p p3 b3 w w3).setBox 0 (.int .u32 (o:Nat)))
   have HB6:=Lib.hid (show (w3.setCell ⟨b3,0,none⟩ (.int .u32 (o:Nat))).cell? ⟨b1,0,none⟩=some (.pointer (some ⟨g,0,none⟩)) from (World.cell?_of_block (w:=w3) (Below.heap_setCell w3 ⟨b3,0,none⟩ _ b1 (fun q=>hn4.1 q.symm))).trans ((World.cell?_of_block (w:=w) (HS3.out.block b1 HB1.out.lt hn1)).trans (HB1.out.cell 0)))
   have hc1:=HB6.out
   have HE1:=Lib.hid hE1; have HO2:=Lib.hid ho2; have HSZ:=Lib.hid hsz; have HN3:=Lib.hid hn3b
   subst hE0
   clear hE1 ho2 hmp K1 hr3 hsz hp3 hvb hl1 hl2 ho32 hn3b HL3 HS3 G hE ho HB4 HB6
   go_wp2_with fail
   generalize w3.setCell ⟨b3,0,none⟩ (.int .u32 (o:Int))=w4 at *
   clear d3 y3 hc1
   refine HPT.out.mono ?_
   rintro e w5 ⟨p5,rfl,L5,s5⟩
   have HL5:=Lib.hid L5
   have HS5:=Lib.hid (HS4.out.trans (StepB.of_step s5))
   have HB7:=Lib.hid (HB5.out.same (s5.block b3 HB5.out.lt HN3.out))
   have HRR:=Lib.hid (show IntR h t b3 ((h.makeH (h.rt 18) t).addK 3 o).2 ((h.makeH (h.rt 18) t).addK 3 o).1 w5 from by
    unfold IntR
    rw [if_neg (fun q=>q HE1.out),← HO2.out]
    exact⟨rfl,rfl,HB7.out⟩)
   have HSZ2:=Lib.hid (show ((h.makeH (h.rt 18) t).addK 3 o).1.size=h.size from by rw [add_size]; exact HSZ.out)
   clear L5 s5 HPT HS4
   generalize ((h.makeH (h.rt 18) t).addK 3 o).2=E5 at *
   go_wp2_with fail
   go_ret
   exact⟨E5,_,p5,rfl,HL5.out,HS5.out,HSZ2.out,HRR.out⟩
end
end
section
open Go.RowKit
attribute [local go_sem] Oper.semAt_some
theorem sym_lt {h:HM} (f:h.Fit) (t:List Nat):h.symK t<4294967296:=by
 unfold HM.symK
 split
 ·omega
 ·cases hq:(h.entK (h.rt 3)).find? (h.isTx · t) with
  | none=>simp
  | some x=>
    have hm:=List.mem_of_find?_eq_some hq
    unfold HM.entK at hm
    split at hm
    ·have:=(List.takeWhile_sublist _).subset hm
     obtain⟨i,_,rfl⟩:=List.mem_map.1 this
     exact HM.readN_lt f _ _ _
    ·cases hm
section
variable {W w:World} {p:HP} {g:Nat} {h:HM} (L:Live W w p g h)
include L
set_option maxRecDepth 100000 in
set_option maxHeartbeats 8000000 in
theorem kintern_any (t:List Nat) (h8:∀ x∈t,x<256) (hlen:t.length≤9223372036854775807):
 Calls Tryz.prog 90 #[.pointer (some ⟨g,0,none⟩),.string (txS t)] w (Done W p g (h.internK t).1 (.tuple #[.int .u32 ((h.internK t).2.1:Nat),.int .i64 ((h.internK t).2.2:Nat)]) w):=by
 have hb1:Below w.heap.size w (w.alloc (.cells #[.pointer (some ⟨g,0,none⟩)] 22)):=(Below.refl _ _).alloc (Nat.le_refl _) _
 have hb2:Below w.heap.size w ((w.alloc (.cells #[.pointer (some ⟨g,0,none⟩)] 22)).alloc (.cells #[.string (txS t)] 9)):=hb1.alloc hb1.size _
 have HX1:=Lib.hid ((Blk.new w 22 #[.pointer (some ⟨g,0,none⟩)]).alloc (.cells #[.string (txS t)] 9))
 have HX2:=Lib.hid (Blk.new (w.alloc (.cells #[.pointer (some ⟨g,0,none⟩)] 22)) 9 #[.string (txS t)])
 have hs1:(w.alloc (.cells #[.pointer (some ⟨g,0,none⟩)] 22)).heap.size=w.heap.size+1:=by simp
 rw [hs1] at HX2
 have HB2:=Lib.hid hb2
 have HL2:=Lib.hid (L.after hb2)
 have HPL:=Lib.hid (show ∀ k,p.has k→k<w.heap.size from fun k hk=>L.at_.lt hk)
 have HWw:=Lib.hid (show W.heap.size≤w.heap.size from L.below.size)
 have hsy:=sym_lt L.fit t
 have hr3:h.rootN 3=h.rt 3:=rootN_rt h (i:=3) (by omega)
 have hr32:h.rt 3<4294967296:=L.fit.root 3
 have HI:=Lib.hid (show h.internK t=if h.symK t≠0 then (h,h.symK t,0)
  else if h.bareK∨h.ptrsK (h.rt 3) 0=false then (h,0,40)
  else if h.makeE (h.rt 18) t≠0 then (h,0,h.makeE (h.rt 18) t)
  else if ((h.makeH (h.rt 18) t).addK 3 (2*h.words.length)).2≠0 then (h,0,((h.makeH (h.rt 18) t).addK 3 (2*h.words.length)).2)
  else (((h.makeH (h.rt 18) t).addK 3 (2*h.words.length)).1,2*h.words.length,0) from rfl)
 have H8:=Lib.hid h8; have HR32:=Lib.hid hr32; have HR3:=Lib.hid hr3
 clear L hb1 hb2 hs1 h8 hr32 hr3
 go_enter Tryz.func90,Tryz.ntmps90
 go_upto_region 1 with fail
 generalize (w.alloc (.cells #[.pointer (some ⟨g,0,none⟩)] 22)).alloc (.cells #[.string (txS t)] 9)=w2 at *
 have c1:=HX1.out.cell 0
 have c2:=HX2.out.cell 0
 have HSY:=Lib.hid (ksymbol_any HL2.out t H8.out)
 go_wp2_with fail
 refine HSY.out.mono ?_
 rintro e w3 ⟨rfl,hb3⟩
 have HB3:=Lib.hid hb3
 clear hb3 HSY c1 c2
 by_cases hs0:h.symK t=0
 rotate_left
 ·have hI:=HI.out.trans (if_pos hs0)
  generalize h.symK t=sy at *
  have hne:((sy:Int) != 0)=true:=by simp; omega
  have hnei:¬ ((sy:Int)=0):=by omega
  have HI2:=Lib.hid hI
  have HLF:=Lib.hid (HL2.out.after HB3.out)
  have HBF:=Lib.hid (below_top HB2.out HB3.out)
  clear hI HI hs0
  go_wp2_with fail
  go_ret2
  rw [HI2.out]
  exact⟨p,rfl,HLF.out,Step.of_below HBF.out⟩
 have HI2:=Lib.hid (HI.out.trans (if_neg (fun q=>q hs0)))
 rw [hs0]
 clear hs0 HI hsy
 go_upto_region 4 with fail
 have HX13:=Lib.hid (HX1.out.below HB3.out HX1.out.lt)
 have HX23:=Lib.hid (HX2.out.below HB3.out HX2.out.lt)
 have HL3:=Lib.hid (HL2.out.after HB3.out)
 have HBW3:=Lib.hid (below_top HB2.out HB3.out)
 clear HX1 HX2 HL2 HB2 HB3
 have HBR:=Lib.hid (fun (w':World) (hb:Below w3.heap.size w3 w')=>kbare_any (HL3.out.after hb))
 have HRT:=Lib.hid (fun (w':World) (hb:Below w3.heap.size w3 w')=>kroot_any (HL3.out.after hb) 3)
 rw [HR3.out] at HRT
 have HPT:=Lib.hid (fun (w':World) (hb:Below w3.heap.size w3 w')=>kptrs_any (HL3.out.after hb) (h.rt 3) HR32.out 0 (by omega))
 have HINV:=Lib.hid (fun (w':World) (hb:Below w3.heap.size w3 w')=>show w'.cell? ⟨w.heap.size,0,none⟩=some (.pointer (some ⟨g,0,none⟩))∧True from⟨(HX13.out.below hb HX13.out.lt).cell 0,trivial⟩)
 go_cut [23] (fun v23 wx=>v23 = .bool (h.bareK || !h.ptrsK (h.rt 3) 0)∧Below w3.heap.size w3 wx)
 case first=>
  have hB0:Below w3.heap.size w3 w3.drew:=below_drew (Below.refl _ _)
  generalize h.rt 3=r3 at *
  refine wp_region_U 8 (fun w'=>w'.cell? ⟨w.heap.size,0,none⟩=some (.pointer (some ⟨g,0,none⟩))∧True) (by kernel_rfl) ?_
  have hS:=HINV.out _ hB0
  refine U_readC 0 [1,2,8] (v:=(.pointer (some ⟨g,0,none⟩))) rfl (by kernel_rfl) (fun _ _ _ h=>h) hS (by kernel_rfl) (fun w' hw'=>by obtain⟨h0,h1⟩:=hw'; go_simp) ?_
  try simp only [Act.put,List.setIfInBounds_toArray,List.set_cons_zero,List.set_cons_succ]
  refine U_one 1 (by kernel_rfl) rfl rfl (fun K hK=>?_)
  go_simp
  refine (HBR.out _ hB0).mono ?_
  rintro e w5 ⟨rfl,hb5⟩
  have hB5:=below_top hB0 hb5
  have hS5:=HINV.out _ hB5
  refine hK _ _ (fun _=>hS5) ?_
  clear hK K
  try simp only [Act.put,List.setIfInBounds_toArray,List.set_cons_zero,List.set_cons_succ]
  clear hS
  have hS:=hS5
  cases hbk:h.bareK with
  | true=>
    refine U_readC 2 [8] (v:=(.bool true)) rfl (by kernel_rfl) (fun _ _ _ h=>h) hS (by kernel_rfl) (fun w' hw'=>by obtain⟨h0,h1⟩:=hw'; go_simp) ?_
    try simp only [Act.put,List.setIfInBounds_toArray,List.set_cons_zero,List.set_cons_succ]
    refine U_skipG 3 [6,7,8] rfl (by kernel_rfl) (fun _ _ _ h=>h) hS (by kernel_rfl) ?_
    try simp only [Act.put,List.setIfInBounds_toArray,List.set_cons_zero,List.set_cons_succ]
    refine U_skipG 4 [5,6,7,8] rfl (by kernel_rfl) (fun _ _ _ h=>h) hS (by kernel_rfl) ?_
    try simp only [Act.put,List.setIfInBounds_toArray,List.set_cons_zero,List.set_cons_succ]
    refine U_skipG 5 [6,7,8] rfl (by kernel_rfl) (fun _ _ _ h=>h) hS (by kernel_rfl) ?_
    try simp only [Act.put,List.setIfInBounds_toArray,List.set_cons_zero,List.set_cons_succ]
    refine U_skipG 6 [7,8] rfl (by kernel_rfl) (fun _ _ _ h=>h) hS (by kernel_rfl) ?_
    try simp only [Act.put,List.setIfInBounds_toArray,List.set_cons_zero,List.set_cons_succ]
    refine U_skipG 7 [8] rfl (by kernel_rfl) (fun _ _ _ h=>h) hS (by kernel_rfl) ?_
    try simp only [Act.put,List.setIfInBounds_toArray,List.set_cons_zero,List.set_cons_succ]
    refine U_one 8 (by kernel_rfl) rfl rfl (fun K hK=>?_)
    go_simp
    refine hK _ _ (fun h=>absurd h (by decide)) ?_
    clear hK K
    try simp only [Act.put,List.setIfInBounds_toArray,List.set_cons_zero,List.set_cons_succ]
    refine U_done (by kernel_rfl) ?_ _
    simp only [Calm,Exit.then]
    go_wp2_with fail
    go_meet
    exact⟨by rw [hbk]; simp,hB5⟩
  | false=>
    refine U_readC 2 [8] (v:=(.bool false)) rfl (by kernel_rfl) (fun _ _ _ h=>h) hS (by kernel_rfl) (fun w' hw'=>by obtain⟨h0,h1⟩:=hw'; go_simp) ?_
    try simp only [Act.put,List.setIfInBounds_toArray,List.set_cons_zero,List.set_cons_succ]
    refine U_readC 3 [6,7,8] (v:=(.pointer (some ⟨g,0,none⟩))) rfl (by kernel_rfl) (fun _ _ _ h=>h) hS (by kernel_rfl) (fun w' hw'=>by obtain⟨h0,h1⟩:=hw'; go_simp) ?_
    try simp only [Act.put,List.setIfInBounds_toArray,List.set_cons_zero,List.set_cons_succ]
    refine U_readC 4 [5,6,7,8] (v:=(.pointer (some ⟨g,0,none⟩))) rfl (by kernel_rfl) (fun _ _ _ h=>h) hS (by kernel_rfl) (fun w' hw'=>by obtain⟨h0,h1⟩:=hw'; go_simp) ?_
    try simp only [Act.put,List.setIfInBounds_toArray,List.set_cons_zero,List.set_cons_succ]
    refine U_oneG 5 (by kernel_rfl) rfl (by kernel_rfl) (fun K hK=>?_)
    go_simp
    refine (HRT.out _ hB5).mono ?_
    rintro e w6 ⟨rfl,rfl⟩
    refine hK _ _ (fun _=>hS5) ?_
    clear hK K
    try simp only [Act.put,List.setIfInBounds_toArray,List.set_cons_zero,List.set_cons_succ]
    refine U_oneG 6 (by kernel_rfl) rfl (by kernel_rfl) (fun K hK=>?_)
    go_simp
    refine (HPT.out _ hB5).mono ?_
    rintro e w7 ⟨rfl,hb7⟩
    have hB7:=below_top hB5 hb7
    have hS7:=HINV.out _ hB7
    refine hK _ _ (fun _=>hS7) ?_
    clear hK K
    try simp only [Act.put,List.setIfInBounds_toArray,List.set_cons_zero,List.set_cons_succ]
    clear hS
    have hS:=hS7
    generalize h.ptrsK r3 0=b at *
    refine U_readC 7 [8] (v:=(.bool (!b))) rfl (by kernel_rfl) (fun _ _ _ h=>h) hS (by kernel_rfl) (fun w' hw'=>by obtain⟨h0,h1⟩:=hw'; go_simp) ?_
    try simp only [Act.put,List.setIfInBounds_toArray,List.set_cons_zero,List.set_cons_succ]
    refine U_one 8 (by kernel_rfl) rfl rfl (fun K hK=>?_)
    go_simp
    refine hK _ _ (fun h=>absurd h (by decide)) ?_
    clear hK K
    try simp only [Act.put,List.setIfInBounds_toArray,List.set_cons_zero,List.set_cons_succ]
    refine U_done (by kernel_rfl) ?_ _
    simp only [Calm,Exit.then]
    go_wp2_with fail
    go_meet
    exact⟨by rw [hbk]; simp,hB7⟩
 case rest=>
  obtain⟨rfl,hbc⟩:=hcut
  have HBC:=Lib.hid hbc
  have hsz3:w.heap.size+1<w3.heap.size:=HX23.out.lt
  have hszc:=hbc.size
  clear hbc HBR HRT HPT HINV
  cases hc:(h.bareK || !h.ptrsK (h.rt 3) 0) with
  | true=>
    have hcc:h.bareK=true∨h.ptrsK (h.rt 3) 0=false:=by simpa using hc
    have HI3:=Lib.hid (HI2.out.trans (if_pos hcc))
    have HLF:=Lib.hid (HL3.out.after HBC.out)
    have HBF:=Lib.hid (below_top HBW3.out HBC.out)
    clear hcc hc HI2
    go_wp2_with fail
    go_ret2
    rw [HI3.out]
    exact⟨p,rfl,HLF.out,Step.of_below HBF.out⟩
  | false=>
    have hcc:¬ (h.bareK=true∨h.ptrsK (h.rt 3) 0=false):=by
     rintro (q | q)
     ·rw [q] at hc; cases hc
     ·rw [q] at hc; simp at hc
    have HI3:=Lib.hid (HI2.out.trans (if_neg hcc))
    have hp3:h.ptrsK (h.rt 3) 0=true:=by
     cases q:h.ptrsK (h.rt 3) 0 with
     | true=>rfl
     | false=>exact absurd (.inr q) hcc
    have hb4:Below wc.heap.size wc (wc.alloc (.cells #[.int .u32 0] 38)):=(Below.refl _ _).alloc (Nat.le_refl _) _
    have hbt:=below_top HBC.out hb4
    have HX14:=Lib.hid (HX13.out.below hbt HX13.out.lt)
    have HX24:=Lib.hid (HX23.out.below hbt HX23.out.lt)
    have HX34:=Lib.hid (Blk.new wc 38 #[.int .u32 0])
    have HL4:=Lib.hid (HL3.out.after hbt)
    have HBW4:=Lib.hid (below_top HBW3.out hbt)
    have hx3:wc.heap.size<(wc.alloc (.cells #[.int .u32 0] 38)).heap.size:=by simp
    have HUN:=Lib.hid (kundoI_any HL4.out w.heap.size (w.heap.size+1) wc.heap.size wc.heap.size hx3 (IntR h t wc.heap.size) (fun w1 hb=>kint1_any (HL4.out.after hb) w.heap.size (w.heap.size+1) wc.heap.size t H8.out hlen (HX14.out.below hb HX14.out.lt) (HX24.out.below hb HX24.out.lt) (HX34.out.below hb HX34.out.lt)
     ⟨fun q=>by have:=HPL.out _ q; omega,fun q=>by have:=HPL.out _ q; omega,fun q=>by have:=HPL.out _ q; omega,by omega,by omega⟩ (by have:=HWw.out; omega) hp3))
    have d1:=HX14.out.cell 0
    clear hcc hc HI2 hb4 hbt HX13 HX23 HL3 HX24 HX34 HL4 HBW3 HBC hp3
    go_upto_region 7 with fail
    generalize wc.alloc (.cells #[.int .u32 0] 38)=w4 at *
    generalize hb3:wc.heap.size=b3 at *
    have HB3:=Lib.hid hb3
    clear hb3
    go_wp2_with fail
    refine HUN.out.mono ?_
    rintro e w5 ⟨E,h',p',rfl,L5,s5,hne,h1,w1,hR,hz⟩
    have HS5:=Lib.hid (s5.step HBW4.out HPL.out (by omega))
    have HL5:=Lib.hid L5
    have hR2:=hR
    unfold IntR at hR2
    by_cases hE:E=0
    ·obtain⟨e1,e2⟩:=hz hE
     subst e1 e2
     have hm:h.makeE (h.rt 18) t=0:=Classical.byContradiction fun q=>by
      rw [if_pos q] at hR2
      omega
     rw [if_neg (fun q=>q hm)] at hR2
     obtain⟨f1,f2,f3⟩:=hR2
     have HI4:=Lib.hid ((HI3.out.trans (if_neg (fun q=>q hm))).trans (if_neg (fun q=>q (f1.symm.trans hE))))
     rw [← f2] at HI4
     have c3:=f3.cell 0
     subst hE
     clear L5 s5 hne hR hz hm f1 f2 f3 HUN HI3
     generalize 2*h.words.length=o at *
     go_wp2_with fail
     go_ret2
     rw [HI4.out]
     exact⟨p',rfl,HL5.out,HS5.out⟩
    ·have hh:=hne hE
     have HI4:=Lib.hid (show h.internK t=(h,0,E) from by
      rw [HI3.out]
      by_cases hm:h.makeE (h.rt 18) t=0
      ·rw [if_neg (fun q=>q hm)] at hR2 ⊢
       rw [if_pos (by rw [← hR2.1]; exact hE),← hR2.1]
      ·rw [if_pos hm] at hR2 ⊢
       rw [hR2])
     subst hh
     have hnE:((E:Int) != 0)=true:=by simp; omega
     have hnEi:¬ ((E:Int)=0):=by omega
     clear L5 s5 hne hR hz hR2 HUN HI3 hE
     go_wp2_with fail
     go_ret2
     rw [HI4.out]
     exact⟨p',rfl,HL5.out,HS5.out⟩
end
end
section
open Go.RowKit
section
variable {h:HM} {l:List Ob}
theorem put_rt (h:HM) (o:Nat) (i:Int) (v j:Nat):(h.putH o i v).rt j=h.rt j:=by
 unfold HM.putH
 split <;> rfl
theorem copy_rt (h:HM) (b:Nat) (f:Nat→Nat) (n j:Nat):(h.copyK b f n).rt j=h.rt j:=by
 unfold HM.copyK
 generalize List.range n=l
 induction l generalizing h with
 | nil=>rfl
 | cons x l ih=>rw [List.foldl_cons,ih,put_rt]
theorem Alloc_rt (h:HM) (c:Nat) (f n:Int) (j:Nat):(h.AllocH c f n).rt j=h.rt j:=by
 rw [HM.AllocH_eq]
 split <;> rfl
theorem make_rt (h:HM) (c:Nat) (bs:List Nat) (j:Nat):(h.makeH c bs).rt j=h.rt j:=by
 unfold HM.makeH
 split <;> rfl
theorem setRoot_rt (h:HM) (r v j:Nat) (hj:j≠r):(h.setRootH (r:Nat) v).rt j=h.rt j:=by
 unfold HM.setRootH
 split
 ·unfold HM.rt
  simp only [Int.toNat_natCast]
  rw [List.getD_eq_getElem?_getD,List.getD_eq_getElem?_getD,List.getElem?_set,if_neg (fun e=>hj e.symm)]
 ·rfl
theorem grown_rt (h:HM) (a n j:Nat):(h.grownK a n).1.rt j=h.rt j:=by
 unfold HM.grownK
 split
 ·rfl
 ·split
  ·rfl
  ·show HM.rt (HM.copyK _ _ _ _) _=_
   rw [copy_rt,Alloc_rt]
theorem grown_lt {a n:Nat} (G:h.Good l):(h.grownK a n).2.1<4294967296:=by
 have h1:=G.fit.hi
 have h2:=G.fit.room
 unfold HM.grownK
 split
 ·show (0:Nat)<4294967296; omega
 ·split
  ·show (0:Nat)<4294967296; omega
  ·show 2*h.words.length<4294967296
   omega
theorem add_kp (G:h.Good l) (r o:Nat) (ho:o<4294967296):(∃ l',(h.addK r o).1.Good l')∧Kp h (h.addK r o).1∧∀ j,j≠r→(h.addK r o).1.rt j=h.rt j:=by
 unfold HM.addK
 split
 ·split
  ·exact ⟨⟨l,G⟩,Kp.refl h,fun _ _=>rfl⟩
  ·rename_i hE
   have hE0:(h.grownK (h.rt r) (max 1 (2*h.sizK (h.rt r)))).2.2=0:=Classical.byContradiction hE
   obtain⟨-,-,⟨l1,G1⟩,K1,-,-⟩:=grown_new G hE0
   have hl:=grown_lt (a:=h.rt r) (n:=max 1 (2*h.sizK (h.rt r))) G
   have G2:=G1.setRootH (r:Nat) _ hl
   obtain⟨l3,G3,-⟩:=G2.putH (h.grownK (h.rt r) (max 1 (2*h.sizK (h.rt r)))).2.1 (h.entK (h.rt r)).length o ho
   refine⟨⟨l3,G3⟩,(K1.trans (Kp.setRoot _ _)).trans (Kp.put G2 _ _ _),fun j hj=>?_⟩
   show HM.rt (HM.putH _ _ _ _) j=_
   rw [put_rt,setRoot_rt _ _ _ _ hj,grown_rt]
 ·obtain⟨l3,G3,-⟩:=G.putH (h.rt r) (h.entK (h.rt r)).length o ho
  exact⟨⟨l3,G3⟩,Kp.put G _ _ _,fun j _=>put_rt ..⟩
theorem intern_kp (G:h.Good l) (t:List Nat) (h8:∀ x∈t,x<256):(∃ l',(h.internK t).1.Good l')∧Kp h (h.internK t).1∧∀ j,j≠3→(h.internK t).1.rt j=h.rt j:=by
 unfold HM.internK
 split
 ·exact ⟨⟨l,G⟩,Kp.refl h,fun _ _=>rfl⟩
 ·split
  ·exact ⟨⟨l,G⟩,Kp.refl h,fun _ _=>rfl⟩
  ·split
   ·exact ⟨⟨l,G⟩,Kp.refl h,fun _ _=>rfl⟩
   ·rename_i hm
    split
    ·exact ⟨⟨l,G⟩,Kp.refl h,fun _ _=>rfl⟩
    ·have hm0:h.makeE (h.rt 18) t=0:=Classical.byContradiction hm
     have G1:=G.makeH (h.rt 18) t (G.fit.root 18) h8 hm0
     have K1:Kp h (h.makeH (h.rt 18) t):=by rw [make_push hm0]; exact Kp.push G _ _
     have h1:=G.fit.hi
     have h2:=G.fit.room
     obtain⟨⟨l2,G2⟩,K2,R2⟩:=add_kp G1 3 (2*h.words.length) (by omega)
     exact⟨⟨l2,G2⟩,K1.trans K2,fun j hj=>(R2 j hj).trans (make_rt ..)⟩
theorem intern_size (h:HM) (t:List Nat):(h.internK t).1.size=h.size:=by
 unfold HM.internK
 split
 ·rfl
 ·split
  ·rfl
  ·split
   ·rfl
   ·split
    ·rfl
    ·show HM.size (HM.addK _ _ _).1=_
     rw [add_size]
     unfold HM.makeH
     split <;> rfl
theorem intern_lt (G:h.Good l) (t:List Nat):(h.internK t).2.1<4294967296:=by
 have h1:=G.fit.hi
 have h2:=G.fit.room
 have h3:h.symK t<4294967296:=by
  unfold HM.symK
  split
  ·omega
  ·cases hq:(h.entK (h.rt 3)).find? (h.isTx · t) with
   | none=>simp
   | some x=>
     have hm:=List.mem_of_find?_eq_some hq
     unfold HM.entK at hm
     split at hm
     ·have:=(List.takeWhile_sublist _).subset hm
      obtain⟨i,_,rfl⟩:=List.mem_map.1 this
      exact HM.readN_lt G.fit _ _ _
     ·cases hm
 unfold HM.internK
 split
 ·exact h3
 ·split
  ·show (0:Nat)<_; omega
  ·split
   ·show (0:Nat)<_; omega
   ·split
    ·show (0:Nat)<_; omega
    ·show 2*h.words.length<_; omega
end
end
section
open Go.RowKit
attribute [local go_sem] Oper.semAt_some
structure Box4 (p:HP) (g:Nat) (w:World) (b1 b2 b3 b4:Nat) (t:List Nat) (o v:Nat):Prop where
 k1:Blk w b1 22 #[.pointer (some ⟨g,0,none⟩)]
 k2:Blk w b2 9 #[.string (txS t)]
 k3:Blk w b3 38 #[.int .u32 o]
 k4:Blk w b4 38 #[.int .u32 v]
 n1:¬ p.has b1
 n2:¬ p.has b2
 n3:¬ p.has b3
 n4:¬ p.has b4
 d:b3≠b1∧b3≠b2∧b3≠b4
theorem Box4.step {p p':HP} {g:Nat} {w w':World} {b1 b2 b3 b4:Nat} {t:List Nat} {o v:Nat} (B:Box4 p g w b1 b2 b3 b4 t o v) (s:Step p p' w w'):Box4 p' g w' b1 b2 b3 b4 t o v:=by
 have hn:∀ b,b<w.heap.size→¬ p.has b→¬ p'.has b:=fun b h1 h2 q=>by rcases s.rows b q with q | q; exact h2 q; omega
 exact⟨B.k1.same (s.block b1 B.k1.lt B.n1),B.k2.same (s.block b2 B.k2.lt B.n2),B.k3.same (s.block b3 B.k3.lt B.n3),B.k4.same (s.block b4 B.k4.lt B.n4),hn b1 B.k1.lt B.n1,hn b2 B.k2.lt B.n2,hn b3 B.k3.lt B.n3,hn b4 B.k4.lt B.n4,B.d⟩
theorem Box4.set {p:HP} {g:Nat} {w:World} {b1 b2 b3 b4:Nat} {t:List Nat} {o v:Nat} (B:Box4 p g w b1 b2 b3 b4 t o v) (h3:¬ p.has b3) (o':Nat):Box4 p g (w.setCell ⟨b3,0,none⟩ (.int .u32 o')) b1 b2 b3 b4 t o' v:=
 ⟨B.k1.same (Below.heap_setCell w ⟨b3,0,none⟩ _ b1 (fun q=>B.d.1 q.symm)),B.k2.same (Below.heap_setCell w ⟨b3,0,none⟩ _ b2 (fun q=>B.d.2.1 q.symm)),B.k3.set_ 0 _,B.k4.same (Below.heap_setCell w ⟨b3,0,none⟩ _ b4 (fun q=>B.d.2.2 q.symm)),B.n1,B.n2,B.n3,B.n4,B.d⟩
def segH (hi:HM) (oi v:Nat):HM × Nat:=(((hi.AllocH (hi.rt 23) 1 2).putH (2*hi.words.length) 0 oi).putH (2*hi.words.length) 1 v).addK 4 (2*hi.words.length)
def GloR (h:HM) (t:List Nat) (v b3:Nat) (E:Nat) (h1:HM) (w1:World):Prop:=
 if (h.internK t).2.2≠0 then E=(h.internK t).2.2
 else if (h.internK t).1.AllocE ((h.internK t).1.rt 23) 1 2≠0 then E=(h.internK t).1.AllocE ((h.internK t).1.rt 23) 1 2
 else E=(segH (h.internK t).1 (h.internK t).2.1 v).2∧h1=(segH (h.internK t).1 (h.internK t).2.1 v).1∧Blk w1 b3 38 #[.int .u32 (2*(h.internK t).1.words.length:Nat)]
section
variable {W w:World} {p:HP} {g:Nat} {h:HM} (L:Live W w p g h)
include L
set_option maxRecDepth 100000 in
set_option maxHeartbeats 8000000 in
theorem kseg1_any (b1 b2 b3 b4:Nat) (t:List Nat) (v:Nat) (h8:∀ x∈t,x<256) (hlen:t.length≤9223372036854775807) (B:Box4 p g w b1 b2 b3 b4 t 0 v) (hW:W.heap.size≤b3) (hp:h.ptrsK (h.rt 4) 0=true) (hv:h.valB v=true) (hv32:v<4294967296):
 Calls Tryz.prog 91 #[.pointer (some ⟨b1,0,none⟩),.pointer (some ⟨b2,0,none⟩),.pointer (some ⟨b3,0,none⟩),.pointer (some ⟨b4,0,none⟩)] w (fun e w'=>∃ (E:Nat) (h':HM) (p':HP),e = .returned (.int .i64 (E:Nat))∧Live W w' p' g h'∧StepB p p' b3 w w'∧h'.size=h.size∧GloR h t v b3 E h' w'):=by
 have HL:=Lib.hid L; have HBX:=Lib.hid B; have H8:=Lib.hid h8; have HP4:=Lib.hid hp; have HV:=Lib.hid hv; have HV32:=Lib.hid hv32
 have c1:=B.k1.cell 0
 have c2:=B.k2.cell 0
 have HIN:=Lib.hid (kintern_any L t h8 hlen)
 obtain⟨l,G⟩:=L.good
 obtain⟨⟨li,Gi⟩,Ki,Ri⟩:=intern_kp G t h8
 have hsi:=intern_size h t
 have hoi:=intern_lt G t
 have HQ:=Lib.hid (show (∃ l,(h.internK t).1.Good l)∧Kp h (h.internK t).1∧(∀ j,j≠3→(h.internK t).1.rt j=h.rt j)∧(h.internK t).1.size=h.size∧(h.internK t).2.1<4294967296 from⟨⟨li,Gi⟩,Ki,Ri,hsi,hoi⟩)
 have HR:=Lib.hid (fun (E:Nat) (h1:HM) (w1:World)=>show GloR h t v b3 E h1 w1↔(if (h.internK t).2.2≠0 then E=(h.internK t).2.2 else if (h.internK t).1.AllocE ((h.internK t).1.rt 23) 1 2≠0 then E=(h.internK t).1.AllocE ((h.internK t).1.rt 23) 1 2 else E=(segH (h.internK t).1 (h.internK t).2.1 v).2∧h1=(segH (h.internK t).1 (h.internK t).2.1 v).1∧Blk w1 b3 38 #[.int .u32 (2*(h.internK t).1.words.length:Nat)]) from Iff.rfl)
 clear L B h8 hp hv hv32 G Gi Ki Ri hsi hoi
 generalize h.internK t=q at *
 obtain⟨hi,oi,Ei⟩:=q
 simp only at HIN HQ HR
 go_enter Tryz.func91,Tryz.ntmps91
 go_wp2_with fail
 refine HIN.out.mono ?_
 rintro e w1 ⟨p1,rfl,L1,s1⟩
 have HL1:=Lib.hid L1; have HS1:=Lib.hid s1
 have HB1:=Lib.hid (HBX.out.step s1)
 clear L1 s1 HIN c1 c2
 by_cases hE:Ei=0
 rotate_left
 ·have hne:((Ei:Int) != 0)=true:=by simp; omega
  have hnei:¬ ((Ei:Int)=0):=by omega
  have HRR:=Lib.hid ((HR.out Ei hi w1).2 (by rw [if_pos hE]))
  have HSZ:=Lib.hid HQ.out.2.2.2.1
  clear hE HR HQ
  go_wp2_with fail
  go_ret
  exact⟨Ei,hi,p1,rfl,HL1.out,StepB.of_step HS1.out,HSZ.out,HRR.out⟩
 subst hE
 have HR1:=Lib.hid (fun (E:Nat) (h1:HM) (w1:World)=>(HR.out E h1 w1).trans (by rw [if_neg (fun q=>q rfl)]))
 clear HR
 go_upto_region 4 with fail
 have hS0:∀ w',Below w1.heap.size w1 w'→w'.cell? ⟨b1,0,none⟩=some (.pointer (some ⟨g,0,none⟩))∧True:=fun w' hb=>⟨(HB1.out.k1.below hb HB1.out.k1.lt).cell 0,trivial⟩
 have hb0:Below w1.heap.size w1 w1.drew:=below_drew (Below.refl _ _)
 have hr23:hi.rootN 23=hi.rt 23:=rootN_rt hi (i:=23) (by omega)
 have hc32:hi.rt 23<4294967296:=HL1.out.fit.root 23
 have HRT:=Lib.hid (kroot_any (HL1.out.after hb0) 23)
 rw [hr23] at HRT
 have HAL:=Lib.hid ((HL1.out.after hb0).alloc (hi.rt 23) hc32 1 2)
 have HC32:=Lib.hid hc32
 refine wp_region_U 8 (fun w'=>w'.cell? ⟨b1,0,none⟩=some (.pointer (some ⟨g,0,none⟩))∧True) (by kernel_rfl) ?_
 have hS:=hS0 _ hb0
 refine U_readC 0 [3,4,6,8] (v:=(.pointer (some ⟨g,0,none⟩))) rfl (by kernel_rfl) (fun _ _ _ h=>h) hS (by kernel_rfl) (fun w' hw'=>by obtain⟨h0,h1⟩:=hw'; go_simp) ?_
 try simp only [Act.put,List.setIfInBounds_toArray,List.set_cons_zero,List.set_cons_succ]
 refine U_readC 1 [2,3,4,6,8] (v:=(.pointer (some ⟨g,0,none⟩))) rfl (by kernel_rfl) (fun _ _ _ h=>h) hS (by kernel_rfl) (fun w' hw'=>by obtain⟨h0,h1⟩:=hw'; go_simp) ?_
 try simp only [Act.put,List.setIfInBounds_toArray,List.set_cons_zero,List.set_cons_succ]
 refine U_one 2 (by kernel_rfl) rfl rfl (fun K hK=>?_)
 go_simp
 refine HRT.out.mono ?_
 rintro e w2 ⟨rfl,rfl⟩
 refine hK _ _ (fun _=>hS) ?_
 clear hK K
 try simp only [Act.put,List.setIfInBounds_toArray,List.set_cons_zero,List.set_cons_succ]
 refine U_one 3 (by kernel_rfl) rfl rfl (fun K hK=>?_)
 go_simp
 refine HAL.out.mono ?_
 rintro e w3 ⟨p3,rfl,L3,s3⟩
 have HL3:=Lib.hid L3; have HS3:=Lib.hid ((Step.of_below hb0).trans s3)
 have HB3:=Lib.hid (HB1.out.step HS3.out)
 have hS3:w3.cell? ⟨b1,0,none⟩=some (.pointer (some ⟨g,0,none⟩))∧True:=⟨HB3.out.k1.cell 0,trivial⟩
 clear L3 s3 HAL HRT hr23 hc32
 refine hK _ _ (fun _=>hS3) ?_
 clear hK K
 try simp only [Act.put,List.setIfInBounds_toArray,List.set_cons_zero,List.set_cons_succ]
 refine U_one 4 (by kernel_rfl) rfl rfl (fun K hK=>?_)
 go_simp
 refine hK _ _ (fun _=>hS3) ?_
 clear hK K
 try simp only [Act.put,List.setIfInBounds_toArray,List.set_cons_zero,List.set_cons_succ]
 clear hS
 have hS:=hS3
 refine U_readC 5 [7,8] (v:=(.int .u32 (hi.AllocO (hi.rt 23) 1 2:Nat))) rfl (by kernel_rfl) (fun _ _ _ h=>h) hS (by kernel_rfl) (fun w' hw'=>by obtain⟨h0,h1⟩:=hw'; go_simp) ?_
 try simp only [Act.put,List.setIfInBounds_toArray,List.set_cons_zero,List.set_cons_succ]
 refine U_readC 6 [8] (v:=(.int .i64 (hi.AllocE (hi.rt 23) 1 2:Nat))) rfl (by kernel_rfl) (fun _ _ _ h=>h) hS (by kernel_rfl) (fun w' hw'=>by obtain⟨h0,h1⟩:=hw'; go_simp) ?_
 try simp only [Act.put,List.setIfInBounds_toArray,List.set_cons_zero,List.set_cons_succ]
 refine U_one 7 (by kernel_rfl) rfl rfl (fun K hK=>?_)
 go_simp
 refine hK _ _ (fun _=>hS3) ?_
 clear hK K
 try simp only [Act.put,List.setIfInBounds_toArray,List.set_cons_zero,List.set_cons_succ]
 refine U_one 8 (by kernel_rfl) rfl rfl (fun K hK=>?_)
 go_simp
 refine hK _ _ (fun h=>absurd h (by decide)) ?_
 clear hK K
 try simp only [Act.put,List.setIfInBounds_toArray,List.set_cons_zero,List.set_cons_succ]
 refine U_done (by kernel_rfl) ?_ _
 simp only [Calm,Exit.then]
 clear hS hS3 hS0
 obtain⟨E,hE⟩ :∃ E,E=hi.AllocE (hi.rt 23) 1 2:=⟨_,rfl⟩
 obtain⟨o,ho⟩ :∃ o,o=hi.AllocO (hi.rt 23) 1 2:=⟨_,rfl⟩
 rw [← hE,← ho]
 by_cases hE0:E=0
 rotate_left
 ·have hne:((E:Int) != 0)=true:=by simp; omega
  have hnei:¬ ((E:Int)=0):=by omega
  have hh:hi.AllocH (hi.rt 23) 1 2=hi:=by rw [HM.AllocH_eq,if_neg (by rw [← hE]; exact hE0)]
  have HL4:=Lib.hid (show Live W w3 p3 g hi from by have:=HL3.out; rw [hh] at this; exact this)
  have HRR:=Lib.hid ((HR1.out E hi w3).2 (by rw [← hE,if_pos hE0]))
  have HSZ:=Lib.hid HQ.out.2.2.2.1
  have HS4:=Lib.hid (HS1.out.trans HS3.out)
  clear hh HL3 hE ho hE0 HQ HR1 HS3 HS1
  go_wp2_with fail
  go_ret
  exact⟨E,hi,p3,rfl,HL4.out,StepB.of_step HS4.out,HSZ.out,HRR.out⟩
 have hE1:hi.AllocE (hi.rt 23) 1 2=0:=by rw [← hE]; exact hE0
 have ho2:o=2*hi.words.length:=by rw [ho]; unfold HM.AllocO; rw [if_pos hE1]
 obtain⟨li,Gi⟩:=HQ.out.1
 obtain⟨a1,a2,a3,-⟩:=alloc_new Gi HC32.out hE1
 obtain⟨l3,G3⟩:=Gi.AllocH (hi.rt 23) 1 2 HC32.out
 have K3:Kp hi (hi.AllocH (hi.rt 23) 1 2):=by rw [alloc_push hE1]; exact Kp.push Gi _ _
 obtain⟨l4,G4,-⟩:=G3.putH o 0 oi HQ.out.2.2.2.2
 have K4:=Kp.put G3 o 0 oi
 obtain⟨l5,G5,-⟩:=G4.putH o 1 v HV32.out
 have K5:=Kp.put G4 o 1 v
 have KA:=((HQ.out.2.1.trans K3).trans K4).trans K5
 have hrt:(((hi.AllocH (hi.rt 23) 1 2).putH o 0 oi).putH o 1 v).rt 4=h.rt 4:=by rw [put_rt,put_rt,Alloc_rt]; exact HQ.out.2.2.1 4 (by omega)
 have hp4:(((hi.AllocH (hi.rt 23) 1 2).putH o 0 oi).putH o 1 v).ptrsK ((((hi.AllocH (hi.rt 23) 1 2).putH o 0 oi).putH o 1 v).rt 4) 0=true:=by rw [hrt,KA.ptrs (sizK_of HP4.out).1]; exact HP4.out
 have hob:(((hi.AllocH (hi.rt 23) 1 2).putH o 0 oi).putH o 1 v).valB o=true:=(K4.trans K5).val (by unfold HM.valB; rw [ho2,a1]; simp)
 have hl1:=Gi.fit.hi; have hl2:=Gi.fit.room
 have ho32:o<4294967296:=by omega
 have hn3b:¬ p3.has b3:=fun q=>by rcases (HS1.out.trans HS3.out).rows b3 q with q | q; exact HBX.out.n3 q; have:=HBX.out.k3.lt; omega
 have d3:=HB3.out.k3.cell 0; have y3:=HB3.out.k3.frozen 0
 have HL4:=Lib.hid (HL3.out.far2 hn3b hW 0 (.int .u32 (o:Nat)))
 have HS4:=Lib.hid ((StepB.of_step (HS1.out.trans HS3.out):StepB p p3 b3 w w3).setBox 0 (.int .u32 (o:Nat)))
 have HB4:=Lib.hid (HB3.out.set hn3b (o:Nat))
 have HPA:=Lib.hid (show (∀ p5 w5,Live W w5 p5 g (((hi.AllocH (hi.rt 23) 1 2).putH o 0 oi).putH o 1 v)→Calls Tryz.prog 92 #[.pointer (some ⟨g,0,none⟩),.int .i64 4,.int .u32 o] w5 (Done W p5 g ((((hi.AllocH (hi.rt 23) 1 2).putH o 0 oi).putH o 1 v).addK 4 o).1 (.int .i64 (((((hi.AllocH (hi.rt 23) 1 2).putH o 0 oi).putH o 1 v).addK 4 o).2:Nat)) w5)) from fun p5 w5 L5=>kput_any L5 4 (by omega) o ho32 hp4 hob)
 have HSZ:=Lib.hid (show ((((hi.AllocH (hi.rt 23) 1 2).putH o 0 oi).putH o 1 v).addK 4 o).1.size=h.size from by rw [add_size,put_size,put_size,Alloc_size]; exact HQ.out.2.2.2.1)
 have HO32:=Lib.hid ho32
 have HOI:=Lib.hid HQ.out.2.2.2.2
 have HRF:=Lib.hid (fun (w9:World) (hb:Blk w9 b3 38 #[.int .u32 (o:Nat)])=>(HR1.out _ _ w9).2 (by rw [if_neg (fun q=>q hE1)]; exact⟨rfl,rfl,by rw [← ho2]; exact hb⟩))
 unfold segH at HRF
 rw [← ho2] at HRF
 have c1:=HB4.out.k1.cell 0
 subst hE0
 clear hE1 ho2 Gi a1 a2 a3 G3 K3 G4 K4 G5 K5 KA hrt hp4 hob hl1 hl2 ho32 hn3b HL3 HS3 HS1 HB3 HB1 HR1 HQ hE ho HL1
 go_upto_region 8 with fail
 generalize hi.AllocH (hi.rt 23) 1 2=h3 at *
 generalize w3.setCell ⟨b3,0,none⟩ (.int .u32 (o:Int))=w4 at *
 clear d3 y3
 have HP0:=Lib.hid (HL4.out.put o HO32.out 0 oi HOI.out)
 go_wp2_with fail
 refine HP0.out.mono ?_
 rintro e w5 ⟨p5,rfl,L5,s5⟩
 have HB5:=Lib.hid (HB4.out.step s5)
 have HS5:=Lib.hid (HS4.out.trans (StepB.of_step s5))
 have HP1:=Lib.hid (L5.put o HO32.out 1 v HV32.out)
 have c1:=HB5.out.k1.cell 0; have c4:=HB5.out.k4.cell 0
 clear L5 s5 HP0 HL4 HS4 HB4
 go_wp2_with fail
 refine HP1.out.mono ?_
 rintro e w6 ⟨p6,rfl,L6,s6⟩
 have HB6:=Lib.hid (HB5.out.step s6)
 have HS6:=Lib.hid (HS5.out.trans (StepB.of_step s6))
 have HP2:=Lib.hid (HPA.out p6 w6 L6)
 have d1:=HB6.out.k1.cell 0
 clear L6 s6 HP1 HS5 HB5 c1 c4 HPA
 go_wp2_with fail
 refine HP2.out.mono ?_
 rintro e w7 ⟨p7,rfl,L7,s7⟩
 have HL7:=Lib.hid L7
 have HS7:=Lib.hid (HS6.out.trans (StepB.of_step s7))
 have HRR:=Lib.hid (HRF.out w7 (HB6.out.k3.same (s7.block b3 HB6.out.k3.lt HB6.out.n3)))
 clear L7 s7 HP2 HS6 HB6 d1 HRF
 generalize (((h3.putH o 0 oi).putH o 1 v).addK 4 o).2=E7 at *
 go_wp2_with fail
 go_ret
 exact⟨E7,_,p7,rfl,HL7.out,HS7.out,HSZ.out,HRR.out⟩
end
end
end Go.Proofs.YtdoahpflemgaeaaGreatDoor
