import Derived.Test.YtdoahpflemgaeaaGreatDoorJNAwF2
import Derived.Test.YtdoahpflemgaeaaGreatDoorJNCls
set_option linter.unusedVariables false
set_option linter.unusedSimpArgs false
set_option linter.unusedSectionVars false
namespace Go.Proofs.YtdoahpflemgaeaaGreatDoor
section
open Go.RowKit
attribute [local go_sem] Oper.semAt_some
section
variable {W w:World} {p:HP} {g b:Nat} {s:BS} (B:BAt W w p g b s)
include B
set_option maxRecDepth 100000 in
set_option maxHeartbeats 16000000 in
theorem bnames_any:Calls Tryz.prog 14 #[.pointer (some ⟨b,0,none⟩)] w (NDone W p g b (namesB s) (.tuple #[]) w):=by
 have HB:=Lib.hid B
 have HPL:=Lib.hid (kplans_any w)
 have HI:=Lib.hid (show namesB s=ownN (selN (nameN s 22) 11) 22 from rfl)
 clear B
 go_enter Tryz.func14,Tryz.ntmps14
 go_wp2_with fail
 refine HPL.out.mono ?_
 rintro e w1 ⟨bp,rfl,hb1,hbp,HP1⟩
 have HC:=Lib.hid (show NmAt W w p w1 p g b s bp from⟨HB.out.below hb1,HP1 p b (fun k hk=>HB.out.live.at_.lt hk) (.inl HB.out.blk.lt),StepB.of_step (Step.of_below hb1)⟩)
 clear HB HPL hb1 hbp HP1
 go_wp2_with fail
 go_loopw [13] (fun iv wr=>∃ (k:Nat) (p':HP),iv = .int .i64 k∧k≤22∧NmAt W w p wr p' g b (nameN s k) bp) (fun iv _=>22-(intOf iv).toNat)
 case atStart=>exact⟨0,p,rfl,Nat.zero_le _,HC.out⟩
 case round=>
  clear HC
  obtain⟨k,p1,rfl,hk,C⟩:=hrel
  by_cases hkn:k<22
  ·have hd:decide ((k:Int)<22)=true:=by simp; omega
   have hki:(k:Int)<22:=by omega
   have HW:=Lib.hid (nameN_succ s k)
   have HST:=Lib.hid (fun h=>namesB_stop s (k:=k+1) (by omega) h)
   generalize nameN s k=sk at *
   obtain⟨A,n,a0,a1,a2,a3,a4,-,-,-⟩:=C.plans.at_ k hkn
   have HC:=Lib.hid C
   clear C
   have HLN:=Lib.hid (name_len k hkn)
   have HTL:=Lib.hid (tx_lt (kRow k).name)
   have HBE:=Lib.hid (fun (h:HM) (E o:Nat) hq hE=>bName_err (s:=sk) (x:=(kRow k,k)) (h:=h) (E:=E) (o:=o) hq hE)
   have HBO:=Lib.hid (fun (h:HM) (o:Nat) hq=>bName_ok (s:=sk) (x:=(kRow k,k)) (h:=h) (o:=o) hq)
   try simp only at HBE HBO
   generalize tx (kRow k).name=t at *
   generalize supI k=su at *
   generalize (kRow k).fmt=fm at *
   generalize (kRow k).idx=ix at *
   have HIN:=Lib.hid (fun (w':World) (p':HP) (B:BAt W w' p' g b sk)=>bintern_any B t HTL.out (by have:=HLN.out; omega))
   obtain⟨nm,hnm⟩ :∃ nm,txS t=nm:=⟨_,rfl⟩
   have HTX:=Lib.hid hnm
   rw [hnm] at a0 HIN
   clear hnm
   go_upto_region 3 with fail
   have HK:=Lib.hid (NmB.of HC.out ((Below.refl _ _).alloc (Nat.le_refl _) (.cells #[.string nm,.int .i64 su,.int .i64 fm,.bool ix,.slice A n n] 84)) (Nat.le_refl _) (Blk.new wr 84 #[.string nm,.int .i64 su,.int .i64 fm,.bool ix,.slice A n n]))
   clear HC a0 a1 a2 a3 a4
   generalize (wr.alloc (.cells #[.string nm,.int .i64 su,.int .i64 fm,.bool ix,.slice A n n] 84))=w4 at *
   generalize wr.heap.size=b6 at *
   have o0:=HK.out.bx.cell 0
   have HIA:=Lib.hid (HIN.out _ _ HK.out.cl.at_)
   have ho32:=bIntern_lt (HK.out.cl.at_).live.good t
   clear HIN
   obtain⟨⟨sh,E⟩,o,hq⟩ :∃ s1 o,bIntern sk t=(s1,o):=⟨_,_,rfl⟩
   have HQ:=Lib.hid hq
   rw [hq] at HIA ho32
   simp only at HIA ho32
   clear hq
   go_wp2_with fail
   refine HIA.out.mono ?_
   rintro e w5 ⟨p5,rfl,B5,s5⟩
   have HK5:=Lib.hid (HK.out.stepB B5 s5)
   have c1:=B5.blk.cell 1
   clear B5 s5 HIA HK o0
   simp only at c1
   by_cases hE:E=0
   rotate_left
   ·have hne:((E:Int) != 0)=true:=by simp; omega
    have hnei:¬ ((E:Int)=0):=by omega
    have HS1:=Lib.hid (show nameN s (k+1)=(sh,E) from HW.out.trans (HBE.out sh E o HQ.out hE))
    have HS2:=Lib.hid (show (namesB s).2=E from by
     have:=HST.out (by rw [HS1.out]; exact hE)
     rw [HS1.out] at this
     exact this)
    have HS3:=Lib.hid hE
    clear hE HW HST HBE HBO HQ HI
    go_wp2_with fail
    refine bodyPost_end (v:=.tuple #[]) (by simp [results,Tryz.results14,go_sem]) rfl ?_
    exact⟨p5,(sh,E),rfl,HK5.out.cl.at_,HK5.out.cl.step,HS2.out.symm,fun q=>absurd (HS2.out.symm.trans q) HS3.out⟩
   subst hE
   have HB2:=Lib.hid (HBO.out sh o HQ.out)
   have HCL:=Lib.hid (bclass_any HK5.out.cl.at_ (10+k) (by omega))
   simp only at HCL
   rw [show ((10+k:Nat):Int)=10+(k:Int) by omega] at HCL
   have hc32:=HK5.out.cl.at_.live.fit.root (10+k)
   have HPT:=Lib.hid (HK5.out.cl.at_.live.put (sh.rt (10+k)) hc32 (0:Int) o ho32)
   have hc0:=HK5.out.cl.at_.blk.cell 0
   obtain⟨c,hh⟩ :∃ c,c=sh.rt (10+k):=⟨_,rfl⟩
   have HCE:=Lib.hid hh
   have hc32':c<4294967296:=by rw [hh]; exact hc32
   rw [← hh] at HCL HPT
   have HB3:=Lib.hid (HB2.out.trans (nameFin_eq hh.symm))
   clear hc32 hh HB2 HBE HBO HQ HST HCE
   have hwr:IntKind.i64.wrap (10+(k:Int))=10+(k:Int):=IntWalk.i64_in _ (by omega)
   go_wp2_with fail
   refine HCL.out.mono ?_
   rintro e w6 ⟨rfl,rfl⟩
   go_wp2_with fail
   refine HPT.out.mono ?_
   rintro e w7 ⟨p7,rfl,L7,s7⟩
   have HK7:=Lib.hid (HK5.out.after L7 s7)
   clear L7 s7 HPT HK5 HCL hc0 c1 hwr
   generalize sh.putH c (0:Int) o=h7 at *
   go_upto_region 7 with fail
   have HK8:=Lib.hid (HK7.out.below (below_drew (Below.refl _ _)))
   clear HK7
   have HSG:=Lib.hid (ksetGlobal_any HK8.out.cl.at_.live t c HTL.out (by have:=HLN.out; omega) hc32')
   rw [show txS t=nm from HTX.out] at HSG
   have hS:w7.drew.cell? ⟨b,0,none⟩=some (.pointer (some ⟨g,0,none⟩))∧w7.drew.cell? ⟨b6,0,none⟩=some (.string nm):=⟨HK8.out.cl.at_.blk.cell 0,HK8.out.bx.cell 0⟩
   generalize h7.setGloK t c=q7 at *
   obtain⟨h8,o8,E8⟩:=q7
   simp only at HSG HB3
   refine wp_region_U 14 (fun w'=>w'.cell? ⟨b,0,none⟩=some (.pointer (some ⟨g,0,none⟩))∧w'.cell? ⟨b6,0,none⟩=some (.string nm)) (by kernel_rfl) ?_
   refine U_readC 0 [12,13,14] (v:=(.pointer (some ⟨b,0,none⟩))) rfl (by kernel_rfl) (fun _ _ _ h=>h) hS (by kernel_rfl) (fun w' hw'=>by obtain⟨h0,h1⟩:=hw'; go_simp) ?_
   try simp only [Act.put,List.setIfInBounds_toArray,List.set_cons_zero,List.set_cons_succ]
   refine U_readC 1 [2,3,4,8,9,10,14] (v:=(.pointer (some ⟨b,0,none⟩))) rfl (by kernel_rfl) (fun _ _ _ h=>h) hS (by kernel_rfl) (fun w' hw'=>by obtain⟨h0,h1⟩:=hw'; go_simp) ?_
   try simp only [Act.put,List.setIfInBounds_toArray,List.set_cons_zero,List.set_cons_succ]
   refine U_readC 2 [3,4,8,9,10,14] (v:=(.pointer (some ⟨b,0,none⟩))) rfl (by kernel_rfl) (fun _ _ _ h=>h) hS (by kernel_rfl) (fun w' hw'=>by obtain⟨h0,h1⟩:=hw'; go_simp) ?_
   try simp only [Act.put,List.setIfInBounds_toArray,List.set_cons_zero,List.set_cons_succ]
   refine U_readC 3 [4,8,9,10,14] (v:=(.pointer (some ⟨b,0,none⟩))) rfl (by kernel_rfl) (fun _ _ _ h=>h) hS (by kernel_rfl) (fun w' hw'=>by obtain⟨h0,h1⟩:=hw'; go_simp) ?_
   try simp only [Act.put,List.setIfInBounds_toArray,List.set_cons_zero,List.set_cons_succ]
   refine U_readC 4 [8,9,10,14] (v:=(.pointer (some ⟨g,0,none⟩))) rfl (by kernel_rfl) (fun _ _ _ h=>h) hS (by kernel_rfl) (fun w' hw'=>by obtain⟨h0,h1⟩:=hw'; go_simp) ?_
   try simp only [Act.put,List.setIfInBounds_toArray,List.set_cons_zero,List.set_cons_succ]
   refine U_readC 5 [6,8,9,10,14] (v:=(.pointer (some ⟨b6,0,none⟩))) rfl (by kernel_rfl) (fun _ _ _ h=>h) hS (by kernel_rfl) (fun w' hw'=>by obtain⟨h0,h1⟩:=hw'; go_simp) ?_
   try simp only [Act.put,List.setIfInBounds_toArray,List.set_cons_zero,List.set_cons_succ]
   refine U_readC 6 [8,9,10,14] (v:=(.string nm)) rfl (by kernel_rfl) (fun _ _ _ h=>h) hS (by kernel_rfl) (fun w' hw'=>by obtain⟨h0,h1⟩:=hw'; go_simp) ?_
   try simp only [Act.put,List.setIfInBounds_toArray,List.set_cons_zero,List.set_cons_succ]
   refine U_readC 7 [8,9,10,14] (v:=(.int .u32 (c:Nat))) rfl (by kernel_rfl) (fun _ _ _ h=>h) hS (by kernel_rfl) (fun w' hw'=>by obtain⟨h0,h1⟩:=hw'; go_simp) ?_
   try simp only [Act.put,List.setIfInBounds_toArray,List.set_cons_zero,List.set_cons_succ]
   refine U_one 8 (by kernel_rfl) rfl rfl (fun K hK=>?_)
   go_simp
   refine HSG.out.mono ?_
   rintro e w9 ⟨p9,rfl,L9,s9⟩
   have HK9:=Lib.hid (HK8.out.after L9 s9)
   have hS9:w9.cell? ⟨b,0,none⟩=some (.pointer (some ⟨g,0,none⟩))∧w9.cell? ⟨b6,0,none⟩=some (.string nm):=⟨HK9.out.cl.at_.blk.cell 0,HK9.out.bx.cell 0⟩
   clear L9 s9 HSG HK8
   refine hK _ _ (fun _=>hS9) ?_
   clear hK K
   try simp only [Act.put,List.setIfInBounds_toArray,List.set_cons_zero,List.set_cons_succ]
   clear hS
   have hS:=hS9
   refine U_one 9 (by kernel_rfl) rfl rfl (fun K hK=>?_)
   go_simp
   refine hK _ _ (fun _=>hS) ?_
   clear hK K
   try simp only [Act.put,List.setIfInBounds_toArray,List.set_cons_zero,List.set_cons_succ]
   refine U_readC 10 [14] (v:=(.int .u32 (o8:Nat))) rfl (by kernel_rfl) (fun _ _ _ h=>h) hS (by kernel_rfl) (fun w' hw'=>by obtain⟨h0,h1⟩:=hw'; go_simp) ?_
   try simp only [Act.put,List.setIfInBounds_toArray,List.set_cons_zero,List.set_cons_succ]
   refine U_readC 11 [14] (v:=(.int .i64 (E8:Nat))) rfl (by kernel_rfl) (fun _ _ _ h=>h) hS (by kernel_rfl) (fun w' hw'=>by obtain⟨h0,h1⟩:=hw'; go_simp) ?_
   try simp only [Act.put,List.setIfInBounds_toArray,List.set_cons_zero,List.set_cons_succ]
   refine U_one 12 (by kernel_rfl) rfl rfl (fun K hK=>?_)
   go_simp
   refine hK _ _ (fun _=>hS) ?_
   clear hK K
   try simp only [Act.put,List.setIfInBounds_toArray,List.set_cons_zero,List.set_cons_succ]
   refine U_one 13 (by kernel_rfl) rfl rfl (fun K hK=>?_)
   go_simp
   refine hK _ _ (fun _=>hS) ?_
   clear hK K
   try simp only [Act.put,List.setIfInBounds_toArray,List.set_cons_zero,List.set_cons_succ]
   refine U_one 14 (by kernel_rfl) rfl rfl (fun K hK=>?_)
   go_simp
   have q1:=HK9.out.cl.at_.blk.cell 1
   have z1:=HK9.out.cl.at_.blk.frozen 1
   try simp only at q1
   go_simp
   have HK10:=Lib.hid (HK9.out.cl.err E8)
   refine hK _ _ (fun h=>absurd h (by decide)) ?_
   clear hK K
   try simp only [Act.put,List.setIfInBounds_toArray,List.set_cons_zero,List.set_cons_succ]
   refine U_done (by kernel_rfl) ?_ _
   simp only [Calm,Exit.then]
   clear hS HK9
   go_wp2_with fail
   go_roundw
   case rel=>
    refine⟨k+1,p9,by go_num,by omega,?_⟩
    rw [HW.out,HB3.out]
    exact HK10.out
   case measure=>simp [intOf]; omega
  ·obtain rfl:k=22:=by omega
   have hd:decide ((22:Int)<22)=false:=by decide
   rw [show ((22:Nat):Int)=22 from rfl]
   generalize nameN s 22=s1 at *
   have HC:=Lib.hid C
   have HSL:=Lib.hid (ksels_any wr)
   clear C
   go_wp2_with fail
   refine HSL.out.mono ?_
   rintro e w2 ⟨bs,rfl,hb2,hbs,HR⟩
   have HC2:=Lib.hid (show SlAt W w p w2 p1 g b s1 bs from⟨HC.out.at_.below hb2,HR p1 (fun k hk=>HC.out.at_.live.at_.lt hk),by have:=HC.out.at_.blk.lt; omega,HC.out.step.trans (StepB.of_step (Step.of_below hb2))⟩)
   clear HC HSL hb2 hbs HR hd
   go_wp2_with fail
   go_loopw [55] (fun iv wr=>∃ (k:Nat) (p':HP),iv = .int .i64 k∧k≤11∧SlAt W w p wr p' g b (selN s1 k) bs) (fun iv _=>11-(intOf iv).toNat)
   case atStart=>exact⟨0,p1,rfl,Nat.zero_le _,HC2.out⟩
   case round=>
    clear HC2
    obtain⟨k,p2,rfl,hk,C⟩:=hrel
    by_cases hkn:k<11
    ·have hd:decide ((k:Int)<11)=true:=by simp; omega
     have hki:(k:Int)<11:=by omega
     have HW:=Lib.hid (selN_succ s1 k)
     generalize selN s1 k=sk at *
     obtain⟨ad,e1,-,-,hcell⟩:=C.row.at_ k (by rw [List.length_map]; exact hkn)
     injection e1 with e1
     subst e1
     rw [WideShapes.add_plain,Nat.zero_add,sel_get k hkn] at hcell
     have hln:=sel_len k hkn
     have htl:=tx_lt (kSel k)
     have HBS:=Lib.hid (show bSel sk (kSel k,k)=((bIntern sk (tx (kSel k))).1.1.putH ((bIntern sk (tx (kSel k))).1.1.rt 8) k (bIntern sk (tx (kSel k))).2,(bIntern sk (tx (kSel k))).1.2) from rfl)
     generalize tx (kSel k)=t at *
     have HIA:=Lib.hid (bintern_any C.at_ t htl (by omega))
     have ho32:=bIntern_lt C.at_.live.good t
     have HC:=Lib.hid C
     clear C hln htl
     generalize bIntern sk t=q at *
     obtain⟨⟨sh,E⟩,o⟩:=q
     simp only at HIA ho32 HBS
     generalize txS t=nm at *
     go_wp2_with fail
     refine HIA.out.mono ?_
     rintro e w5 ⟨p5,rfl,B5,s5⟩
     have HC5:=Lib.hid (HC.out.stepB B5 s5)
     clear B5 s5 HIA HC hcell
     go_upto_region 13 with fail
     have HC6:=Lib.hid (HC5.out.below (below_drew (Below.refl _ _)))
     clear HC5
     have HRT:=Lib.hid (kroot_any HC6.out.at_.live 8)
     have hr32:=HC6.out.at_.live.fit.root 8
     have HPT:=Lib.hid (HC6.out.at_.live.put (sh.rt 8) hr32 (k:Int) o ho32)
     have hr8:sh.rootN 8=sh.rt 8:=rootN_rt sh (i:=8) (by omega)
     simp only at HRT
     rw [hr8] at HRT
     have hS:w5.drew.cell? ⟨b,0,none⟩=some (.pointer (some ⟨g,0,none⟩))∧True:=⟨HC6.out.at_.blk.cell 0,trivial⟩
     clear hr32 hr8
     obtain⟨r8,hh⟩ :∃ r,r=sh.rt 8:=⟨_,rfl⟩
     rw [← hh] at HRT HPT HBS
     clear hh
     refine wp_region_U 11 (fun w'=>w'.cell? ⟨b,0,none⟩=some (.pointer (some ⟨g,0,none⟩))∧True) (by kernel_rfl) ?_
     refine U_readC 0 [1,2,3,11] (v:=(.pointer (some ⟨b,0,none⟩))) rfl (by kernel_rfl) (fun _ _ _ h=>h) hS (by kernel_rfl) (fun w' hw'=>by obtain⟨h0,h1⟩:=hw'; go_simp) ?_
     try simp only [Act.put,List.setIfInBounds_toArray,List.set_cons_zero,List.set_cons_succ]
     refine U_readC 1 [2,3,11] (v:=(.pointer (some ⟨b,0,none⟩))) rfl (by kernel_rfl) (fun _ _ _ h=>h) hS (by kernel_rfl) (fun w' hw'=>by obtain⟨h0,h1⟩:=hw'; go_simp) ?_
     try simp only [Act.put,List.setIfInBounds_toArray,List.set_cons_zero,List.set_cons_succ]
     refine U_readC 2 [3,11] (v:=(.pointer (some ⟨b,0,none⟩))) rfl (by kernel_rfl) (fun _ _ _ h=>h) hS (by kernel_rfl) (fun w' hw'=>by obtain⟨h0,h1⟩:=hw'; go_simp) ?_
     try simp only [Act.put,List.setIfInBounds_toArray,List.set_cons_zero,List.set_cons_succ]
     refine U_readC 3 [11] (v:=(.pointer (some ⟨g,0,none⟩))) rfl (by kernel_rfl) (fun _ _ _ h=>h) hS (by kernel_rfl) (fun w' hw'=>by obtain⟨h0,h1⟩:=hw'; go_simp) ?_
     try simp only [Act.put,List.setIfInBounds_toArray,List.set_cons_zero,List.set_cons_succ]
     refine U_readC 4 [5,6,7,8,11] (v:=(.pointer (some ⟨b,0,none⟩))) rfl (by kernel_rfl) (fun _ _ _ h=>h) hS (by kernel_rfl) (fun w' hw'=>by obtain⟨h0,h1⟩:=hw'; go_simp) ?_
     try simp only [Act.put,List.setIfInBounds_toArray,List.set_cons_zero,List.set_cons_succ]
     refine U_readC 5 [6,7,8,11] (v:=(.pointer (some ⟨b,0,none⟩))) rfl (by kernel_rfl) (fun _ _ _ h=>h) hS (by kernel_rfl) (fun w' hw'=>by obtain⟨h0,h1⟩:=hw'; go_simp) ?_
     try simp only [Act.put,List.setIfInBounds_toArray,List.set_cons_zero,List.set_cons_succ]
     refine U_readC 6 [7,8,11] (v:=(.pointer (some ⟨b,0,none⟩))) rfl (by kernel_rfl) (fun _ _ _ h=>h) hS (by kernel_rfl) (fun w' hw'=>by obtain⟨h0,h1⟩:=hw'; go_simp) ?_
     try simp only [Act.put,List.setIfInBounds_toArray,List.set_cons_zero,List.set_cons_succ]
     refine U_readC 7 [8,11] (v:=(.pointer (some ⟨g,0,none⟩))) rfl (by kernel_rfl) (fun _ _ _ h=>h) hS (by kernel_rfl) (fun w' hw'=>by obtain⟨h0,h1⟩:=hw'; go_simp) ?_
     try simp only [Act.put,List.setIfInBounds_toArray,List.set_cons_zero,List.set_cons_succ]
     refine U_readC 9 [11] (v:=(.int .i64 k)) rfl (by kernel_rfl) (fun _ _ _ h=>h) hS (by kernel_rfl) (fun w' hw'=>by obtain⟨h0,h1⟩:=hw'; go_simp) ?_
     try simp only [Act.put,List.setIfInBounds_toArray,List.set_cons_zero,List.set_cons_succ]
     refine U_readC 10 [11] (v:=(.int .u32 (o:Nat))) rfl (by kernel_rfl) (fun _ _ _ h=>h) hS (by kernel_rfl) (fun w' hw'=>by obtain⟨h0,h1⟩:=hw'; go_simp) ?_
     try simp only [Act.put,List.setIfInBounds_toArray,List.set_cons_zero,List.set_cons_succ]
     refine U_one 8 (by kernel_rfl) rfl rfl (fun K hK=>?_)
     go_simp
     refine HRT.out.mono ?_
     rintro e w6 ⟨rfl,rfl⟩
     refine hK _ _ (fun _=>hS) ?_
     clear hK K
     try simp only [Act.put,List.setIfInBounds_toArray,List.set_cons_zero,List.set_cons_succ]
     refine U_one 11 (by kernel_rfl) rfl rfl (fun K hK=>?_)
     go_simp
     refine HPT.out.mono ?_
     rintro e w7 ⟨p7,rfl,L7,s7⟩
     have HC7:=Lib.hid (HC6.out.after L7 s7)
     clear L7 s7 HPT HC6
     refine hK _ _ (fun h=>absurd h (by decide)) ?_
     clear hK K
     try simp only [Act.put,List.setIfInBounds_toArray,List.set_cons_zero,List.set_cons_succ]
     refine U_done (by kernel_rfl) ?_ _
     simp only [Calm,Exit.then]
     clear hS HRT
     go_wp2_with fail
     go_roundw
     case rel=>
      refine⟨k+1,p7,by go_num,by omega,?_⟩
      rw [HW.out,HBS.out]
      exact HC7.out
     case measure=>simp [intOf]; omega
    ·obtain rfl:k=11:=by omega
     have hd:decide ((11:Int)<11)=false:=by decide
     rw [show ((11:Nat):Int)=11 from rfl]
     generalize selN s1 11=s2 at *
     have HC:=Lib.hid C
     have HPL:=Lib.hid (kplans_any wr)
     clear C
     go_wp2_with fail
     refine HPL.out.mono ?_
     rintro e w3 ⟨bq,rfl,hb3,hbq,HP3⟩
     have HC3:=Lib.hid (show NmAt W w p w3 p2 g b s2 bq from⟨HC.out.at_.below hb3,HP3 p2 b (fun k hk=>HC.out.at_.live.at_.lt hk) (.inl HC.out.at_.blk.lt),HC.out.step.trans (StepB.of_step (Step.of_below hb3))⟩)
     clear HC HPL hb3 hbq HP3 hd
     go_wp2_with fail
     go_loopw [78] (fun iv wr=>∃ (k:Nat) (p':HP),iv = .int .i64 k∧k≤22∧NmAt W w p wr p' g b (ownN s2 k) bq) (fun iv _=>22-(intOf iv).toNat)
     case atStart=>exact⟨0,p2,rfl,Nat.zero_le _,HC3.out⟩
     case round=>
      clear HC3
      obtain⟨k,p3,rfl,hk,C⟩:=hrel
      by_cases hkn:k<22
      ·have hd:decide ((k:Int)<22)=true:=by simp; omega
       have hki:(k:Int)<22:=by omega
       have HW:=Lib.hid (ownN_succ s2 k)
       generalize ownN s2 k=sk at *
       obtain⟨sh,E⟩:=sk
       obtain⟨A,n,a0,a1,a2,a3,a4,a5,a6,a7⟩:=C.plans.at_ k hkn
       have HC:=Lib.hid C
       have HLN:=Lib.hid (field_len k hkn)
       have HTL:=Lib.hid (field_lt k)
       have HFE:=Lib.hid (show (kRow k).fields=[]↔n=0 from by rw [a5]; exact List.length_eq_zero_iff.symm)
       have HNL:=Lib.hid (show ((kRow k).fields.map tx).length=n from by rw [List.length_map,a5])
       have hn7:n≤7:=by rw [a5]; exact (kRow_few k hkn).1
       have HRW:=Lib.hid a6
       have HBO:=Lib.hid (show bOwn (sh,E) (kRow k,k)=if (kRow k).fields=[]∨E≠0 then (sh,E) else sh.ownK (sh.rt (10+k)) ((kRow k).fields.map tx) from rfl)
       have HBK:=Lib.hid (bOwn_ok sh (kRow k,k))
       try simp only at HBK
       clear C a5 a6 a7
       generalize txS (tx (kRow k).name)=nm at *
       generalize supI k=su at *
       generalize (kRow k).fmt=fm at *
       generalize (kRow k).idx=ix at *
       generalize (kRow k).fields.map tx=ts at *
       go_upto_region 18 with fail
       have hbA:Below wr.heap.size wr (wr.alloc (.cells #[.string nm,.int .i64 su,.int .i64 fm,.bool ix,.slice A n n] 84)):=(Below.refl _ _).alloc (Nat.le_refl _) _
       have HK:=Lib.hid (NmB.of HC.out hbA (Nat.le_refl _) (Blk.new wr 84 #[.string nm,.int .i64 su,.int .i64 fm,.bool ix,.slice A n n]))
       have HR4:=Lib.hid (HRW.out.below hbA)
       clear HC a0 a1 a2 a3 a4 hbA HRW
       generalize (wr.alloc (.cells #[.string nm,.int .i64 su,.int .i64 fm,.bool ix,.slice A n n] 84))=w4 at *
       generalize wr.heap.size=b6 at *
       have o4:=HK.out.bx.cell 4
       have c1:=HK.out.cl.at_.blk.cell 1
       by_cases hn0:n=0
       ·subst hn0
        have HB2:=Lib.hid (HBO.out.trans (if_pos (.inl (HFE.out.2 rfl))))
        clear HBO HFE HR4 HNL
        go_wp2_with fail
        go_roundw
        case rel=>
         refine⟨k+1,p3,by go_num,by omega,?_⟩
         rw [HW.out,HB2.out]
         exact HK.out.cl
        case measure=>simp [intOf]; omega
       have hng:decide ((n:Int)>0)=true:=decide_eq_true (by omega)
       have hng2:decide (0<(n:Int))=true:=decide_eq_true (by omega)
       have hng3:decide (0<n)=true:=decide_eq_true (by omega)
       have hnp:0<n:=by omega
       by_cases hE:E=0
       rotate_left
       ·have hne:((E:Int) == 0)=false:=by simp; omega
        have hnei:¬ ((E:Int)=0):=by omega
        have HB2:=Lib.hid (HBO.out.trans (if_pos (.inr hE)))
        clear HBO HFE HR4 HNL hE
        go_wp2_with fail
        go_roundw
        case rel=>
         refine⟨k+1,p3,by go_num,by omega,?_⟩
         rw [HW.out,HB2.out]
         exact HK.out.cl
        case measure=>simp [intOf]; omega
       subst hE
       have HB2:=Lib.hid (HBK.out (fun q=>hn0 (HFE.out.1 q)))
       clear HBO HFE hn0 HBK
       go_upto_region 19 with fail
       have HK1:=Lib.hid (HK.out.below (below_drew (Below.refl _ _)))
       have HR5:=Lib.hid (HR4.out.below (below_drew (Below.refl _ _)))
       clear HK HR4 c1 o4
       have HCL:=Lib.hid (bclass_any HK1.out.cl.at_ (10+k) (by omega))
       simp only at HCL
       rw [show ((10+k:Nat):Int)=10+(k:Int) by omega] at HCL
       have hc32:=HK1.out.cl.at_.live.fit.root (10+k)
       have HOW:=Lib.hid (kownFields_any HK1.out.cl.at_.live (sh.rt (10+k)) hc32 A n ts HR5.out HTL.out (fun t ht=>by have:=HLN.out t ht; omega) (by rw [HNL.out]; omega))
       rw [HNL.out] at HOW
       have hS:w4.drew.cell? ⟨b,0,none⟩=some (.pointer (some ⟨g,0,none⟩))∧w4.drew.cell? ⟨b6,4,none⟩=some (.slice A n n):=⟨HK1.out.cl.at_.blk.cell 0,HK1.out.bx.cell 4⟩
       obtain⟨c,hh⟩ :∃ c,c=sh.rt (10+k):=⟨_,rfl⟩
       rw [← hh] at HCL HOW HB2
       clear hh hc32 HR5 HNL
       generalize sh.ownK c ts=q at *
       obtain⟨h8,E8⟩:=q
       simp only at HOW
       refine wp_region_U 14 (fun w'=>w'.cell? ⟨b,0,none⟩=some (.pointer (some ⟨g,0,none⟩))∧w'.cell? ⟨b6,4,none⟩=some (.slice A n n)) (by kernel_rfl) ?_
       refine U_readC 0 [12,13,14] (v:=(.pointer (some ⟨b,0,none⟩))) rfl (by kernel_rfl) (fun _ _ _ h=>h) hS (by kernel_rfl) (fun w' hw'=>by obtain⟨h0,h1⟩:=hw'; go_simp) ?_
       try simp only [Act.put,List.setIfInBounds_toArray,List.set_cons_zero,List.set_cons_succ]
       refine U_readC 1 [2,3,4,11,14] (v:=(.pointer (some ⟨b,0,none⟩))) rfl (by kernel_rfl) (fun _ _ _ h=>h) hS (by kernel_rfl) (fun w' hw'=>by obtain⟨h0,h1⟩:=hw'; go_simp) ?_
       try simp only [Act.put,List.setIfInBounds_toArray,List.set_cons_zero,List.set_cons_succ]
       refine U_readC 2 [3,4,11,14] (v:=(.pointer (some ⟨b,0,none⟩))) rfl (by kernel_rfl) (fun _ _ _ h=>h) hS (by kernel_rfl) (fun w' hw'=>by obtain⟨h0,h1⟩:=hw'; go_simp) ?_
       try simp only [Act.put,List.setIfInBounds_toArray,List.set_cons_zero,List.set_cons_succ]
       refine U_readC 3 [4,11,14] (v:=(.pointer (some ⟨b,0,none⟩))) rfl (by kernel_rfl) (fun _ _ _ h=>h) hS (by kernel_rfl) (fun w' hw'=>by obtain⟨h0,h1⟩:=hw'; go_simp) ?_
       try simp only [Act.put,List.setIfInBounds_toArray,List.set_cons_zero,List.set_cons_succ]
       refine U_readC 4 [11,14] (v:=(.pointer (some ⟨g,0,none⟩))) rfl (by kernel_rfl) (fun _ _ _ h=>h) hS (by kernel_rfl) (fun w' hw'=>by obtain⟨h0,h1⟩:=hw'; go_simp) ?_
       try simp only [Act.put,List.setIfInBounds_toArray,List.set_cons_zero,List.set_cons_succ]
       refine U_readC 5 [8,11,14] (v:=(.pointer (some ⟨b,0,none⟩))) rfl (by kernel_rfl) (fun _ _ _ h=>h) hS (by kernel_rfl) (fun w' hw'=>by obtain⟨h0,h1⟩:=hw'; go_simp) ?_
       try simp only [Act.put,List.setIfInBounds_toArray,List.set_cons_zero,List.set_cons_succ]
       refine U_readC 6 [7,8,11,14] (v:=(.int .i64 k)) rfl (by kernel_rfl) (fun _ _ _ h=>h) hS (by kernel_rfl) (fun w' hw'=>by obtain⟨h0,h1⟩:=hw'; go_simp) ?_
       try simp only [Act.put,List.setIfInBounds_toArray,List.set_cons_zero,List.set_cons_succ]
       refine U_readC 7 [8,11,14] (v:=(.int .i64 (10+k))) rfl (by kernel_rfl) (fun _ _ _ h=>h) hS (by kernel_rfl) (fun w' hw'=>by obtain⟨h0,h1⟩:=hw'; go_simp; exact IntWalk.i64_in _ (by omega)) ?_
       try simp only [Act.put,List.setIfInBounds_toArray,List.set_cons_zero,List.set_cons_succ]
       refine U_readC 9 [10,11,14] (v:=(.pointer (some ⟨b6,4,none⟩))) rfl (by kernel_rfl) (fun _ _ _ h=>h) hS (by kernel_rfl) (fun w' hw'=>by obtain⟨h0,h1⟩:=hw'; go_simp) ?_
       try simp only [Act.put,List.setIfInBounds_toArray,List.set_cons_zero,List.set_cons_succ]
       refine U_readC 10 [11,14] (v:=(.slice A n n)) rfl (by kernel_rfl) (fun _ _ _ h=>h) hS (by kernel_rfl) (fun w' hw'=>by obtain⟨h0,h1⟩:=hw'; go_simp) ?_
       try simp only [Act.put,List.setIfInBounds_toArray,List.set_cons_zero,List.set_cons_succ]
       refine U_one 8 (by kernel_rfl) rfl rfl (fun K hK=>?_)
       go_simp
       refine HCL.out.mono ?_
       rintro e w6 ⟨rfl,rfl⟩
       refine hK _ _ (fun _=>hS) ?_
       clear hK K
       try simp only [Act.put,List.setIfInBounds_toArray,List.set_cons_zero,List.set_cons_succ]
       refine U_one 11 (by kernel_rfl) rfl rfl (fun K hK=>?_)
       go_simp
       refine HOW.out.mono ?_
       rintro e w9 ⟨p9,rfl,L9,s9⟩
       have HK9:=Lib.hid (HK1.out.after L9 s9)
       have hS9:w9.cell? ⟨b,0,none⟩=some (.pointer (some ⟨g,0,none⟩))∧w9.cell? ⟨b6,4,none⟩=some (.slice A n n):=⟨HK9.out.cl.at_.blk.cell 0,HK9.out.bx.cell 4⟩
       clear L9 s9 HOW HK1
       refine hK _ _ (fun _=>hS9) ?_
       clear hK K
       try simp only [Act.put,List.setIfInBounds_toArray,List.set_cons_zero,List.set_cons_succ]
       clear hS
       have hS:=hS9
       refine U_one 12 (by kernel_rfl) rfl rfl (fun K hK=>?_)
       go_simp
       refine hK _ _ (fun _=>hS) ?_
       clear hK K
       try simp only [Act.put,List.setIfInBounds_toArray,List.set_cons_zero,List.set_cons_succ]
       refine U_one 13 (by kernel_rfl) rfl rfl (fun K hK=>?_)
       go_simp
       refine hK _ _ (fun _=>hS) ?_
       clear hK K
       try simp only [Act.put,List.setIfInBounds_toArray,List.set_cons_zero,List.set_cons_succ]
       refine U_one 14 (by kernel_rfl) rfl rfl (fun K hK=>?_)
       go_simp
       have q1:=HK9.out.cl.at_.blk.cell 1
       have z1:=HK9.out.cl.at_.blk.frozen 1
       try simp only at q1
       go_simp
       have HK10:=Lib.hid (HK9.out.cl.err E8)
       refine hK _ _ (fun h=>absurd h (by decide)) ?_
       clear hK K
       try simp only [Act.put,List.setIfInBounds_toArray,List.set_cons_zero,List.set_cons_succ]
       refine U_done (by kernel_rfl) ?_ _
       simp only [Calm,Exit.then]
       clear hS HK9 HCL
       go_wp2_with fail
       go_roundw
       case rel=>
        refine⟨k+1,p9,by go_num,by omega,?_⟩
        rw [HW.out,HB2.out]
        exact HK10.out
       case measure=>simp [intOf]; omega
      ·obtain rfl:k=22:=by omega
       have hd:decide ((22:Int)<22)=false:=by decide
       have HC:=Lib.hid C
       clear C
       go_wp2_with fail
       refine bodyPost_end (v:=.tuple #[]) (by simp [results,Tryz.results14,go_sem]) rfl ?_
       exact⟨p3,namesB s,rfl,by rw [HI.out]; exact HC.out.at_,HC.out.step,rfl,fun _=>rfl⟩
end
end
section
open Go.RowKit
attribute [local go_sem] Oper.semAt_some
def root1 (s:BS) (k:Nat):BS:=(List.range k).foldl (fun s (i:Nat)=>bRoot s i 0) s
theorem root1_succ (s:BS) (k:Nat):root1 s (k+1)=bRoot (root1 s k) k 0:=by
 unfold root1
 rw [List.range_succ,List.foldl_append]
 rfl
def szI (i:Nat):Nat:=[128,32,8,16].getD i 0
def root2 (s:BS) (k:Nat):BS:=(List.range k).foldl (fun s (i:Nat)=>bRoot s (arrI i) (szI i)) s
theorem root2_succ (s:BS) (k:Nat):root2 s (k+1)=bRoot (root2 s k) (arrI k) (szI k):=by
 unfold root2
 rw [List.range_succ,List.foldl_append]
 rfl
def nlI (i:Nat):Nat:=[5,7,9].getD i 0
def root3 (h:HM) (k:Nat):HM:=(List.range k).foldl (fun h (i:Nat)=>h.setRootH (nlI i) (h.rt 0)) h
theorem root3_succ (h:HM) (k:Nat):root3 h (k+1)=(root3 h k).setRootH (nlI k) ((root3 h k).rt 0):=by
 unfold root3
 rw [List.range_succ,List.foldl_append]
 rfl
def bonesB (s:BS):BS:=bClasses (root3 (root2 (root1 s 3) 4).1 3,(root2 (root1 s 3) 4).2)
theorem bootK_eq (n:Nat):bootK n=namesB (bonesB (HM.new n,0)):=by
 unfold bootK namesB bonesB
 simp only [nameN_all,selN_all,ownN_all]
 rfl
def KBootP (n:Nat) (w:World) (e:Ending) (w':World):Prop:=
 Below w.heap.size w w'∧if (bootK n).2=0 then ∃ p g,e = .returned (.tuple #[.pointer (some ⟨g,0,none⟩),.int .i64 0])∧Live w w' p g (bootK n).1
  else e = .returned (.tuple #[.pointer none,.int .i64 ((bootK n).2:Nat)])
theorem bRoot_eq (s:BS) (i n:Nat):bRoot s i n=((bAlloc s n).1.1.setRootH i (bAlloc s n).2,(bAlloc s n).1.2):=rfl
theorem BAt.after {W w w':World} {p p':HP} {g b:Nat} {s:BS} {h':HM} (B:BAt W w p g b s) (L:Live W w' p' g h') (a:Step p p' w w'):BAt W w' p' g b (h',s.2):=
 BAt.step (h:=s.1) (x:=s.2) B a L
theorem kboot_bad (n:Int) (hn:n<64∨1048576<n) (w:World):Calls Tryz.prog 4 #[.int .i64 n] w (Told (.tuple #[.pointer none,.int .i64 1]) w):=by
 have HN:=Lib.hid (new_bad n hn w)
 go_enter Tryz.func4,Tryz.ntmps4
 go_wp2_with fail
 refine HN.out.mono ?_
 rintro e w1 ⟨rfl,rfl⟩
 go_wp2_with fail
 go_ret2
 exact⟨rfl,Below.refl _ _⟩
set_option maxRecDepth 100000 in
set_option maxHeartbeats 8000000 in
theorem kboot_any (n:Nat) (h1:64≤n) (h2:n≤1048576) (w:World) (E:Env w):Calls Tryz.prog 4 #[.int .i64 n] w (KBootP n w):=by
 have HN:=Lib.hid (new_any n h1 h2 w)
 have HLN:=Lib.hid (fun e w' (H:NewHeap HAt (fun g=> .tuple #[ptr g,.int .i64 0]) (HM.new n) w e w')=>Live.of_new E h1 h2 H)
 have HI:=Lib.hid (bootK_eq n)
 clear h1 h2
 generalize HM.new n=hn at *
 go_enter Tryz.func4,Tryz.ntmps4
 go_wp2_with fail
 refine HN.out.mono ?_
 intro e w1 H
 obtain⟨p0,g,rfl,L0⟩:=HLN.out e w1 H
 clear H HN HLN E
 unfold ptr
 go_wp2_with fail
 have HB:=Lib.hid (show BAt w (w1.alloc (.cells #[.pointer (some ⟨g,0,none⟩),.int .i64 0] 35)) p0 g w1.heap.size (hn,0) from
  ⟨L0.after ((Below.refl _ _).alloc (Nat.le_refl _) _),Blk.new w1 _ _,fun q=>by have:=L0.at_.lt q; omega,L0.below.size⟩)
 clear L0
 generalize w1.alloc (.cells #[.pointer (some ⟨g,0,none⟩),.int .i64 0] 35)=w2 at *
 generalize w1.heap.size=b at *
 generalize hs0:(⟨hn,0⟩ :BS)=s0 at *
 clear hs0
 go_loopw [23] (fun iv wr=>∃ (k:Nat) (p':HP),iv = .int .i64 k∧k≤3∧BAt w wr p' g b (root1 s0 k)) (fun iv _=>3-(intOf iv).toNat)
 case atStart=>exact⟨0,p0,rfl,Nat.zero_le _,HB.out⟩
 case round=>
  clear HB
  obtain⟨k,p1,rfl,hk,B⟩:=hrel
  by_cases hkn:k<3
  ·have hd:decide ((k:Int)<3)=true:=by simp; omega
   have HW:=Lib.hid (root1_succ s0 k)
   generalize root1 s0 k=sk at *
   rw [bRoot_eq] at HW
   have HAL:=Lib.hid (balloc_any B 0)
   have ho32:=bAlloc_lt B.live.fit 0
   generalize bAlloc sk 0=q at *
   obtain⟨sa,o⟩:=q
   simp only at HAL ho32 HW
   clear B
   go_wp2_with fail
   refine HAL.out.mono ?_
   rintro e w3 ⟨p3,rfl,B3,s3⟩
   have HSR:=Lib.hid (B3.live.setRoot (k:Int) o ho32)
   have HB3:=Lib.hid B3
   clear B3 s3 HAL
   go_wp2_with fail
   refine HSR.out.mono ?_
   rintro e w4 ⟨p4,rfl,L4,s4⟩
   have HB4:=Lib.hid (HB3.out.after L4 s4)
   clear L4 s4 HSR HB3
   go_wp2_with fail
   go_roundw
   case rel=>
    refine⟨k+1,p4,by go_num,by omega,?_⟩
    rw [HW.out]
    exact HB4.out
   case measure=>simp [intOf]; omega
  ·obtain rfl:k=3:=by omega
   have hd:decide ((3:Int)<3)=false:=by decide
   rw [show ((3:Nat):Int)=3 from rfl]
   obtain⟨s1,hs1⟩ :∃ s1,root1 s0 3=s1:=⟨_,rfl⟩
   have HR1:=Lib.hid hs1
   rw [hs1] at B
   clear hs1
   go_upto_region 11 with fail
   have HB:=Lib.hid (B.below ((Below.refl _ _).alloc (Nat.le_refl _) (.cells #[.int .i64 3,.int .i64 128,.int .i64 4,.int .i64 32,.int .i64 6,.int .i64 8,.int .i64 8,.int .i64 16] 40)))
   have HBA:=Lib.hid (Blk.new wr 40 #[.int .i64 3,.int .i64 128,.int .i64 4,.int .i64 32,.int .i64 6,.int .i64 8,.int .i64 8,.int .i64 16])
   have HBO:=Lib.hid (show ¬ p1.has wr.heap.size∧wr.heap.size≠b from⟨fun q=>by have:=B.live.at_.lt q; omega,by have:=B.blk.lt; omega⟩)
   clear B hd
   generalize wr.alloc (.cells #[.int .i64 3,.int .i64 128,.int .i64 4,.int .i64 32,.int .i64 6,.int .i64 8,.int .i64 8,.int .i64 16] 40)=w4 at *
   generalize wr.heap.size=ba at *
   go_loopw [38] (fun iv wr=>∃ (k:Nat) (p':HP),iv = .int .i64 k∧k≤4∧BAt w wr p' g b (root2 s1 k)∧Blk wr ba 40 #[.int .i64 3,.int .i64 128,.int .i64 4,.int .i64 32,.int .i64 6,.int .i64 8,.int .i64 8,.int .i64 16]∧¬ p'.has ba∧ba≠b) (fun iv _=>4-(intOf iv).toNat)
   case atStart=>exact⟨0,p1,rfl,Nat.zero_le _,HB.out,HBA.out,HBO.out.1,HBO.out.2⟩
   case round=>
    clear HB HBA HBO
    obtain⟨k,p2,rfl,hk,B,BA,bo,bn⟩:=hrel
    by_cases hkn:k<4
    ·have hd:decide ((k:Int)<4)=true:=by simp; omega
     have hki:(k:Int)<4:=by omega
     have HW:=Lib.hid (root2_succ s1 k)
     rw [bRoot_eq] at HW
     have hca:wr.cell? ⟨ba,k*2,none⟩=some (.int .i64 ((arrI k:Nat):Int))∧wr.cell? ⟨ba,k*2+1,none⟩=some (.int .i64 ((szI k:Nat):Int)):=by
      rcases (by omega:k=0∨k=1∨k=2∨k=3) with rfl | rfl | rfl | rfl
      ·exact ⟨BA.cell 0,BA.cell 1⟩
      ·exact ⟨BA.cell 2,BA.cell 3⟩
      ·exact ⟨BA.cell 4,BA.cell 5⟩
      ·exact ⟨BA.cell 6,BA.cell 7⟩
     obtain⟨a0,a1⟩:=hca
     have ha64:arrI k<64∧szI k<1000:=by
      rcases (by omega:k=0∨k=1∨k=2∨k=3) with rfl | rfl | rfl | rfl <;> exact⟨by decide,by decide⟩
     generalize arrI k=r at *
     generalize szI k=z at *
     generalize root2 s1 k=sk at *
     have HB:=Lib.hid B
     have HBA:=Lib.hid BA
     have HBO:=Lib.hid (And.intro bo bn)
     clear B BA bo bn
     go_upto_region 13 with fail
     have hbA:Below wr.heap.size wr (wr.alloc (.cells #[.int .i64 r,.int .i64 z] 40)).drew:=below_drew ((Below.refl _ _).alloc (Nat.le_refl _) _)
     have HB1:=Lib.hid (HB.out.below hbA)
     have HBA1:=Lib.hid (HBA.out.below hbA HBA.out.lt)
     have HBX:=Lib.hid (show Blk (wr.alloc (.cells #[.int .i64 r,.int .i64 z] 40)).drew wr.heap.size 40 #[.int .i64 r,.int .i64 z] from Blk.new wr _ _)
     have HXO:=Lib.hid (show ¬ p2.has wr.heap.size∧wr.heap.size≠b from⟨fun q=>by have:=HB.out.live.at_.lt q; omega,by have:=HB.out.blk.lt; omega⟩)
     clear HB HBA hbA a0 a1
     have HAL:=Lib.hid (balloc_any HB1.out z)
     have ho32:=bAlloc_lt HB1.out.live.fit z
     have hS:(wr.alloc (.cells #[.int .i64 r,.int .i64 z] 40)).drew.cell? ⟨wr.heap.size,0,none⟩=some (.int .i64 (r:Nat))∧(wr.alloc (.cells #[.int .i64 r,.int .i64 z] 40)).drew.cell? ⟨wr.heap.size,1,none⟩=some (.int .i64 (z:Nat)):=⟨HBX.out.cell 0,HBX.out.cell 1⟩
     generalize wr.heap.size=b9 at *
     generalize bAlloc sk z=q at *
     obtain⟨sa,o⟩:=q
     simp only at HAL ho32 HW
     refine wp_region_U 7 (fun w'=>w'.cell? ⟨b9,0,none⟩=some (.int .i64 (r:Nat))∧w'.cell? ⟨b9,1,none⟩=some (.int .i64 (z:Nat))) (by kernel_rfl) ?_
     refine U_readC 0 [7] (v:=(.pointer (some ⟨g,0,none⟩))) rfl (by kernel_rfl) (fun _ _ _ h=>h) hS (by kernel_rfl) (fun w' hw'=>by obtain⟨h0,h1⟩:=hw'; go_simp) ?_
     try simp only [Act.put,List.setIfInBounds_toArray,List.set_cons_zero,List.set_cons_succ]
     refine U_readC 1 [2,7] (v:=(.pointer (some ⟨b9,0,none⟩))) rfl (by kernel_rfl) (fun _ _ _ h=>h) hS (by kernel_rfl) (fun w' hw'=>by obtain⟨h0,h1⟩:=hw'; go_simp) ?_
     try simp only [Act.put,List.setIfInBounds_toArray,List.set_cons_zero,List.set_cons_succ]
     refine U_readC 2 [7] (v:=(.int .i64 (r:Nat))) rfl (by kernel_rfl) (fun _ _ _ h=>h) hS (by kernel_rfl) (fun w' hw'=>by obtain⟨h0,h1⟩:=hw'; go_simp) ?_
     try simp only [Act.put,List.setIfInBounds_toArray,List.set_cons_zero,List.set_cons_succ]
     refine U_readC 3 [6,7] (v:=(.pointer (some ⟨b,0,none⟩))) rfl (by kernel_rfl) (fun _ _ _ h=>h) hS (by kernel_rfl) (fun w' hw'=>by obtain⟨h0,h1⟩:=hw'; go_simp) ?_
     try simp only [Act.put,List.setIfInBounds_toArray,List.set_cons_zero,List.set_cons_succ]
     refine U_readC 4 [5,6,7] (v:=(.pointer (some ⟨b9,1,none⟩))) rfl (by kernel_rfl) (fun _ _ _ h=>h) hS (by kernel_rfl) (fun w' hw'=>by obtain⟨h0,h1⟩:=hw'; go_simp) ?_
     try simp only [Act.put,List.setIfInBounds_toArray,List.set_cons_zero,List.set_cons_succ]
     refine U_readC 5 [6,7] (v:=(.int .i64 (z:Nat))) rfl (by kernel_rfl) (fun _ _ _ h=>h) hS (by kernel_rfl) (fun w' hw'=>by obtain⟨h0,h1⟩:=hw'; go_simp) ?_
     try simp only [Act.put,List.setIfInBounds_toArray,List.set_cons_zero,List.set_cons_succ]
     refine U_one 6 (by kernel_rfl) rfl rfl (fun K hK=>?_)
     go_simp
     refine HAL.out.mono ?_
     rintro e w5 ⟨p5,rfl,B5,s5⟩
     have HSR:=Lib.hid (B5.live.setRoot (r:Int) o ho32)
     have hx:=HBX.out.same (s5.block b9 HBX.out.lt HXO.out.1 HXO.out.2)
     have hS5:w5.cell? ⟨b9,0,none⟩=some (.int .i64 (r:Nat))∧w5.cell? ⟨b9,1,none⟩=some (.int .i64 (z:Nat)):=⟨hx.cell 0,hx.cell 1⟩
     have HBA5:=Lib.hid (show Blk w5 ba 40 _∧¬ p5.has ba from⟨HBA1.out.same (s5.block ba HBA1.out.lt HBO.out.1 HBO.out.2),fun q=>by rcases s5.rows ba q with r | r; exact HBO.out.1 r; have:=HBA1.out.lt; omega⟩)
     have HB5:=Lib.hid B5
     clear B5 s5 HAL hx HBX HXO HB1
     refine hK _ _ (fun _=>hS5) ?_
     clear hK K
     try simp only [Act.put,List.setIfInBounds_toArray,List.set_cons_zero,List.set_cons_succ]
     clear hS
     have hS:=hS5
     refine U_one 7 (by kernel_rfl) rfl rfl (fun K hK=>?_)
     go_simp
     refine HSR.out.mono ?_
     rintro e w6 ⟨p6,rfl,L6,s6⟩
     have HB6:=Lib.hid (HB5.out.after L6 s6)
     have HBA6:=Lib.hid (show Blk w6 ba 40 _∧¬ p6.has ba from⟨HBA5.out.1.same (s6.block ba HBA5.out.1.lt HBA5.out.2),fun q=>by rcases s6.rows ba q with r | r; exact HBA5.out.2 r; have:=HBA5.out.1.lt; omega⟩)
     clear L6 s6 HSR HB5 HBA5
     refine hK _ _ (fun h=>absurd h (by decide)) ?_
     clear hK K
     try simp only [Act.put,List.setIfInBounds_toArray,List.set_cons_zero,List.set_cons_succ]
     refine U_done (by kernel_rfl) ?_ _
     simp only [Calm,Exit.then]
     clear hS
     go_wp2_with fail
     go_roundw
     case rel=>
      refine⟨k+1,p6,by go_num,by omega,?_,HBA6.out.1,HBA6.out.2,HBO.out.2⟩
      rw [HW.out]
      exact HB6.out
     case measure=>simp [intOf]; omega
    ·obtain rfl:k=4:=by omega
     have hd:decide ((4:Int)<4)=false:=by decide
     rw [show ((4:Nat):Int)=4 from rfl]
     obtain⟨⟨h2,E⟩,hs2⟩ :∃ s2,root2 s1 4=s2:=⟨_,rfl⟩
     have HS2:=Lib.hid hs2
     rw [hs2] at B
     clear BA bo bn hs2
     go_upto_region 16 with fail
     have HB:=Lib.hid (B.below ((Below.refl _ _).alloc (Nat.le_refl _) (.cells #[.int .i64 5,.int .i64 7,.int .i64 9] 3)))
     have HBA:=Lib.hid (Blk.new wr 3 #[.int .i64 5,.int .i64 7,.int .i64 9])
     have HBO:=Lib.hid (show ¬ p2.has wr.heap.size from fun q=>by have:=B.live.at_.lt q; omega)
     clear B hd
     generalize wr.alloc (.cells #[.int .i64 5,.int .i64 7,.int .i64 9] 3)=w4 at *
     generalize wr.heap.size=ba at *
     go_loopw [53] (fun iv wr=>∃ (k:Nat) (p':HP),iv = .int .i64 k∧k≤3∧BAt w wr p' g b (root3 h2 k,E)∧Blk wr ba 3 #[.int .i64 5,.int .i64 7,.int .i64 9]∧¬ p'.has ba) (fun iv _=>3-(intOf iv).toNat)
     case atStart=>exact⟨0,p2,rfl,Nat.zero_le _,HB.out,HBA.out,HBO.out⟩
     case round=>
      clear HB HBA HBO
      obtain⟨k,p3,rfl,hk,B,BA,bo⟩:=hrel
      by_cases hkn:k<3
      ·have hd:decide ((k:Int)<3)=true:=by simp; omega
       have hki:(k:Int)<3:=by omega
       have HW:=Lib.hid (root3_succ h2 k)
       have hca:wr.cell? ⟨ba,k,none⟩=some (.int .i64 ((nlI k:Nat):Int)):=by
        rcases (by omega:k=0∨k=1∨k=2) with rfl | rfl | rfl
        ·exact BA.cell 0
        ·exact BA.cell 1
        ·exact BA.cell 2
       generalize nlI k=r at *
       generalize root3 h2 k=hk3 at *
       have HRT:=Lib.hid (kroot_any B.live 0)
       have hr0:hk3.rootN 0=hk3.rt 0:=rootN_rt hk3 (i:=0) (by omega)
       simp only at HRT
       rw [hr0] at HRT
       have HSR:=Lib.hid (B.live.setRoot (r:Int) (hk3.rt 0) (B.live.fit.root 0))
       have HB:=Lib.hid B
       have HBA:=Lib.hid (And.intro BA bo)
       clear B BA bo hr0
       simp only at HSR
       obtain⟨nil0,hh⟩ :∃ r,r=hk3.rt 0:=⟨_,rfl⟩
       rw [← hh] at HRT HSR HW
       clear hh
       go_wp2_with fail
       refine HRT.out.mono ?_
       rintro e w5 ⟨rfl,rfl⟩
       go_wp2_with fail
       refine HSR.out.mono ?_
       rintro e w6 ⟨p6,rfl,L6,s6⟩
       have HB6:=Lib.hid (HB.out.after L6 s6)
       have HBA6:=Lib.hid (show Blk w6 ba 3 _∧¬ p6.has ba from⟨HBA.out.1.same (s6.block ba HBA.out.1.lt HBA.out.2),fun q=>by rcases s6.rows ba q with r | r; exact HBA.out.2 r; have:=HBA.out.1.lt; omega⟩)
       clear L6 s6 HSR HB HBA hca
       go_wp2_with fail
       go_roundw
       case rel=>
        refine⟨k+1,p6,by go_num,by omega,?_,HBA6.out.1,HBA6.out.2⟩
        rw [HW.out]
        exact HB6.out
       case measure=>simp [intOf]; omega
      ·obtain rfl:k=3:=by omega
       have hd:decide ((3:Int)<3)=false:=by decide
       rw [show ((3:Nat):Int)=3 from rfl]
       clear BA bo
       have HI2:=Lib.hid (show bootK n=namesB (bClasses (root3 h2 3,E)) from by rw [HI.out]; unfold bonesB; rw [HR1.out,HS2.out])
       generalize root3 h2 3=h3 at *
       have HCS:=Lib.hid (bclasses_any B)
       clear B HI HS2 HR1
       go_wp2_with fail
       refine HCS.out.mono ?_
       rintro e w5 ⟨p5,rfl,B5,s5⟩
       have HNM:=Lib.hid (bnames_any B5)
       clear B5 s5 HCS
       go_wp2_with fail
       refine HNM.out.mono ?_
       rintro e w6 ⟨p6,s6,rfl,B6,-,hs1,hs2⟩
       rw [← HI2.out] at hs1 hs2
       have c1:=B6.blk.cell 1
       have HB6:=Lib.hid B6
       have HS:=Lib.hid (And.intro hs1 hs2)
       obtain⟨h6,E6⟩:=s6
       clear B6 HNM HI2 hs1 hs2
       simp only at c1
       by_cases hE:E6=0
       ·subst hE
        have HF:=Lib.hid (show KBootP n w (.returned (.tuple #[.pointer (some ⟨g,0,none⟩),.int .i64 0])) w6 from⟨HB6.out.live.below,by
         have e1:(bootK n).2=0:=HS.out.1.symm
         rw [if_pos e1,← HS.out.2 e1]
         exact⟨p6,g,rfl,HB6.out.live⟩⟩)
        clear HB6 HS
        go_wp2_with fail
        go_ret2
        exact HF.out
       ·have hne:((E6:Int) != 0)=true:=by simp; omega
        have hnei:¬ ((E6:Int)=0):=by omega
        have HF:=Lib.hid (show KBootP n w (.returned (.tuple #[.pointer none,.int .i64 (E6:Nat)])) w6.drew from⟨below_drew HB6.out.live.below,by
         have e1:E6=(bootK n).2:=HS.out.1
         rw [if_neg (by rw [← e1]; exact hE),← e1]⟩)
        have HC1:=Lib.hid c1
        clear HB6 HS hE
        go_upto_region 23 with fail
        have hS:w6.drew.cell? ⟨b,1,none⟩=some (.int .i64 (E6:Nat))∧True:=⟨HC1.out,trivial⟩
        clear c1
        refine wp_region_U 5 (fun w'=>w'.cell? ⟨b,1,none⟩=some (.int .i64 (E6:Nat))∧True) (by kernel_rfl) ?_
        refine U_readC 0 [1,2,3,5] (v:=(.pointer (some ⟨b,0,none⟩))) rfl (by kernel_rfl) (fun _ _ _ h=>h) hS (by kernel_rfl) (fun w' hw'=>by obtain⟨h0,h1⟩:=hw'; go_simp) ?_
        try simp only [Act.put,List.setIfInBounds_toArray,List.set_cons_zero,List.set_cons_succ]
        refine U_readC 1 [2,3,5] (v:=(.pointer (some ⟨b,0,none⟩))) rfl (by kernel_rfl) (fun _ _ _ h=>h) hS (by kernel_rfl) (fun w' hw'=>by obtain⟨h0,h1⟩:=hw'; go_simp) ?_
        try simp only [Act.put,List.setIfInBounds_toArray,List.set_cons_zero,List.set_cons_succ]
        refine U_readC 2 [3,5] (v:=(.pointer (some ⟨b,1,none⟩))) rfl (by kernel_rfl) (fun _ _ _ h=>h) hS (by kernel_rfl) (fun w' hw'=>by obtain⟨h0,h1⟩:=hw'; go_simp) ?_
        try simp only [Act.put,List.setIfInBounds_toArray,List.set_cons_zero,List.set_cons_succ]
        refine U_readC 3 [5] (v:=(.int .i64 (E6:Nat))) rfl (by kernel_rfl) (fun _ _ _ h=>h) hS (by kernel_rfl) (fun w' hw'=>by obtain⟨h0,h1⟩:=hw'; go_simp) ?_
        try simp only [Act.put,List.setIfInBounds_toArray,List.set_cons_zero,List.set_cons_succ]
        refine U_one 4 (by kernel_rfl) rfl rfl (fun K hK=>?_)
        go_simp
        refine hK _ _ (fun _=>hS) ?_
        clear hK K
        try simp only [Act.put,List.setIfInBounds_toArray,List.set_cons_zero,List.set_cons_succ]
        refine U_one 5 (by kernel_rfl) rfl rfl (fun K hK=>?_)
        go_simp
        refine hK _ _ (fun h=>absurd h (by decide)) ?_
        clear hK K
        try simp only [Act.put,List.setIfInBounds_toArray,List.set_cons_zero,List.set_cons_succ]
        refine U_done (by kernel_rfl) ?_ _
        simp only [Calm,Exit.then]
        clear hS
        go_wp2_with fail
        go_ret2
        exact HF.out
end
end Go.Proofs.YtdoahpflemgaeaaGreatDoor
