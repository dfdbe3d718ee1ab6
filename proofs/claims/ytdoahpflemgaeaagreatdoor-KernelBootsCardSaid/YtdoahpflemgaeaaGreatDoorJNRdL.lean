import Derived.Test.YtdoahpflemgaeaaGreatDoorJNRdH
set_option linter.unusedVariables false
set_option linter.unusedSimpArgs false
namespace Go.Proofs.YtdoahpflemgaeaaGreatDoor
section
open Go.RowKit
attribute [local go_sem] Oper.semAt_some
structure BnAt (w:World) (p:HP) (wr:World) (p':HP) (g:Nat) (h:HM) (br b5 b6:Nat):Prop where
 rl:RL wr p' g h
 step:Step p p' w wr
 rows:RowsAt p' wr br
 s5:Blk wr b5 3 #[.int .i64 0,.int .i64 0,.int .i64 0,.int .i64 128,.int .i64 32,.int .i64 8,.int .i64 16]
 o5:¬ p'.has b5
 s6:Blk wr b6 3 #[.int .i64 0,.int .i64 1,.int .i64 2,.int .i64 3,.int .i64 4,.int .i64 6,.int .i64 8]
 o6:¬ p'.has b6
theorem keep_out {p p':HP} {w w':World} {b:Nat} (hb:b<w.heap.size) (ho:¬ p.has b) (s:Step p p' w w'):¬ p'.has b:=fun q=>by
 rcases s.rows b q with r | r
 ·exact ho r
 ·omega
section
variable {w wr wr':World} {p p' p'':HP} {g br b5 b6:Nat} {h h':HM}
theorem BnAt.after (C:BnAt w p wr p' g h br b5 b6) (L:RL wr' p'' g h') (a:Step p' p'' wr wr'):BnAt w p wr' p'' g h' br b5 b6:=
 ⟨L,C.step.trans a,C.rows.step a,C.s5.same (a.block b5 C.s5.lt C.o5),keep_out C.s5.lt C.o5 a,C.s6.same (a.block b6 C.s6.lt C.o6),keep_out C.s6.lt C.o6 a⟩
theorem BnAt.below (C:BnAt w p wr p' g h br b5 b6) (hb:Below wr.heap.size wr wr'):BnAt w p wr' p' g h br b5 b6:=
 C.after (C.rl.below hb) (Step.of_below hb)
theorem BnAt.grown (C:BnAt w p wr p' g h br b5 b6) (R:RowsAt p w br) {bm:Nat} (hg:wr.grownBy wr' (some bm)) (hn:¬ p'.has bm) (hm:w.heap.size≤bm) (h5:b5≠bm) (h6:b6≠bm):BnAt w p wr' p' g h br b5 b6:=
 have st:=C.step.grown hg (fun q e=>by injection e with e; omega)
 ⟨C.rl.grown hg (fun q e=>by injection e with e; subst e; exact hn),st,R.step st,C.s5.same (hg.block b5 C.s5.lt (fun e=>by injection e with e; exact h5 e)),C.o5,C.s6.same (hg.block b6 C.s6.lt (fun e=>by injection e with e; exact h6 e)),C.o6⟩
end
theorem pair_valB {h:HM} (G:∃ l,h.Good l) (h0:pairE h=0):((h.AllocH 0 1 6).AllocH 0 1 6).valB (h.AllocO 0 1 6)=true:=by
 obtain⟨l,G⟩:=G
 unfold pairE at h0
 by_cases h1:h.AllocE 0 1 6=0
 rotate_left
 ·rw [if_pos h1] at h0; exact absurd h0 h1
 rw [if_neg (fun q=>q h1)] at h0
 obtain⟨l1,G1⟩:=G.AllocH 0 1 6 (by omega)
 have e:h.AllocO 0 1 6=2*h.words.length:=by unfold HM.AllocO; rw [if_pos h1]
 have K2:Kp (h.AllocH 0 1 6) ((h.AllocH 0 1 6).AllocH 0 1 6):=by rw [alloc_push h0]; exact Kp.push G1 _ _
 exact K2.val (isB_valB (by rw [e]; exact (alloc_new G (by omega) h1).1))
section
variable {w:World} {p:HP} {g:Nat} {h:HM} (L:RL w p g h)
include L
set_option maxRecDepth 100000 in
set_option maxHeartbeats 16000000 in
theorem dbones_any (br:Nat) (R:RowsAt p w br):Calls Tryz.prog 17 #[.pointer (some ⟨g,0,none⟩),.slice (some ⟨br,0,none⟩) 22 22] w (DBonesP p g h w):=by
 have HL:=Lib.hid L
 have HR:=Lib.hid R
 have HBR:=Lib.hid (fun k (hk:k≤7) (q:(dRootN (h,0) k).2≠0)=>dBones_roots hk q)
 have HBP:=Lib.hid (fun k (hk:k≤22) (q:(dPairN (dRootN (h,0) 7) k).1.2≠0)=>dBones_pairs hk q)
 have HBF:=Lib.hid (show dBones (h,0)=if (dPairN (dRootN (h,0) 7) 22).1.2≠0 then (dPairN (dRootN (h,0) 7) 22).1 else (dClsN (dWireN (dPairN (dRootN (h,0) 7) 22).2 (dPairN (dRootN (h,0) 7) 22).1.1 22) 7,0) from rfl)
 have HPL:=Lib.hid (show ∀ k,p.has k→k<w.heap.size from fun k hk=>L.at_.lt hk)
 clear L R
 have hmm:=@run_makeMap Tryz.prog
 go_enter Tryz.func17,Tryz.ntmps17
 go_upto_region 4 with fail
 have hb1:Below w.heap.size w (w.alloc (.cells #[.int .i64 0,.int .i64 0,.int .i64 0,.int .i64 128,.int .i64 32,.int .i64 8,.int .i64 16] 3)):=(Below.refl _ _).alloc (Nat.le_refl _) _
 have hs1:(w.alloc (.cells #[.int .i64 0,.int .i64 0,.int .i64 0,.int .i64 128,.int .i64 32,.int .i64 8,.int .i64 16] 3)).heap.size=w.heap.size+1:=by simp
 have hk6:=Blk.new (w.alloc (.cells #[.int .i64 0,.int .i64 0,.int .i64 0,.int .i64 128,.int .i64 32,.int .i64 8,.int .i64 16] 3)) 3 #[.int .i64 0,.int .i64 1,.int .i64 2,.int .i64 3,.int .i64 4,.int .i64 6,.int .i64 8]
 rw [hs1] at hk6
 have HC:=Lib.hid (show BnAt w p ((w.alloc (.cells #[.int .i64 0,.int .i64 0,.int .i64 0,.int .i64 128,.int .i64 32,.int .i64 8,.int .i64 16] 3)).alloc (.cells #[.int .i64 0,.int .i64 1,.int .i64 2,.int .i64 3,.int .i64 4,.int .i64 6,.int .i64 8] 3)) p g h br w.heap.size (w.heap.size+1) from
  have hb2:=hb1.alloc hb1.size (.cells #[.int .i64 0,.int .i64 1,.int .i64 2,.int .i64 3,.int .i64 4,.int .i64 6,.int .i64 8] 3)
  ⟨HL.out.below hb2,Step.of_below hb2,HR.out.below hb2,(Blk.new w 3 #[.int .i64 0,.int .i64 0,.int .i64 0,.int .i64 128,.int .i64 32,.int .i64 8,.int .i64 16]).alloc _,fun q=>by have:=HPL.out _ q; omega,hk6,fun q=>by have:=HPL.out _ q; omega⟩)
 clear HL hb1 hs1 hk6 HPL
 generalize (w.alloc (.cells #[.int .i64 0,.int .i64 0,.int .i64 0,.int .i64 128,.int .i64 32,.int .i64 8,.int .i64 16] 3)).alloc (.cells #[.int .i64 0,.int .i64 1,.int .i64 2,.int .i64 3,.int .i64 4,.int .i64 6,.int .i64 8] 3)=w2 at *
 generalize w.heap.size+1=b6 at *
 generalize hb5:w.heap.size=b5 at HC ⊢
 clear hb5
 go_loopw [7] (fun iv wr=>∃ (k:Nat) (p':HP),iv = .int .i64 k∧k≤7∧BnAt w p wr p' g (dRootN (h,0) k).1 br b5 b6∧(dRootN (h,0) k).2=0) (fun iv _=>7-(intOf iv).toNat)
 case atStart=>exact⟨0,p,rfl,Nat.zero_le _,HC.out,rfl⟩
 case round=>
  clear HC
  obtain⟨k,p1,rfl,hk,C,h0⟩:=hrel
  by_cases hkn:k<7
  ·have hd:decide ((k:Int)<7)=true:=by simp; omega
   have hki:(k:Int)<7:=by omega
   have HW:=Lib.hid (dRootN_succ (h,0) k)
   have HBK:=Lib.hid (HBR.out (k+1) (by omega))
   obtain⟨hk0,hkk⟩ :∃ x,x=(dRootN (h,0) k).1:=⟨_,rfl⟩
   have hke:dRootN (h,0) k=(hk0,0):=Prod.ext hkk.symm h0
   rw [hke] at HW
   rw [← hkk] at C
   clear hkk hke h0
   have hca:wr.cell? ⟨b5,k,none⟩=some (.int .i64 ((sI k:Nat):Int))∧wr.cell? ⟨b6,k,none⟩=some (.int .i64 ((rI k:Nat):Int)):=by
    rcases (by omega:k=0∨k=1∨k=2∨k=3∨k=4∨k=5∨k=6) with rfl | rfl | rfl | rfl | rfl | rfl | rfl
    ·exact ⟨C.s5.cell 0,C.s6.cell 0⟩
    ·exact ⟨C.s5.cell 1,C.s6.cell 1⟩
    ·exact ⟨C.s5.cell 2,C.s6.cell 2⟩
    ·exact ⟨C.s5.cell 3,C.s6.cell 3⟩
    ·exact ⟨C.s5.cell 4,C.s6.cell 4⟩
    ·exact ⟨C.s5.cell 5,C.s6.cell 5⟩
    ·exact ⟨C.s5.cell 6,C.s6.cell 6⟩
   have hb64:sI k≤128∧rI k<64:=by
    rcases (by omega:k=0∨k=1∨k=2∨k=3∨k=4∨k=5∨k=6) with rfl | rfl | rfl | rfl | rfl | rfl | rfl <;> exact⟨by decide,by decide⟩
   obtain⟨x5,x6⟩:=hca
   have HX6:=Lib.hid x6
   have HD1:=Lib.hid (show dRootB (hk0,0) k=if hk0.AllocE 0 1 (sI k)≠0 then (hk0,hk0.AllocE 0 1 (sI k)) else (dRoot1 hk0 k,0) from rfl)
   have HD2:=Lib.hid (show dRoot1 hk0 k=if k=0 then ((((hk0.AllocH 0 1 (sI k)).setRootH (rI k) (hk0.AllocO 0 1 (sI k))).setRootH (5:Nat) (hk0.AllocO 0 1 (sI k))).setRootH (7:Nat) (hk0.AllocO 0 1 (sI k))).setRootH (9:Nat) (hk0.AllocO 0 1 (sI k))
    else (hk0.AllocH 0 1 (sI k)).setRootH (rI k) (hk0.AllocO 0 1 (sI k)) from rfl)
   generalize sI k=z at *
   generalize rI k=r at *
   have HAL:=Lib.hid (C.rl.alloc 0 (by omega) 1 (z:Int))
   have hO32:=AllocO_lt C.rl.fit 0 1 (z:Int)
   have HVO:=Lib.hid (fun q:hk0.AllocE 0 1 (z:Int)=0=>show (hk0.AllocH 0 1 (z:Int)).valB (hk0.AllocO 0 1 (z:Int))=true from by
    obtain⟨l,G⟩:=C.rl.good
    have e:hk0.AllocO 0 1 (z:Int)=2*hk0.words.length:=by unfold HM.AllocO; rw [if_pos q]
    rw [e]
    exact isB_valB (alloc_new G (by omega) q).1)
   have HC:=Lib.hid C
   obtain⟨E,hE⟩ :∃ E,E=hk0.AllocE 0 1 (z:Int):=⟨_,rfl⟩
   obtain⟨O,hO⟩ :∃ O,O=hk0.AllocO 0 1 (z:Int):=⟨_,rfl⟩
   rw [← hE] at HAL HVO HD1
   rw [← hO] at HAL HVO HD2 hO32
   clear C hE hO
   go_wp2_with fail
   refine HAL.out.mono ?_
   rintro e w3 ⟨p3,rfl,L3,s3⟩
   have HC3:=Lib.hid (HC.out.after L3 s3)
   have HX63:=Lib.hid ((World.cell?_of_block (a:=⟨b6,k,none⟩) (s3.block b6 HC.out.s6.lt HC.out.o6)).trans HX6.out)
   clear L3 s3 HAL HC x5 x6
   by_cases hE0:E=0
   rotate_left
   ·have hne:((E:Int) != 0)=true:=by simp; omega
    have hnei:¬ ((E:Int)=0):=by omega
    have he:dRootN (h,0) (k+1)=(hk0,E):=by rw [HW.out,HD1.out,if_pos hE0]
    have HF:=Lib.hid (show (dBones (h,0)).2=E from by
     have:=HBK.out (by rw [he]; exact hE0)
     rw [this,he])
    have HE0:=Lib.hid hE0
    clear HW HD1 HD2 HBK HVO he hE0
    go_wp2_with fail
    go_ret
    exact⟨p3,_,by rw [HF.out]; rfl,HC3.out.rl,HC3.out.step,fun q=>absurd (HF.out.symm.trans q) HE0.out⟩
   have HV3:=Lib.hid (HVO.out hE0)
   have HW2:=Lib.hid (show dRootN (h,0) (k+1)=(dRoot1 hk0 k,0) from by rw [HW.out,HD1.out,if_neg (fun q=>q hE0)])
   clear HW HD1 HVO HBK
   subst hE0
   generalize hk0.AllocH 0 1 (z:Int)=h3 at *
   go_upto_region 9 with fail
   have HC4:=Lib.hid (HC3.out.below (below_drew (Below.refl _ _)))
   have hST:=HC4.out.rl.storeRoot r O hb64.2 hO32 HV3.out
   have hr64:=hb64.2
   have hri:(r:Int)<64:=by omega
   obtain⟨c2,cr0⟩:=HC4.out.rl.rootsP
   have crr:=cr0 r hr64
   have zr:=HC4.out.rl.frozenR r
   have HCR:=Lib.hid (And.intro crr zr)
   have hS:w3.drew.cell? ⟨g,2,none⟩=some (.slice (some ⟨p3.gr,0,none⟩) 64 p3.cr)∧w3.drew.cell? ⟨b6,k,none⟩=some (.int .i64 (r:Nat)):=⟨c2,HX63.out⟩
   have HC5:=Lib.hid (HC4.out.after hST.1 hST.2)
   clear HC3 HC4 hST c2 cr0 crr zr HX63 HX6
   generalize hgr:p3.gr=gr at *
   have HGR:=Lib.hid hgr
   clear hgr
   refine wp_region_U 10 (fun w'=>w'.cell? ⟨g,2,none⟩=some (.slice (some ⟨gr,0,none⟩) 64 p3.cr)∧w'.cell? ⟨b6,k,none⟩=some (.int .i64 (r:Nat))) (by kernel_rfl) ?_
   generalize w3.drew=wd at *
   refine U_readC 0 [1,2,3,9,10] (v:=(.pointer (some ⟨g,0,none⟩))) rfl (by kernel_rfl) (fun _ _ _ h=>h) hS (by kernel_rfl) (fun w' hw'=>by obtain⟨h0,h1⟩:=hw'; go_simp) ?_
   try simp only [Act.put,List.setIfInBounds_toArray,List.set_cons_zero,List.set_cons_succ]
   refine U_readC 1 [2,3,9,10] (v:=(.pointer (some ⟨g,0,none⟩))) rfl (by kernel_rfl) (fun _ _ _ h=>h) hS (by kernel_rfl) (fun w' hw'=>by obtain⟨h0,h1⟩:=hw'; go_simp) ?_
   try simp only [Act.put,List.setIfInBounds_toArray,List.set_cons_zero,List.set_cons_succ]
   refine U_readC 2 [3,9,10] (v:=(.pointer (some ⟨g,2,none⟩))) rfl (by kernel_rfl) (fun _ _ _ h=>h) hS (by kernel_rfl) (fun w' hw'=>by obtain⟨h0,h1⟩:=hw'; go_simp) ?_
   try simp only [Act.put,List.setIfInBounds_toArray,List.set_cons_zero,List.set_cons_succ]
   refine U_readC 3 [9,10] (v:=(.slice (some ⟨gr,0,none⟩) 64 p3.cr)) rfl (by kernel_rfl) (fun _ _ _ h=>h) hS (by kernel_rfl) (fun w' hw'=>by obtain⟨h0,h1⟩:=hw'; go_simp) ?_
   try simp only [Act.put,List.setIfInBounds_toArray,List.set_cons_zero,List.set_cons_succ]
   refine U_readC 4 [6,7,9,10] (v:=(.slice (some ⟨b6,0,none⟩) 7 7)) rfl (by kernel_rfl) (fun _ _ _ h=>h) hS (by kernel_rfl) (fun w' hw'=>by obtain⟨h0,h1⟩:=hw'; go_simp) ?_
   try simp only [Act.put,List.setIfInBounds_toArray,List.set_cons_zero,List.set_cons_succ]
   refine U_readC 5 [6,7,9,10] (v:=(.int .i64 k)) rfl (by kernel_rfl) (fun _ _ _ h=>h) hS (by kernel_rfl) (fun w' hw'=>by obtain⟨h0,h1⟩:=hw'; go_simp) ?_
   try simp only [Act.put,List.setIfInBounds_toArray,List.set_cons_zero,List.set_cons_succ]
   refine U_readC 6 [7,9,10] (v:=(.pointer (some ⟨b6,k,none⟩))) rfl (by kernel_rfl) (fun _ _ _ h=>h) hS (by kernel_rfl) (fun w' hw'=>by obtain⟨h0,h1⟩:=hw'; go_simp) ?_
   try simp only [Act.put,List.setIfInBounds_toArray,List.set_cons_zero,List.set_cons_succ]
   refine U_readC 7 [9,10] (v:=(.int .i64 (r:Nat))) rfl (by kernel_rfl) (fun _ _ _ h=>h) hS (by kernel_rfl) (fun w' hw'=>by obtain⟨h0,h1⟩:=hw'; go_simp) ?_
   try simp only [Act.put,List.setIfInBounds_toArray,List.set_cons_zero,List.set_cons_succ]
   refine U_readC 8 [10] (v:=(.int .u32 (O:Nat))) rfl (by kernel_rfl) (fun _ _ _ h=>h) hS (by kernel_rfl) (fun w' hw'=>by obtain⟨h0,h1⟩:=hw'; go_simp) ?_
   try simp only [Act.put,List.setIfInBounds_toArray,List.set_cons_zero,List.set_cons_succ]
   refine U_readC 9 [10] (v:=(.pointer (some ⟨gr,r,none⟩))) rfl (by kernel_rfl) (fun _ _ _ h=>h) hS (by kernel_rfl) (fun w' hw'=>by obtain⟨h0,h1⟩:=hw'; go_simp) ?_
   try simp only [Act.put,List.setIfInBounds_toArray,List.set_cons_zero,List.set_cons_succ]
   refine U_one 10 (by kernel_rfl) rfl rfl (fun K hK=>?_)
   go_simp
   have q1:=HCR.out.1
   have z1:=HCR.out.2
   go_simp
   refine hK _ _ (fun h=>absurd h (by decide)) ?_
   clear hK K
   try simp only [Act.put,List.setIfInBounds_toArray,List.set_cons_zero,List.set_cons_succ]
   refine U_done (by kernel_rfl) ?_ _
   simp only [Calm,Exit.then]
   clear hS HCR
   have hC5:=HC5.out
   rw [← HGR.out] at hC5
   by_cases hk0':k=0
   rotate_left
   ·have hne:((k:Int) == 0)=false:=by simp; omega
    have hnei:¬ ((k:Int)=0):=by omega
    have HD3:=Lib.hid (HD2.out.trans (if_neg hk0'))
    have HC6:=Lib.hid (show BnAt w p (wd.setCell ⟨gr,r,none⟩ (.int .u32 (O:Nat))) p3 g (dRoot1 hk0 k) br b5 b6 from by rw [HD3.out,← HGR.out]; exact hC5)
    clear hk0' HD2 HC5 hC5 HD3
    go_wp2_with fail
    go_roundw
    case rel=>exact⟨k+1,p3,by go_num,by omega,by rw [HW2.out]; exact HC6.out,by rw [HW2.out]⟩
    case measure=>simp [intOf]; omega
   subst hk0'
   have HD3:=Lib.hid (HD2.out.trans (if_pos rfl))
   have HC6:=Lib.hid (show BnAt w p (wd.setCell ⟨gr,r,none⟩ (.int .u32 (O:Nat))) p3 g (h3.setRootH (r:Nat) O) br b5 b6 from by rw [← HGR.out]; exact hC5)
   have hv6:(h3.setRootH (r:Nat) O).valB O=true:=(Kp.setRoot (h:=h3) (r:Nat) O).val HV3.out
   clear HD2 HC5 hC5
   go_upto_region 11 with fail
   generalize wd.setCell ⟨gr,r,none⟩ (.int .u32 (O:Int))=w5 at *
   have HC7:=Lib.hid (HC6.out.below (below_drew (Below.refl _ _)))
   clear HC6
   generalize h3.setRootH (r:Nat) O=h6 at *
   have HV6:=Lib.hid hv6
   have hS:w5.drew.cell? ⟨g,2,none⟩=some (.slice (some ⟨gr,0,none⟩) 64 p3.cr)∧True:=⟨by have:=HC7.out.rl.rootsP.1; rw [HGR.out] at this; exact this,trivial⟩
   have hst1:=HC7.out.rl.storeRoot 5 O (by omega) hO32 HV6.out
   have HQ1:=Lib.hid (show w5.drew.cell? ⟨gr,5,none⟩=some (.int .u32 ((h6.rt 5:Nat):Int))∧w5.drew.frozen? ⟨gr,5,none⟩=false from⟨by have:=HC7.out.rl.rootsP.2 5 (by omega); rw [HGR.out] at this; exact this,by have:=HC7.out.rl.frozenR 5; rw [HGR.out] at this; exact this⟩)
   have HQB:=Lib.hid (show w5.drew.cell? ⟨gr,7,none⟩=some (.int .u32 ((h6.rt 7:Nat):Int))∧w5.drew.frozen? ⟨gr,7,none⟩=false from⟨by have:=HC7.out.rl.rootsP.2 7 (by omega); rw [HGR.out] at this; exact this,by have:=HC7.out.rl.frozenR 7; rw [HGR.out] at this; exact this⟩)
   have HQC:=Lib.hid (show w5.drew.cell? ⟨gr,9,none⟩=some (.int .u32 ((h6.rt 9:Nat):Int))∧w5.drew.frozen? ⟨gr,9,none⟩=false from⟨by have:=HC7.out.rl.rootsP.2 9 (by omega); rw [HGR.out] at this; exact this,by have:=HC7.out.rl.frozenR 9; rw [HGR.out] at this; exact this⟩)
   have HC8:=Lib.hid (HC7.out.after hst1.1 hst1.2)
   have hst2:=HC8.out.rl.storeRoot 7 O (by omega) hO32 ((Kp.setRoot (h:=h6) (5:Nat) O).val HV6.out)
   have HQ2:=Lib.hid (HC8.out.rl.rootsP.2 7 (by omega))
   have HZ2:=Lib.hid (HC8.out.rl.frozenR 7)
   have HS2:=Lib.hid HC8.out.rl.rootsP.1
   have HC9:=Lib.hid (HC8.out.after hst2.1 hst2.2)
   have hst3:=HC9.out.rl.storeRoot 9 O (by omega) hO32 ((Kp.setRoot (h:=h6.setRootH (5:Nat) O) (7:Nat) O).val ((Kp.setRoot (h:=h6) (5:Nat) O).val HV6.out))
   have HQ3:=Lib.hid (HC9.out.rl.rootsP.2 9 (by omega))
   have HZ3:=Lib.hid (HC9.out.rl.frozenR 9)
   have HS3:=Lib.hid HC9.out.rl.rootsP.1
   have HCA:=Lib.hid (HC9.out.after hst3.1 hst3.2)
   clear hst1 hst2 hst3 HC7 HC8 HC9
   rw [HGR.out] at HQ2 HZ2 HS2 HQ3 HZ3 HS3 HCA
   clear hv6
   refine wp_region_U 20 (fun w'=>w'.cell? ⟨g,2,none⟩=some (.slice (some ⟨gr,0,none⟩) 64 p3.cr)∧True) (by kernel_rfl) ?_
   generalize w5.drew=we at *
   refine U_readC 0 [1,2,3,15,16,18,20] (v:=(.pointer (some ⟨g,0,none⟩))) rfl (by kernel_rfl) (fun _ _ _ h=>h) hS (by kernel_rfl) (fun w' hw'=>by obtain⟨h0,h1⟩:=hw'; go_simp) ?_
   try simp only [Act.put,List.setIfInBounds_toArray,List.set_cons_zero,List.set_cons_succ]
   refine U_readC 1 [2,3,15,16,18,20] (v:=(.pointer (some ⟨g,0,none⟩))) rfl (by kernel_rfl) (fun _ _ _ h=>h) hS (by kernel_rfl) (fun w' hw'=>by obtain⟨h0,h1⟩:=hw'; go_simp) ?_
   try simp only [Act.put,List.setIfInBounds_toArray,List.set_cons_zero,List.set_cons_succ]
   refine U_readC 2 [3,15,16,18,20] (v:=(.pointer (some ⟨g,2,none⟩))) rfl (by kernel_rfl) (fun _ _ _ h=>h) hS (by kernel_rfl) (fun w' hw'=>by obtain⟨h0,h1⟩:=hw'; go_simp) ?_
   try simp only [Act.put,List.setIfInBounds_toArray,List.set_cons_zero,List.set_cons_succ]
   refine U_readC 3 [15,16,18,20] (v:=(.slice (some ⟨gr,0,none⟩) 64 p3.cr)) rfl (by kernel_rfl) (fun _ _ _ h=>h) hS (by kernel_rfl) (fun w' hw'=>by obtain⟨h0,h1⟩:=hw'; go_simp) ?_
   try simp only [Act.put,List.setIfInBounds_toArray,List.set_cons_zero,List.set_cons_succ]
   refine U_readC 4 [5,6,7,17,18,20] (v:=(.pointer (some ⟨g,0,none⟩))) rfl (by kernel_rfl) (fun _ _ _ h=>h) hS (by kernel_rfl) (fun w' hw'=>by obtain⟨h0,h1⟩:=hw'; go_simp) ?_
   try simp only [Act.put,List.setIfInBounds_toArray,List.set_cons_zero,List.set_cons_succ]
   refine U_readC 5 [6,7,17,18,20] (v:=(.pointer (some ⟨g,0,none⟩))) rfl (by kernel_rfl) (fun _ _ _ h=>h) hS (by kernel_rfl) (fun w' hw'=>by obtain⟨h0,h1⟩:=hw'; go_simp) ?_
   try simp only [Act.put,List.setIfInBounds_toArray,List.set_cons_zero,List.set_cons_succ]
   refine U_readC 6 [7,17,18,20] (v:=(.pointer (some ⟨g,2,none⟩))) rfl (by kernel_rfl) (fun _ _ _ h=>h) hS (by kernel_rfl) (fun w' hw'=>by obtain⟨h0,h1⟩:=hw'; go_simp) ?_
   try simp only [Act.put,List.setIfInBounds_toArray,List.set_cons_zero,List.set_cons_succ]
   refine U_readC 7 [17,18,20] (v:=(.slice (some ⟨gr,0,none⟩) 64 p3.cr)) rfl (by kernel_rfl) (fun _ _ _ h=>h) hS (by kernel_rfl) (fun w' hw'=>by obtain⟨h0,h1⟩:=hw'; go_simp) ?_
   try simp only [Act.put,List.setIfInBounds_toArray,List.set_cons_zero,List.set_cons_succ]
   refine U_readC 8 [9,10,11,19,20] (v:=(.pointer (some ⟨g,0,none⟩))) rfl (by kernel_rfl) (fun _ _ _ h=>h) hS (by kernel_rfl) (fun w' hw'=>by obtain⟨h0,h1⟩:=hw'; go_simp) ?_
   try simp only [Act.put,List.setIfInBounds_toArray,List.set_cons_zero,List.set_cons_succ]
   refine U_readC 9 [10,11,19,20] (v:=(.pointer (some ⟨g,0,none⟩))) rfl (by kernel_rfl) (fun _ _ _ h=>h) hS (by kernel_rfl) (fun w' hw'=>by obtain⟨h0,h1⟩:=hw'; go_simp) ?_
   try simp only [Act.put,List.setIfInBounds_toArray,List.set_cons_zero,List.set_cons_succ]
   refine U_readC 10 [11,19,20] (v:=(.pointer (some ⟨g,2,none⟩))) rfl (by kernel_rfl) (fun _ _ _ h=>h) hS (by kernel_rfl) (fun w' hw'=>by obtain⟨h0,h1⟩:=hw'; go_simp) ?_
   try simp only [Act.put,List.setIfInBounds_toArray,List.set_cons_zero,List.set_cons_succ]
   refine U_readC 11 [19,20] (v:=(.slice (some ⟨gr,0,none⟩) 64 p3.cr)) rfl (by kernel_rfl) (fun _ _ _ h=>h) hS (by kernel_rfl) (fun w' hw'=>by obtain⟨h0,h1⟩:=hw'; go_simp) ?_
   try simp only [Act.put,List.setIfInBounds_toArray,List.set_cons_zero,List.set_cons_succ]
   refine U_readC 12 [16,18,20] (v:=(.int .u32 (O:Nat))) rfl (by kernel_rfl) (fun _ _ _ h=>h) hS (by kernel_rfl) (fun w' hw'=>by obtain⟨h0,h1⟩:=hw'; go_simp) ?_
   try simp only [Act.put,List.setIfInBounds_toArray,List.set_cons_zero,List.set_cons_succ]
   refine U_readC 13 [18,20] (v:=(.int .u32 (O:Nat))) rfl (by kernel_rfl) (fun _ _ _ h=>h) hS (by kernel_rfl) (fun w' hw'=>by obtain⟨h0,h1⟩:=hw'; go_simp) ?_
   try simp only [Act.put,List.setIfInBounds_toArray,List.set_cons_zero,List.set_cons_succ]
   refine U_readC 14 [20] (v:=(.int .u32 (O:Nat))) rfl (by kernel_rfl) (fun _ _ _ h=>h) hS (by kernel_rfl) (fun w' hw'=>by obtain⟨h0,h1⟩:=hw'; go_simp) ?_
   try simp only [Act.put,List.setIfInBounds_toArray,List.set_cons_zero,List.set_cons_succ]
   refine U_one 15 (by kernel_rfl) rfl rfl (fun K hK=>?_)
   go_simp
   refine hK _ _ (fun _=>hS) ?_
   clear hK K
   try simp only [Act.put,List.setIfInBounds_toArray,List.set_cons_zero,List.set_cons_succ]
   refine U_one 16 (by kernel_rfl) rfl rfl (fun K hK=>?_)
   go_simp
   have q1:=HQ1.out.1
   have z1:=HQ1.out.2
   go_simp
   clear q1 z1
   have hS6:=And.intro HS2.out True.intro
   refine hK _ _ (fun _=>hS6) ?_
   clear hK K
   try simp only [Act.put,List.setIfInBounds_toArray,List.set_cons_zero,List.set_cons_succ]
   clear hS
   have hS:=hS6
   refine U_one 17 (by kernel_rfl) rfl rfl (fun K hK=>?_)
   go_simp
   refine hK _ _ (fun _=>hS) ?_
   clear hK K
   try simp only [Act.put,List.setIfInBounds_toArray,List.set_cons_zero,List.set_cons_succ]
   refine U_one 18 (by kernel_rfl) rfl rfl (fun K hK=>?_)
   go_simp
   have q1:=HQB.out.1
   have z1:=HQB.out.2
   go_simp
   clear q1 z1
   have hS7:=And.intro HS3.out True.intro
   refine hK _ _ (fun _=>hS7) ?_
   clear hK K
   try simp only [Act.put,List.setIfInBounds_toArray,List.set_cons_zero,List.set_cons_succ]
   clear hS
   have hS:=hS7
   refine U_one 19 (by kernel_rfl) rfl rfl (fun K hK=>?_)
   go_simp
   refine hK _ _ (fun _=>hS) ?_
   clear hK K
   try simp only [Act.put,List.setIfInBounds_toArray,List.set_cons_zero,List.set_cons_succ]
   refine U_one 20 (by kernel_rfl) rfl rfl (fun K hK=>?_)
   go_simp
   have q1:=HQC.out.1
   have z1:=HQC.out.2
   go_simp
   clear q1 z1
   refine hK _ _ (fun h=>absurd h (by decide)) ?_
   clear hK K
   try simp only [Act.put,List.setIfInBounds_toArray,List.set_cons_zero,List.set_cons_succ]
   refine U_done (by kernel_rfl) ?_ _
   simp only [Calm,Exit.then]
   clear hS
   go_wp2_with fail
   go_roundw
   case rel=>exact⟨1,p3,by go_num,by omega,by rw [HW2.out,HD3.out]; exact HCA.out,by rw [HW2.out]⟩
   case measure=>simp [intOf]
  ·obtain rfl:k=7:=by omega
   have hd:decide ((7:Int)<7)=false:=by decide
   rw [show ((7:Nat):Int)=7 from rfl]
   obtain⟨h7,hkk⟩ :∃ x,x=(dRootN (h,0) 7).1:=⟨_,rfl⟩
   have hke:dRootN (h,0) 7=(h7,0):=Prod.ext hkk.symm h0
   rw [hke] at HBP HBF
   rw [← hkk] at C
   clear hkk hke h0 HBR
   have HS5:=Lib.hid (And.intro C.s5.lt C.s6.lt)
   have hws:=C.step.size
   go_upto_region 14 with fail
   have HC:=Lib.hid (C.below ((Below.refl _ _).alloc (Nat.le_refl _) (.map #[] 0)))
   have HM:=Lib.hid (MapO.made wr)
   have HMO:=Lib.hid (show ¬ p1.has wr.heap.size from fun q=>by have:=C.rl.at_.lt q; omega)
   have HMB:=Lib.hid (show w.heap.size≤wr.heap.size∧b5≠wr.heap.size∧b6≠wr.heap.size from⟨hws,by have:=HS5.out.1; omega,by have:=HS5.out.2; omega⟩)
   clear C HS5 hws hd hmm
   generalize wr.alloc (.map #[] 0)=w3 at *
   generalize wr.heap.size=bm at *
   go_loopw [11] (fun iv wr=>∃ (k:Nat) (p':HP) (f:Nat→Nat),iv = .int .i64 k∧k≤22∧BnAt w p wr p' g (dPairN (h7,0) k).1.1 br b5 b6∧(dPairN (h7,0) k).1.2=0∧MapO wr bm k f∧¬ p'.has bm∧(∀ j,j<k→f (10+j)=(dPairN (h7,0) k).2.getD j 0)∧(dPairN (h7,0) k).2.length=k∧∀ x∈(dPairN (h7,0) k).2,x<4294967296) (fun iv _=>22-(intOf iv).toNat)
   case atStart=>exact⟨0,p1,_,rfl,Nat.zero_le _,HC.out,rfl,HM.out,HMO.out,fun j hj=>absurd hj (by omega),rfl,fun x hx=>by cases hx⟩
   case round=>
    clear HC HM HMO
    obtain⟨k,p2,f,rfl,hk,C,h0,M,mo,hf,hml,hm32⟩:=hrel
    by_cases hkn:k<22
    ·have hd:decide ((k:Int)<22)=true:=by simp; omega
     have hki:(k:Int)<22:=by omega
     have HW:=Lib.hid (dPairN_succ (h7,0) k)
     have HBK:=Lib.hid (HBP.out (k+1) (by omega))
     generalize dPairN (h7,0) k=q0 at *
     obtain⟨⟨hq,e0⟩,ms⟩:=q0
     simp only at C h0 hf hml hm32
     subst h0
     have HD:=Lib.hid (show dPairB ((hq,0),ms) k=if pairE hq≠0 then ((hq,pairE hq),ms) else ((((hq.AllocH 0 1 6).AllocH 0 1 6).setRootH (10+k:Nat) (hq.AllocO 0 1 6),0),ms++[(hq.AllocH 0 1 6).AllocO 0 1 6]) from rfl)
     have HPR:=Lib.hid (dpair_any C.rl)
     have HPE:=Lib.hid (show pairE hq=if hq.AllocE 0 1 6≠0 then hq.AllocE 0 1 6 else (hq.AllocH 0 1 6).AllocE 0 1 6 from rfl)
     have hc32:=AllocO_lt C.rl.fit 0 1 6
     have hmm32:(hq.AllocH 0 1 6).AllocO 0 1 6<4294967296:=by
      obtain⟨l,G⟩:=C.rl.good
      obtain⟨l1,G1⟩:=G.AllocH 0 1 6 (by omega)
      exact AllocO_lt G1.fit 0 1 6
     have HVB:=Lib.hid (fun q=>pair_valB C.rl.good q)
     have HC:=Lib.hid C
     have HM:=Lib.hid M
     have HMO:=Lib.hid mo
     have HMS:=Lib.hid (And.intro hf (And.intro hml hm32))
     clear C M mo hf hml hm32
     go_wp2_with fail
     refine HPR.out.mono ?_
     rintro e w4 ⟨p4,h4,c,m,E,rfl,L4,s4,hE,hq4⟩
     rw [← HPE.out] at hE
     have HC4:=Lib.hid (HC.out.after L4 s4)
     have HM4:=Lib.hid (HM.out.same (s4.block bm HM.out.lt HMO.out))
     have HMO4:=Lib.hid (keep_out HM.out.lt HMO.out s4)
     have HQ4:=Lib.hid hq4
     have HEE:=Lib.hid hE
     clear L4 s4 hE hq4 HPR HC HM HMO HPE
     by_cases hE0:E=0
     rotate_left
     ·have hne:((E:Int) != 0)=true:=by simp; omega
      have hnei:¬ ((E:Int)=0):=by omega
      have he:dPairN (h7,0) (k+1)=((hq,E),ms):=by rw [HW.out,HD.out,if_pos (by rw [← HEE.out]; exact hE0),HEE.out]
      have HF:=Lib.hid (show (dBones (h,0)).2=E from by
       have:=HBK.out (by rw [he]; exact hE0)
       rw [this,he])
      have HE0:=Lib.hid hE0
      clear HW HD HBK HVB HQ4 he hE0 HEE HM4 HMO4 HMS
      go_wp2_with fail
      go_ret
      exact⟨p4,h4,by rw [HF.out]; rfl,HC4.out.rl,HC4.out.step,fun q=>absurd (HF.out.symm.trans q) HE0.out⟩
     obtain⟨hh4,hcc,hmm'⟩:=HQ4.out hE0
     have hpe:pairE hq=0:=by rw [← HEE.out]; exact hE0
     have HW2:=Lib.hid (show dPairN (h7,0) (k+1)=((h4.setRootH (10+k:Nat) c,0),ms++[m]) from by rw [HW.out,HD.out,if_neg (fun q=>q hpe),hh4,hcc,hmm'])
     have hvc:h4.valB c=true:=by rw [hh4,hcc]; exact HVB.out hpe
     rw [← hcc] at hc32
     rw [← hmm'] at hmm32
     have hST:=HC4.out.rl.storeRoot (10+k) c (by omega) hc32 hvc
     have c2:=HC4.out.rl.rootsP.1
     have crr:=HC4.out.rl.rootsP.2 (10+k) (by omega)
     have zr:=HC4.out.rl.frozenR (10+k)
     have HC5:=Lib.hid (HC4.out.after hST.1 hST.2)
     have HM5:=Lib.hid (HM4.out.same (hST.2.block bm HM4.out.lt HMO4.out))
     subst hE0
     have hwr:IntKind.i64.wrap (10+(k:Int))=10+(k:Int):=IntWalk.i64_in _ (by omega)
     clear HW HD HBK HVB HQ4 HEE hpe hvc hST HC4 HM4 hh4 hcc hmm'
     rw [show ((0:Nat):Int)=0 from rfl]
     go_upto_region 20 with fail
     generalize w4.setCell ⟨p4.gr,10+k,none⟩ (.int .u32 (c:Int))=w5 at *
     clear c2 crr zr
     obtain⟨w6,hput,HM6,hg6⟩:=HM5.out.put (x:=10+k) (v:=m) (by omega) hmm32 (by omega)
     rw [show ((10+k:Nat):Int)=10+(k:Int) by omega] at hput
     have HC6:=Lib.hid (HC5.out.grown HR.out hg6 HMO4.out HMB.out.1 HMB.out.2.1 HMB.out.2.2)
     have HMK:=Lib.hid HM6
     clear HC5 HM5 HM6 hg6
     go_wp2_with fail
     go_roundw
     case rel=>
      refine⟨k+1,p4,_,by go_num,by omega,by rw [HW2.out]; exact HC6.out,by rw [HW2.out],HMK.out,HMO4.out,?_,by rw [HW2.out,List.length_append,HMS.out.2.1]; rfl,?_⟩
      ·rw [HW2.out]
       intro j hj
       show (if 10+j=10+k then m else f (10+j))=(ms++[m]).getD j 0
       by_cases hjk:j=k
       ·subst hjk
        rw [if_pos rfl,List.getD_eq_getElem?_getD,List.getElem?_append_right (by rw [HMS.out.2.1]; exact Nat.le_refl _),HMS.out.2.1,Nat.sub_self]
        rfl
       ·rw [if_neg (by omega),HMS.out.1 j (by omega),List.getD_eq_getElem?_getD,List.getD_eq_getElem?_getD,List.getElem?_append_left (by rw [HMS.out.2.1]; omega)]
      ·rw [HW2.out]
       intro x hx
       rcases List.mem_append.1 hx with q | q
       ·exact HMS.out.2.2 x q
       ·rw [List.mem_singleton] at q; rw [q]; exact hmm32
     case measure=>simp [intOf]; omega
    ·obtain rfl:k=22:=by omega
     have hd:decide ((22:Int)<22)=false:=by decide
     rw [show ((22:Nat):Int)=22 from rfl]
     generalize dPairN (h7,0) 22=q0 at *
     obtain⟨⟨H,e0⟩,ms⟩:=q0
     simp only at C h0 hf hml hm32
     subst h0
     have HI:=Lib.hid (show dBones (h,0)=(dClsN (dWireN ms H 22) 7,0) from HBF.out.trans (if_neg (fun q=>q rfl)))
     have HMG:=Lib.hid (fun i=>show ms.getD i 0<4294967296 from by
      rw [List.getD_eq_getElem?_getD]
      cases hq:ms[i]? with
      | none=>simp
      | some x=>exact hm32 x (List.mem_of_getElem? hq))
     have HFF:=Lib.hid hf
     have HC:=Lib.hid C
     have HM:=Lib.hid (And.intro M mo)
     clear C M mo hf hml hm32 HBP HBF
     go_wp2_with fail
     generalize hw3:wr=w3 at HC HM
     clear hd
     go_loopw [15] (fun iv wr=>∃ (k:Nat) (p':HP),iv = .int .i64 k∧k≤22∧BnAt w p wr p' g (dWireN ms H k) br b5 b6∧MapO wr bm 22 f∧¬ p'.has bm) (fun iv _=>22-(intOf iv).toNat)
     case atStart=>exact⟨0,p2,rfl,Nat.zero_le _,HC.out,HM.out.1,HM.out.2⟩
     case round=>
      clear HC HM hw3
      obtain⟨k,p3,rfl,hk,C,M,mo⟩:=hrel
      by_cases hkn:k<22
      ·have hd:decide ((k:Int)<22)=true:=by simp; omega
       have hki:(k:Int)<22:=by omega
       have HW:=Lib.hid (dWireN_succ ms H k)
       generalize dWireN ms H k=h0 at *
       have HDK:=Lib.hid (show dWireK ms h0 k=dWire h0 (h0.rt (10+k)) (ms.getD k 0) (h0.rt 0) (if (kRow k).sup=0 then h0.rt 0 else h0.rt (kRow k).sup) (if (kRow k).sup=0 then h0.rt 11 else ms.getD ((kRow k).sup-10) 0) (fmtK (kRow k) k) from rfl)
       have HNX:=Lib.hid (show fmtK (kRow k) k=(kRow k).fmt+8*fixK (10+k) 30+(if (kRow k).idx then 65536 else 0) from rfl)
       have hfew:=kRow_few k hkn
       have HSP:=Lib.hid (kRow_sup k hkn)
       obtain⟨A,n,-,a1,a2,-,a4,-,-⟩:=(C.below (below_drew (Below.refl _ _))).rows.at_ k hkn
       have HM:=Lib.hid M
       have HMO:=Lib.hid mo
       have HC1:=Lib.hid (C.below (below_drew (Below.refl _ _)))
       have hr0:h0.rt 0<4294967296:=C.rl.fit.root 0
       have hr11:h0.rt 11<4294967296:=C.rl.fit.root 11
       have hrk:h0.rt (10+k)<4294967296:=C.rl.fit.root (10+k)
       have HRS:=Lib.hid (fun s=>show h0.rt s<4294967296 from C.rl.fit.root s)
       have hmk:=HMG.out k
       have HFK:=Lib.hid (HFF.out k hkn)
       clear C M mo
       obtain⟨fx,hfxE⟩ :∃ x,fixK (10+k) 30=x:=⟨_,rfl⟩
       have HFXE:=Lib.hid hfxE
       rw [hfxE] at hfew HNX
       clear hfxE
       generalize fmtK (kRow k) k=nx at *
       obtain⟨fm,hfmE⟩ :∃ x,(kRow k).fmt=x:=⟨_,rfl⟩
       obtain⟨ix,hixE⟩ :∃ x,(kRow k).idx=x:=⟨_,rfl⟩
       have HKF:=Lib.hid (And.intro hfmE hixE)
       rw [hfmE] at hfew HNX a2
       rw [hixE] at HNX a4
       clear hfmE hixE
       obtain⟨sp,hspE⟩ :∃ x,(kRow k).sup=x:=⟨_,rfl⟩
       rw [hspE] at HDK HSP a1
       clear hspE
       go_upto_region 24 with fail
       obtain⟨c2,cr0⟩:=HC1.out.rl.rootsP
       have e0:=cr0 0 (by omega)
       have e11:=cr0 11 (by omega)
       have HER:=Lib.hid cr0
       have HE2:=Lib.hid c2
       have HX:=Lib.hid (And.intro a1 (And.intro a2 a4))
       obtain⟨gr,hgr⟩ :∃ x,x=p3.gr:=⟨_,rfl⟩
       have HGR:=Lib.hid hgr.symm
       rw [← hgr] at c2 e0 e11 HER HE2
       obtain⟨n0,hn0⟩ :∃ x,x=h0.rt 0:=⟨_,rfl⟩
       obtain⟨n11,hn11⟩ :∃ x,x=h0.rt 11:=⟨_,rfl⟩
       obtain⟨c,hc⟩ :∃ x,x=h0.rt (10+k):=⟨_,rfl⟩
       obtain⟨mm,hmm⟩ :∃ x,x=ms.getD k 0:=⟨_,rfl⟩
       have HV:=Lib.hid (And.intro hn0 (And.intro hn11 (And.intro hc hmm)))
       rw [← hn0] at e0 hr0
       rw [← hn11] at e11 hr11
       rw [← hc] at hrk
       rw [← hmm] at hmk HFK
       clear cr0 a1 a2 a4 hgr hn0 hn11 hc hmm
       have hS:wr.drew.cell? ⟨g,2,none⟩=some (.slice (some ⟨gr,0,none⟩) 64 p3.cr)∧wr.drew.cell? ⟨gr,0,none⟩=some (.int .u32 (n0:Nat))∧wr.drew.cell? ⟨gr,11,none⟩=some (.int .u32 (n11:Nat)):=⟨c2,e0,e11⟩
       clear c2 e0 e11
       refine wp_region_U 13 (fun w'=>w'.cell? ⟨g,2,none⟩=some (.slice (some ⟨gr,0,none⟩) 64 p3.cr)∧w'.cell? ⟨gr,0,none⟩=some (.int .u32 (n0:Nat))∧w'.cell? ⟨gr,11,none⟩=some (.int .u32 (n11:Nat))) (by kernel_rfl) ?_
       refine U_readC 0 [1,2,3,4,5,12,13] (v:=(.pointer (some ⟨g,0,none⟩))) rfl (by kernel_rfl) (fun _ _ _ h=>h) hS (by kernel_rfl) (fun w' hw'=>by obtain⟨h0,h1,h2⟩:=hw'; go_simp) ?_
       try simp only [Act.put,List.setIfInBounds_toArray,List.set_cons_zero,List.set_cons_succ]
       refine U_readC 1 [2,3,4,5,12,13] (v:=(.pointer (some ⟨g,0,none⟩))) rfl (by kernel_rfl) (fun _ _ _ h=>h) hS (by kernel_rfl) (fun w' hw'=>by obtain⟨h0,h1,h2⟩:=hw'; go_simp) ?_
       try simp only [Act.put,List.setIfInBounds_toArray,List.set_cons_zero,List.set_cons_succ]
       refine U_readC 2 [3,4,5,12,13] (v:=(.pointer (some ⟨g,2,none⟩))) rfl (by kernel_rfl) (fun _ _ _ h=>h) hS (by kernel_rfl) (fun w' hw'=>by obtain⟨h0,h1,h2⟩:=hw'; go_simp) ?_
       try simp only [Act.put,List.setIfInBounds_toArray,List.set_cons_zero,List.set_cons_succ]
       refine U_readC 3 [4,5,12,13] (v:=(.slice (some ⟨gr,0,none⟩) 64 p3.cr)) rfl (by kernel_rfl) (fun _ _ _ h=>h) hS (by kernel_rfl) (fun w' hw'=>by obtain⟨h0,h1,h2⟩:=hw'; go_simp) ?_
       try simp only [Act.put,List.setIfInBounds_toArray,List.set_cons_zero,List.set_cons_succ]
       refine U_readC 4 [5,12,13] (v:=(.pointer (some ⟨gr,0,none⟩))) rfl (by kernel_rfl) (fun _ _ _ h=>h) hS (by kernel_rfl) (fun w' hw'=>by obtain⟨h0,h1,h2⟩:=hw'; go_simp) ?_
       try simp only [Act.put,List.setIfInBounds_toArray,List.set_cons_zero,List.set_cons_succ]
       refine U_readC 5 [12,13] (v:=(.int .u32 (n0:Nat))) rfl (by kernel_rfl) (fun _ _ _ h=>h) hS (by kernel_rfl) (fun w' hw'=>by obtain⟨h0,h1,h2⟩:=hw'; go_simp) ?_
       try simp only [Act.put,List.setIfInBounds_toArray,List.set_cons_zero,List.set_cons_succ]
       refine U_readC 6 [7,8,9,10,11,13] (v:=(.pointer (some ⟨g,0,none⟩))) rfl (by kernel_rfl) (fun _ _ _ h=>h) hS (by kernel_rfl) (fun w' hw'=>by obtain⟨h0,h1,h2⟩:=hw'; go_simp) ?_
       try simp only [Act.put,List.setIfInBounds_toArray,List.set_cons_zero,List.set_cons_succ]
       refine U_readC 7 [8,9,10,11,13] (v:=(.pointer (some ⟨g,0,none⟩))) rfl (by kernel_rfl) (fun _ _ _ h=>h) hS (by kernel_rfl) (fun w' hw'=>by obtain⟨h0,h1,h2⟩:=hw'; go_simp) ?_
       try simp only [Act.put,List.setIfInBounds_toArray,List.set_cons_zero,List.set_cons_succ]
       refine U_readC 8 [9,10,11,13] (v:=(.pointer (some ⟨g,2,none⟩))) rfl (by kernel_rfl) (fun _ _ _ h=>h) hS (by kernel_rfl) (fun w' hw'=>by obtain⟨h0,h1,h2⟩:=hw'; go_simp) ?_
       try simp only [Act.put,List.setIfInBounds_toArray,List.set_cons_zero,List.set_cons_succ]
       refine U_readC 9 [10,11,13] (v:=(.slice (some ⟨gr,0,none⟩) 64 p3.cr)) rfl (by kernel_rfl) (fun _ _ _ h=>h) hS (by kernel_rfl) (fun w' hw'=>by obtain⟨h0,h1,h2⟩:=hw'; go_simp) ?_
       try simp only [Act.put,List.setIfInBounds_toArray,List.set_cons_zero,List.set_cons_succ]
       refine U_readC 10 [11,13] (v:=(.pointer (some ⟨gr,11,none⟩))) rfl (by kernel_rfl) (fun _ _ _ h=>h) hS (by kernel_rfl) (fun w' hw'=>by obtain⟨h0,h1,h2⟩:=hw'; go_simp) ?_
       try simp only [Act.put,List.setIfInBounds_toArray,List.set_cons_zero,List.set_cons_succ]
       refine U_readC 11 [13] (v:=(.int .u32 (n11:Nat))) rfl (by kernel_rfl) (fun _ _ _ h=>h) hS (by kernel_rfl) (fun w' hw'=>by obtain⟨h0,h1,h2⟩:=hw'; go_simp) ?_
       try simp only [Act.put,List.setIfInBounds_toArray,List.set_cons_zero,List.set_cons_succ]
       refine U_one 12 (by kernel_rfl) rfl rfl (fun K hK=>?_)
       go_simp
       refine hK _ _ (fun _=>hS) ?_
       clear hK K
       try simp only [Act.put,List.setIfInBounds_toArray,List.set_cons_zero,List.set_cons_succ]
       refine U_one 13 (by kernel_rfl) rfl rfl (fun K hK=>?_)
       go_simp
       refine hK _ _ (fun h=>absurd h (by decide)) ?_
       clear hK K
       try simp only [Act.put,List.setIfInBounds_toArray,List.set_cons_zero,List.set_cons_succ]
       refine U_done (by kernel_rfl) ?_ _
       simp only [Calm,Exit.then]
       clear hS
       have hb1:=HX.out.1
       by_cases hs:sp=0
       ·have HSZ:=Lib.hid hs
        have hb1':wr.drew.cell? ⟨br,k*5+1,none⟩=some (.int .i64 0):=by rw [hb1,hs]; rfl
        clear hs hb1 HSP HX HER HE2
        go_upto_region 27 with fail
        have HCZ:=Lib.hid (HC1.out.below (below_drew (Below.refl _ _)))
        have HMZ:=Lib.hid ((HM.out.below (below_drew (Below.refl _ _))).below (below_drew (Below.refl _ _)))
        obtain⟨c2,cr0⟩:=HCZ.out.rl.rootsP
        rw [HGR.out] at c2 cr0
        have e0:=cr0 0 (by omega)
        have ek:=cr0 (10+k) (by omega)
        rw [← HV.out.1] at e0
        rw [← HV.out.2.2.1] at ek
        obtain⟨A',n',-,-,b2,-,b4,-,-⟩:=HCZ.out.rows.at_ k hkn
        rw [HKF.out.1] at b2
        rw [HKF.out.2] at b4
        have hlk:=HMZ.out.look (x:=10+k) (by omega)
        rw [HFK.out,show ((10+k:Nat):Int)=10+(k:Int) by omega] at hlk
        have HFX:=Lib.hid (dfixed_any HCZ.out.rows k hkn)
        rw [HFXE.out,show ((10+k:Nat):Int)=10+(k:Int) by omega] at HFX
        have HNM:=Lib.hid (fun w'=>dnumber_any fm fx ix hfew.2.2 (by have:=hfew.2.1; omega) w')
        rw [show fm+8*fx+(if ix=true then 65536 else 0)=nx from HNX.out.symm] at HNM
        have hnx:nx≤100000:=by rw [HNX.out]; have:=hfew.2.1; have:=hfew.2.2; split <;> omega
        have HWI:=Lib.hid (dwire_any HCZ.out.rl c mm n0 n0 n11 nx hrk hmk hr0 hr0 hr11 hnx)
        have hS:wr.drew.drew.cell? ⟨g,2,none⟩=some (.slice (some ⟨gr,0,none⟩) 64 p3.cr)∧wr.drew.drew.cell? ⟨gr,10+k,none⟩=some (.int .u32 (c:Nat))∧wr.drew.drew.cell? ⟨gr,0,none⟩=some (.int .u32 (n0:Nat))∧wr.drew.drew.cell? ⟨br,k*5+2,none⟩=some (.int .i64 (fm:Nat))∧wr.drew.drew.cell? ⟨br,k*5+4,none⟩=some (.bool ix)∧(Instr.lookup 96 (.map (some bm)) (.int .i64 (10+(k:Int))) false).run Tryz.prog wr.drew.drew = .ok (.int .u32 (mm:Nat)) wr.drew.drew:=⟨c2,ek,e0,b2,b4,hlk⟩
        clear c2 cr0 e0 ek b2 b4 hlk
        refine wp_region_U 36 (fun w'=>w'.cell? ⟨g,2,none⟩=some (.slice (some ⟨gr,0,none⟩) 64 p3.cr)∧w'.cell? ⟨gr,10+k,none⟩=some (.int .u32 (c:Nat))∧w'.cell? ⟨gr,0,none⟩=some (.int .u32 (n0:Nat))∧w'.cell? ⟨br,k*5+2,none⟩=some (.int .i64 (fm:Nat))∧w'.cell? ⟨br,k*5+4,none⟩=some (.bool ix)∧(Instr.lookup 96 (.map (some bm)) (.int .i64 (10+(k:Int))) false).run Tryz.prog w' = .ok (.int .u32 (mm:Nat)) w') (by kernel_rfl) ?_
        refine U_readC 0 [36] (v:=(.pointer (some ⟨g,0,none⟩))) rfl (by kernel_rfl) (fun _ _ _ h=>h) hS (by kernel_rfl) (fun w' hw'=>by obtain⟨h0,h1,h2,h3,h4,h5⟩:=hw'; go_simp) ?_
        try simp only [Act.put,List.setIfInBounds_toArray,List.set_cons_zero,List.set_cons_succ]
        refine U_readC 1 [2,3,4,7,8,36] (v:=(.pointer (some ⟨g,0,none⟩))) rfl (by kernel_rfl) (fun _ _ _ h=>h) hS (by kernel_rfl) (fun w' hw'=>by obtain⟨h0,h1,h2,h3,h4,h5⟩:=hw'; go_simp) ?_
        try simp only [Act.put,List.setIfInBounds_toArray,List.set_cons_zero,List.set_cons_succ]
        refine U_readC 2 [3,4,7,8,36] (v:=(.pointer (some ⟨g,0,none⟩))) rfl (by kernel_rfl) (fun _ _ _ h=>h) hS (by kernel_rfl) (fun w' hw'=>by obtain⟨h0,h1,h2,h3,h4,h5⟩:=hw'; go_simp) ?_
        try simp only [Act.put,List.setIfInBounds_toArray,List.set_cons_zero,List.set_cons_succ]
        refine U_readC 3 [4,7,8,36] (v:=(.pointer (some ⟨g,2,none⟩))) rfl (by kernel_rfl) (fun _ _ _ h=>h) hS (by kernel_rfl) (fun w' hw'=>by obtain⟨h0,h1,h2,h3,h4,h5⟩:=hw'; go_simp) ?_
        try simp only [Act.put,List.setIfInBounds_toArray,List.set_cons_zero,List.set_cons_succ]
        refine U_readC 4 [7,8,36] (v:=(.slice (some ⟨gr,0,none⟩) 64 p3.cr)) rfl (by kernel_rfl) (fun _ _ _ h=>h) hS (by kernel_rfl) (fun w' hw'=>by obtain⟨h0,h1,h2,h3,h4,h5⟩:=hw'; go_simp) ?_
        try simp only [Act.put,List.setIfInBounds_toArray,List.set_cons_zero,List.set_cons_succ]
        refine U_readC 5 [6,7,8,36] (v:=(.int .i64 k)) rfl (by kernel_rfl) (fun _ _ _ h=>h) hS (by kernel_rfl) (fun w' hw'=>by obtain⟨h0,h1,h2,h3,h4,h5⟩:=hw'; go_simp) ?_
        try simp only [Act.put,List.setIfInBounds_toArray,List.set_cons_zero,List.set_cons_succ]
        refine U_readC 6 [7,8,36] (v:=(.int .i64 (10+k))) rfl (by kernel_rfl) (fun _ _ _ h=>h) hS (by kernel_rfl) (fun w' hw'=>by obtain⟨h0,h1,h2,h3,h4,h5⟩:=hw'; go_simp; exact IntWalk.i64_in _ (by omega)) ?_
        try simp only [Act.put,List.setIfInBounds_toArray,List.set_cons_zero,List.set_cons_succ]
        refine U_readC 7 [8,36] (v:=(.pointer (some ⟨gr,10+k,none⟩))) rfl (by kernel_rfl) (fun _ _ _ h=>h) hS (by kernel_rfl) (fun w' hw'=>by obtain⟨h0,h1,h2,h3,h4,h5⟩:=hw'; go_simp; rw [if_pos ⟨by omega,by omega⟩,show (10+(k:Int)).toNat=10+k by omega]) ?_
        try simp only [Act.put,List.setIfInBounds_toArray,List.set_cons_zero,List.set_cons_succ]
        refine U_readC 8 [36] (v:=(.int .u32 (c:Nat))) rfl (by kernel_rfl) (fun _ _ _ h=>h) hS (by kernel_rfl) (fun w' hw'=>by obtain⟨h0,h1,h2,h3,h4,h5⟩:=hw'; go_simp) ?_
        try simp only [Act.put,List.setIfInBounds_toArray,List.set_cons_zero,List.set_cons_succ]
        refine U_readC 9 [12,36] (v:=(.map (some bm))) rfl (by kernel_rfl) (fun _ _ _ h=>h) hS (by kernel_rfl) (fun w' hw'=>by obtain⟨h0,h1,h2,h3,h4,h5⟩:=hw'; go_simp) ?_
        try simp only [Act.put,List.setIfInBounds_toArray,List.set_cons_zero,List.set_cons_succ]
        refine U_readC 10 [11,12,36] (v:=(.int .i64 k)) rfl (by kernel_rfl) (fun _ _ _ h=>h) hS (by kernel_rfl) (fun w' hw'=>by obtain⟨h0,h1,h2,h3,h4,h5⟩:=hw'; go_simp) ?_
        try simp only [Act.put,List.setIfInBounds_toArray,List.set_cons_zero,List.set_cons_succ]
        refine U_readC 11 [12,36] (v:=(.int .i64 (10+k))) rfl (by kernel_rfl) (fun _ _ _ h=>h) hS (by kernel_rfl) (fun w' hw'=>by obtain⟨h0,h1,h2,h3,h4,h5⟩:=hw'; go_simp; exact IntWalk.i64_in _ (by omega)) ?_
        try simp only [Act.put,List.setIfInBounds_toArray,List.set_cons_zero,List.set_cons_succ]
        refine U_readC 12 [36] (v:=(.int .u32 (mm:Nat))) rfl (by kernel_rfl) (fun _ _ _ h=>h) hS (by kernel_rfl) (fun w' hw'=>by obtain⟨h0,h1,h2,h3,h4,h5⟩:=hw'; go_simp) ?_
        try simp only [Act.put,List.setIfInBounds_toArray,List.set_cons_zero,List.set_cons_succ]
        refine U_readC 13 [14,15,16,17,18,36] (v:=(.pointer (some ⟨g,0,none⟩))) rfl (by kernel_rfl) (fun _ _ _ h=>h) hS (by kernel_rfl) (fun w' hw'=>by obtain⟨h0,h1,h2,h3,h4,h5⟩:=hw'; go_simp) ?_
        try simp only [Act.put,List.setIfInBounds_toArray,List.set_cons_zero,List.set_cons_succ]
        refine U_readC 14 [15,16,17,18,36] (v:=(.pointer (some ⟨g,0,none⟩))) rfl (by kernel_rfl) (fun _ _ _ h=>h) hS (by kernel_rfl) (fun w' hw'=>by obtain⟨h0,h1,h2,h3,h4,h5⟩:=hw'; go_simp) ?_
        try simp only [Act.put,List.setIfInBounds_toArray,List.set_cons_zero,List.set_cons_succ]
        refine U_readC 15 [16,17,18,36] (v:=(.pointer (some ⟨g,2,none⟩))) rfl (by kernel_rfl) (fun _ _ _ h=>h) hS (by kernel_rfl) (fun w' hw'=>by obtain⟨h0,h1,h2,h3,h4,h5⟩:=hw'; go_simp) ?_
        try simp only [Act.put,List.setIfInBounds_toArray,List.set_cons_zero,List.set_cons_succ]
        refine U_readC 16 [17,18,36] (v:=(.slice (some ⟨gr,0,none⟩) 64 p3.cr)) rfl (by kernel_rfl) (fun _ _ _ h=>h) hS (by kernel_rfl) (fun w' hw'=>by obtain⟨h0,h1,h2,h3,h4,h5⟩:=hw'; go_simp) ?_
        try simp only [Act.put,List.setIfInBounds_toArray,List.set_cons_zero,List.set_cons_succ]
        refine U_readC 17 [18,36] (v:=(.pointer (some ⟨gr,0,none⟩))) rfl (by kernel_rfl) (fun _ _ _ h=>h) hS (by kernel_rfl) (fun w' hw'=>by obtain⟨h0,h1,h2,h3,h4,h5⟩:=hw'; go_simp) ?_
        try simp only [Act.put,List.setIfInBounds_toArray,List.set_cons_zero,List.set_cons_succ]
        refine U_readC 18 [36] (v:=(.int .u32 (n0:Nat))) rfl (by kernel_rfl) (fun _ _ _ h=>h) hS (by kernel_rfl) (fun w' hw'=>by obtain⟨h0,h1,h2,h3,h4,h5⟩:=hw'; go_simp) ?_
        try simp only [Act.put,List.setIfInBounds_toArray,List.set_cons_zero,List.set_cons_succ]
        refine U_readC 19 [36] (v:=(.int .u32 (n0:Nat))) rfl (by kernel_rfl) (fun _ _ _ h=>h) hS (by kernel_rfl) (fun w' hw'=>by obtain⟨h0,h1,h2,h3,h4,h5⟩:=hw'; go_simp) ?_
        try simp only [Act.put,List.setIfInBounds_toArray,List.set_cons_zero,List.set_cons_succ]
        refine U_readC 20 [36] (v:=(.int .u32 (n11:Nat))) rfl (by kernel_rfl) (fun _ _ _ h=>h) hS (by kernel_rfl) (fun w' hw'=>by obtain⟨h0,h1,h2,h3,h4,h5⟩:=hw'; go_simp) ?_
        try simp only [Act.put,List.setIfInBounds_toArray,List.set_cons_zero,List.set_cons_succ]
        refine U_readC 21 [23,24,25,35,36] (v:=(.slice (some ⟨br,0,none⟩) 22 22)) rfl (by kernel_rfl) (fun _ _ _ h=>h) hS (by kernel_rfl) (fun w' hw'=>by obtain⟨h0,h1,h2,h3,h4,h5⟩:=hw'; go_simp) ?_
        try simp only [Act.put,List.setIfInBounds_toArray,List.set_cons_zero,List.set_cons_succ]
        refine U_readC 22 [23,24,25,35,36] (v:=(.int .i64 k)) rfl (by kernel_rfl) (fun _ _ _ h=>h) hS (by kernel_rfl) (fun w' hw'=>by obtain⟨h0,h1,h2,h3,h4,h5⟩:=hw'; go_simp) ?_
        try simp only [Act.put,List.setIfInBounds_toArray,List.set_cons_zero,List.set_cons_succ]
        refine U_readC 23 [24,25,35,36] (v:=(.pointer (some ⟨br,k*5,none⟩))) rfl (by kernel_rfl) (fun _ _ _ h=>h) hS (by kernel_rfl) (fun w' hw'=>by obtain⟨h0,h1,h2,h3,h4,h5⟩:=hw'; go_simp) ?_
        try simp only [Act.put,List.setIfInBounds_toArray,List.set_cons_zero,List.set_cons_succ]
        refine U_readC 24 [25,35,36] (v:=(.pointer (some ⟨br,k*5+2,none⟩))) rfl (by kernel_rfl) (fun _ _ _ h=>h) hS (by kernel_rfl) (fun w' hw'=>by obtain⟨h0,h1,h2,h3,h4,h5⟩:=hw'; go_simp) ?_
        try simp only [Act.put,List.setIfInBounds_toArray,List.set_cons_zero,List.set_cons_succ]
        refine U_readC 25 [35,36] (v:=(.int .i64 (fm:Nat))) rfl (by kernel_rfl) (fun _ _ _ h=>h) hS (by kernel_rfl) (fun w' hw'=>by obtain⟨h0,h1,h2,h3,h4,h5⟩:=hw'; go_simp) ?_
        try simp only [Act.put,List.setIfInBounds_toArray,List.set_cons_zero,List.set_cons_succ]
        refine U_readC 26 [29,35,36] (v:=(.slice (some ⟨br,0,none⟩) 22 22)) rfl (by kernel_rfl) (fun _ _ _ h=>h) hS (by kernel_rfl) (fun w' hw'=>by obtain⟨h0,h1,h2,h3,h4,h5⟩:=hw'; go_simp) ?_
        try simp only [Act.put,List.setIfInBounds_toArray,List.set_cons_zero,List.set_cons_succ]
        refine U_readC 27 [28,29,35,36] (v:=(.int .i64 k)) rfl (by kernel_rfl) (fun _ _ _ h=>h) hS (by kernel_rfl) (fun w' hw'=>by obtain⟨h0,h1,h2,h3,h4,h5⟩:=hw'; go_simp) ?_
        try simp only [Act.put,List.setIfInBounds_toArray,List.set_cons_zero,List.set_cons_succ]
        refine U_readC 28 [29,35,36] (v:=(.int .i64 (10+k))) rfl (by kernel_rfl) (fun _ _ _ h=>h) hS (by kernel_rfl) (fun w' hw'=>by obtain⟨h0,h1,h2,h3,h4,h5⟩:=hw'; go_simp; exact IntWalk.i64_in _ (by omega)) ?_
        try simp only [Act.put,List.setIfInBounds_toArray,List.set_cons_zero,List.set_cons_succ]
        refine U_readC 30 [32,33,34,35,36] (v:=(.slice (some ⟨br,0,none⟩) 22 22)) rfl (by kernel_rfl) (fun _ _ _ h=>h) hS (by kernel_rfl) (fun w' hw'=>by obtain⟨h0,h1,h2,h3,h4,h5⟩:=hw'; go_simp) ?_
        try simp only [Act.put,List.setIfInBounds_toArray,List.set_cons_zero,List.set_cons_succ]
        refine U_readC 31 [32,33,34,35,36] (v:=(.int .i64 k)) rfl (by kernel_rfl) (fun _ _ _ h=>h) hS (by kernel_rfl) (fun w' hw'=>by obtain⟨h0,h1,h2,h3,h4,h5⟩:=hw'; go_simp) ?_
        try simp only [Act.put,List.setIfInBounds_toArray,List.set_cons_zero,List.set_cons_succ]
        refine U_readC 32 [33,34,35,36] (v:=(.pointer (some ⟨br,k*5,none⟩))) rfl (by kernel_rfl) (fun _ _ _ h=>h) hS (by kernel_rfl) (fun w' hw'=>by obtain⟨h0,h1,h2,h3,h4,h5⟩:=hw'; go_simp) ?_
        try simp only [Act.put,List.setIfInBounds_toArray,List.set_cons_zero,List.set_cons_succ]
        refine U_readC 33 [34,35,36] (v:=(.pointer (some ⟨br,k*5+4,none⟩))) rfl (by kernel_rfl) (fun _ _ _ h=>h) hS (by kernel_rfl) (fun w' hw'=>by obtain⟨h0,h1,h2,h3,h4,h5⟩:=hw'; go_simp) ?_
        try simp only [Act.put,List.setIfInBounds_toArray,List.set_cons_zero,List.set_cons_succ]
        refine U_readC 34 [35,36] (v:=(.bool ix)) rfl (by kernel_rfl) (fun _ _ _ h=>h) hS (by kernel_rfl) (fun w' hw'=>by obtain⟨h0,h1,h2,h3,h4,h5⟩:=hw'; go_simp) ?_
        try simp only [Act.put,List.setIfInBounds_toArray,List.set_cons_zero,List.set_cons_succ]
        refine U_one 29 (by kernel_rfl) rfl rfl (fun K hK=>?_)
        go_simp
        refine HFX.out.mono ?_
        rintro e wf ⟨rfl,rfl⟩
        refine hK _ _ (fun _=>hS) ?_
        clear hK K
        try simp only [Act.put,List.setIfInBounds_toArray,List.set_cons_zero,List.set_cons_succ]
        refine U_one 35 (by kernel_rfl) rfl rfl (fun K hK=>?_)
        go_simp
        refine (HNM.out _).mono ?_
        rintro e wf ⟨rfl,rfl⟩
        refine hK _ _ (fun _=>hS) ?_
        clear hK K
        try simp only [Act.put,List.setIfInBounds_toArray,List.set_cons_zero,List.set_cons_succ]
        refine U_one 36 (by kernel_rfl) rfl rfl (fun K hK=>?_)
        go_simp
        refine HWI.out.mono ?_
        rintro e w9 ⟨p9,rfl,L9,s9⟩
        have HC9:=Lib.hid (HCZ.out.after L9 s9)
        have HM9:=Lib.hid (HMZ.out.same (s9.block bm HMZ.out.lt HMO.out))
        have HMO9:=Lib.hid (keep_out HMZ.out.lt HMO.out s9)
        clear L9 s9 HWI HCZ HMZ HFX HNM
        refine hK _ _ (fun h=>absurd h (by decide)) ?_
        clear hK K
        try simp only [Act.put,List.setIfInBounds_toArray,List.set_cons_zero,List.set_cons_succ]
        refine U_done (by kernel_rfl) ?_ _
        simp only [Calm,Exit.then]
        clear hS
        go_wp2_with fail
        go_roundw
        case rel=>
         refine⟨k+1,p9,by go_num,by omega,?_,HM9.out,HMO9.out⟩
         have h1:=HC9.out
         have he:dWireN ms H (k+1)=dWire h0 c mm n0 n0 n11 nx:=by
          rw [HW.out,HDK.out,if_pos HSZ.out,if_pos HSZ.out,← HV.out.1,← HV.out.2.2.1,← HV.out.2.2.2,← HV.out.2.1]
         rw [he]
         exact h1
        case measure=>simp [intOf]; omega
       ·have hsz:=HSP.out.resolve_left hs
        have hne:((sp:Int) != 0)=true:=by simp; omega
        have hnei:¬ ((sp:Int)=0):=by omega
        have HSZ:=Lib.hid hs
        have hs10:10≤sp:=hsz.1
        have hs32:sp<32:=hsz.2.1
        have hsi:(sp:Int)<64:=by omega
        clear hs hsz
        go_upto_region 26 with fail
        have HC2:=Lib.hid (HC1.out.below (below_drew (Below.refl _ _)))
        have HM2:=Lib.hid ((HM.out.below (below_drew (Below.refl _ _))).below (below_drew (Below.refl _ _)))
        have hrs:=HRS.out sp
        have hms:=HMG.out (sp-10)
        have hlk:=HM2.out.look (x:=sp) (by omega)
        have hfs:=HFF.out (sp-10) (by omega)
        rw [show 10+(sp-10)=sp by omega] at hfs
        rw [hfs] at hlk
        have es:=HER.out sp (by omega)
        obtain⟨rs,hrsE⟩ :∃ x,x=h0.rt sp:=⟨_,rfl⟩
        obtain⟨m2,hm2E⟩ :∃ x,x=ms.getD (sp-10) 0:=⟨_,rfl⟩
        have HV2:=Lib.hid (And.intro hrsE hm2E)
        rw [← hrsE] at es hrs
        rw [← hm2E] at hlk hms
        have hS:wr.drew.drew.cell? ⟨g,2,none⟩=some (.slice (some ⟨gr,0,none⟩) 64 p3.cr)∧wr.drew.drew.cell? ⟨gr,sp,none⟩=some (.int .u32 (rs:Nat))∧wr.drew.drew.cell? ⟨br,k*5+1,none⟩=some (.int .i64 (sp:Nat))∧(Instr.lookup 96 (.map (some bm)) (.int .i64 (sp:Int)) false).run Tryz.prog wr.drew.drew = .ok (.int .u32 (m2:Nat)) wr.drew.drew:=⟨HE2.out,es,HX.out.1,hlk⟩
        clear hb1 HSP HX HER HE2 hlk hfs es hrsE hm2E HC1
        refine wp_region_U 19 (fun w'=>w'.cell? ⟨g,2,none⟩=some (.slice (some ⟨gr,0,none⟩) 64 p3.cr)∧w'.cell? ⟨gr,sp,none⟩=some (.int .u32 (rs:Nat))∧w'.cell? ⟨br,k*5+1,none⟩=some (.int .i64 (sp:Nat))∧(Instr.lookup 96 (.map (some bm)) (.int .i64 (sp:Int)) false).run Tryz.prog w' = .ok (.int .u32 (m2:Nat)) w') (by kernel_rfl) ?_
        refine U_readC 0 [1,2,3,9,10,18,19] (v:=(.pointer (some ⟨g,0,none⟩))) rfl (by kernel_rfl) (fun _ _ _ h=>h) hS (by kernel_rfl) (fun w' hw'=>by obtain⟨h0,h1,h2,h3⟩:=hw'; go_simp) ?_
        try simp only [Act.put,List.setIfInBounds_toArray,List.set_cons_zero,List.set_cons_succ]
        refine U_readC 1 [2,3,9,10,18,19] (v:=(.pointer (some ⟨g,0,none⟩))) rfl (by kernel_rfl) (fun _ _ _ h=>h) hS (by kernel_rfl) (fun w' hw'=>by obtain⟨h0,h1,h2,h3⟩:=hw'; go_simp) ?_
        try simp only [Act.put,List.setIfInBounds_toArray,List.set_cons_zero,List.set_cons_succ]
        refine U_readC 2 [3,9,10,18,19] (v:=(.pointer (some ⟨g,2,none⟩))) rfl (by kernel_rfl) (fun _ _ _ h=>h) hS (by kernel_rfl) (fun w' hw'=>by obtain⟨h0,h1,h2,h3⟩:=hw'; go_simp) ?_
        try simp only [Act.put,List.setIfInBounds_toArray,List.set_cons_zero,List.set_cons_succ]
        refine U_readC 3 [9,10,18,19] (v:=(.slice (some ⟨gr,0,none⟩) 64 p3.cr)) rfl (by kernel_rfl) (fun _ _ _ h=>h) hS (by kernel_rfl) (fun w' hw'=>by obtain⟨h0,h1,h2,h3⟩:=hw'; go_simp) ?_
        try simp only [Act.put,List.setIfInBounds_toArray,List.set_cons_zero,List.set_cons_succ]
        refine U_readC 4 [6,7,8,9,10,18,19] (v:=(.slice (some ⟨br,0,none⟩) 22 22)) rfl (by kernel_rfl) (fun _ _ _ h=>h) hS (by kernel_rfl) (fun w' hw'=>by obtain⟨h0,h1,h2,h3⟩:=hw'; go_simp) ?_
        try simp only [Act.put,List.setIfInBounds_toArray,List.set_cons_zero,List.set_cons_succ]
        refine U_readC 5 [6,7,8,9,10,18,19] (v:=(.int .i64 k)) rfl (by kernel_rfl) (fun _ _ _ h=>h) hS (by kernel_rfl) (fun w' hw'=>by obtain⟨h0,h1,h2,h3⟩:=hw'; go_simp) ?_
        try simp only [Act.put,List.setIfInBounds_toArray,List.set_cons_zero,List.set_cons_succ]
        refine U_readC 6 [7,8,9,10,18,19] (v:=(.pointer (some ⟨br,k*5,none⟩))) rfl (by kernel_rfl) (fun _ _ _ h=>h) hS (by kernel_rfl) (fun w' hw'=>by obtain⟨h0,h1,h2,h3⟩:=hw'; go_simp) ?_
        try simp only [Act.put,List.setIfInBounds_toArray,List.set_cons_zero,List.set_cons_succ]
        refine U_readC 7 [8,9,10,18,19] (v:=(.pointer (some ⟨br,k*5+1,none⟩))) rfl (by kernel_rfl) (fun _ _ _ h=>h) hS (by kernel_rfl) (fun w' hw'=>by obtain⟨h0,h1,h2,h3⟩:=hw'; go_simp) ?_
        try simp only [Act.put,List.setIfInBounds_toArray,List.set_cons_zero,List.set_cons_succ]
        refine U_readC 8 [9,10,18,19] (v:=(.int .i64 (sp:Nat))) rfl (by kernel_rfl) (fun _ _ _ h=>h) hS (by kernel_rfl) (fun w' hw'=>by obtain⟨h0,h1,h2,h3⟩:=hw'; go_simp) ?_
        try simp only [Act.put,List.setIfInBounds_toArray,List.set_cons_zero,List.set_cons_succ]
        refine U_readC 9 [10,18,19] (v:=(.pointer (some ⟨gr,sp,none⟩))) rfl (by kernel_rfl) (fun _ _ _ h=>h) hS (by kernel_rfl) (fun w' hw'=>by obtain⟨h0,h1,h2,h3⟩:=hw'; go_simp) ?_
        try simp only [Act.put,List.setIfInBounds_toArray,List.set_cons_zero,List.set_cons_succ]
        refine U_readC 10 [18,19] (v:=(.int .u32 (rs:Nat))) rfl (by kernel_rfl) (fun _ _ _ h=>h) hS (by kernel_rfl) (fun w' hw'=>by obtain⟨h0,h1,h2,h3⟩:=hw'; go_simp) ?_
        try simp only [Act.put,List.setIfInBounds_toArray,List.set_cons_zero,List.set_cons_succ]
        refine U_readC 11 [17,19] (v:=(.map (some bm))) rfl (by kernel_rfl) (fun _ _ _ h=>h) hS (by kernel_rfl) (fun w' hw'=>by obtain⟨h0,h1,h2,h3⟩:=hw'; go_simp) ?_
        try simp only [Act.put,List.setIfInBounds_toArray,List.set_cons_zero,List.set_cons_succ]
        refine U_readC 12 [14,15,16,17,19] (v:=(.slice (some ⟨br,0,none⟩) 22 22)) rfl (by kernel_rfl) (fun _ _ _ h=>h) hS (by kernel_rfl) (fun w' hw'=>by obtain⟨h0,h1,h2,h3⟩:=hw'; go_simp) ?_
        try simp only [Act.put,List.setIfInBounds_toArray,List.set_cons_zero,List.set_cons_succ]
        refine U_readC 13 [14,15,16,17,19] (v:=(.int .i64 k)) rfl (by kernel_rfl) (fun _ _ _ h=>h) hS (by kernel_rfl) (fun w' hw'=>by obtain⟨h0,h1,h2,h3⟩:=hw'; go_simp) ?_
        try simp only [Act.put,List.setIfInBounds_toArray,List.set_cons_zero,List.set_cons_succ]
        refine U_readC 14 [15,16,17,19] (v:=(.pointer (some ⟨br,k*5,none⟩))) rfl (by kernel_rfl) (fun _ _ _ h=>h) hS (by kernel_rfl) (fun w' hw'=>by obtain⟨h0,h1,h2,h3⟩:=hw'; go_simp) ?_
        try simp only [Act.put,List.setIfInBounds_toArray,List.set_cons_zero,List.set_cons_succ]
        refine U_readC 15 [16,17,19] (v:=(.pointer (some ⟨br,k*5+1,none⟩))) rfl (by kernel_rfl) (fun _ _ _ h=>h) hS (by kernel_rfl) (fun w' hw'=>by obtain⟨h0,h1,h2,h3⟩:=hw'; go_simp) ?_
        try simp only [Act.put,List.setIfInBounds_toArray,List.set_cons_zero,List.set_cons_succ]
        refine U_readC 16 [17,19] (v:=(.int .i64 (sp:Nat))) rfl (by kernel_rfl) (fun _ _ _ h=>h) hS (by kernel_rfl) (fun w' hw'=>by obtain⟨h0,h1,h2,h3⟩:=hw'; go_simp) ?_
        try simp only [Act.put,List.setIfInBounds_toArray,List.set_cons_zero,List.set_cons_succ]
        refine U_readC 17 [19] (v:=(.int .u32 (m2:Nat))) rfl (by kernel_rfl) (fun _ _ _ h=>h) hS (by kernel_rfl) (fun w' hw'=>by obtain⟨h0,h1,h2,h3⟩:=hw'; go_simp) ?_
        try simp only [Act.put,List.setIfInBounds_toArray,List.set_cons_zero,List.set_cons_succ]
        refine U_one 18 (by kernel_rfl) rfl rfl (fun K hK=>?_)
        go_simp
        refine hK _ _ (fun _=>hS) ?_
        clear hK K
        try simp only [Act.put,List.setIfInBounds_toArray,List.set_cons_zero,List.set_cons_succ]
        refine U_one 19 (by kernel_rfl) rfl rfl (fun K hK=>?_)
        go_simp
        refine hK _ _ (fun h=>absurd h (by decide)) ?_
        clear hK K
        try simp only [Act.put,List.setIfInBounds_toArray,List.set_cons_zero,List.set_cons_succ]
        refine U_done (by kernel_rfl) ?_ _
        simp only [Calm,Exit.then]
        clear hS
        go_upto_region 27 with fail
        have HCZ:=Lib.hid (HC2.out.below (below_drew (Below.refl _ _)))
        have HMZ:=Lib.hid ((HM2.out).below (below_drew (Below.refl _ _)))
        obtain⟨c2,cr0⟩:=HCZ.out.rl.rootsP
        rw [HGR.out] at c2 cr0
        have e0:=cr0 0 (by omega)
        have ek:=cr0 (10+k) (by omega)
        rw [← HV.out.1] at e0
        rw [← HV.out.2.2.1] at ek
        obtain⟨A',n',-,-,b2,-,b4,-,-⟩:=HCZ.out.rows.at_ k hkn
        rw [HKF.out.1] at b2
        rw [HKF.out.2] at b4
        have hlk:=HMZ.out.look (x:=10+k) (by omega)
        rw [HFK.out,show ((10+k:Nat):Int)=10+(k:Int) by omega] at hlk
        have HFX:=Lib.hid (dfixed_any HCZ.out.rows k hkn)
        rw [HFXE.out,show ((10+k:Nat):Int)=10+(k:Int) by omega] at HFX
        have HNM:=Lib.hid (fun w'=>dnumber_any fm fx ix hfew.2.2 (by have:=hfew.2.1; omega) w')
        rw [show fm+8*fx+(if ix=true then 65536 else 0)=nx from HNX.out.symm] at HNM
        have hnx:nx≤100000:=by rw [HNX.out]; have:=hfew.2.1; have:=hfew.2.2; split <;> omega
        have HWI:=Lib.hid (dwire_any HCZ.out.rl c mm n0 rs m2 nx hrk hmk hr0 hrs hms hnx)
        have hS:wr.drew.drew.drew.cell? ⟨g,2,none⟩=some (.slice (some ⟨gr,0,none⟩) 64 p3.cr)∧wr.drew.drew.drew.cell? ⟨gr,10+k,none⟩=some (.int .u32 (c:Nat))∧wr.drew.drew.drew.cell? ⟨gr,0,none⟩=some (.int .u32 (n0:Nat))∧wr.drew.drew.drew.cell? ⟨br,k*5+2,none⟩=some (.int .i64 (fm:Nat))∧wr.drew.drew.drew.cell? ⟨br,k*5+4,none⟩=some (.bool ix)∧(Instr.lookup 96 (.map (some bm)) (.int .i64 (10+(k:Int))) false).run Tryz.prog wr.drew.drew.drew = .ok (.int .u32 (mm:Nat)) wr.drew.drew.drew:=⟨c2,ek,e0,b2,b4,hlk⟩
        clear c2 cr0 e0 ek b2 b4 hlk
        refine wp_region_U 36 (fun w'=>w'.cell? ⟨g,2,none⟩=some (.slice (some ⟨gr,0,none⟩) 64 p3.cr)∧w'.cell? ⟨gr,10+k,none⟩=some (.int .u32 (c:Nat))∧w'.cell? ⟨gr,0,none⟩=some (.int .u32 (n0:Nat))∧w'.cell? ⟨br,k*5+2,none⟩=some (.int .i64 (fm:Nat))∧w'.cell? ⟨br,k*5+4,none⟩=some (.bool ix)∧(Instr.lookup 96 (.map (some bm)) (.int .i64 (10+(k:Int))) false).run Tryz.prog w' = .ok (.int .u32 (mm:Nat)) w') (by kernel_rfl) ?_
        refine U_readC 0 [36] (v:=(.pointer (some ⟨g,0,none⟩))) rfl (by kernel_rfl) (fun _ _ _ h=>h) hS (by kernel_rfl) (fun w' hw'=>by obtain⟨h0,h1,h2,h3,h4,h5⟩:=hw'; go_simp) ?_
        try simp only [Act.put,List.setIfInBounds_toArray,List.set_cons_zero,List.set_cons_succ]
        refine U_readC 1 [2,3,4,7,8,36] (v:=(.pointer (some ⟨g,0,none⟩))) rfl (by kernel_rfl) (fun _ _ _ h=>h) hS (by kernel_rfl) (fun w' hw'=>by obtain⟨h0,h1,h2,h3,h4,h5⟩:=hw'; go_simp) ?_
        try simp only [Act.put,List.setIfInBounds_toArray,List.set_cons_zero,List.set_cons_succ]
        refine U_readC 2 [3,4,7,8,36] (v:=(.pointer (some ⟨g,0,none⟩))) rfl (by kernel_rfl) (fun _ _ _ h=>h) hS (by kernel_rfl) (fun w' hw'=>by obtain⟨h0,h1,h2,h3,h4,h5⟩:=hw'; go_simp) ?_
        try simp only [Act.put,List.setIfInBounds_toArray,List.set_cons_zero,List.set_cons_succ]
        refine U_readC 3 [4,7,8,36] (v:=(.pointer (some ⟨g,2,none⟩))) rfl (by kernel_rfl) (fun _ _ _ h=>h) hS (by kernel_rfl) (fun w' hw'=>by obtain⟨h0,h1,h2,h3,h4,h5⟩:=hw'; go_simp) ?_
        try simp only [Act.put,List.setIfInBounds_toArray,List.set_cons_zero,List.set_cons_succ]
        refine U_readC 4 [7,8,36] (v:=(.slice (some ⟨gr,0,none⟩) 64 p3.cr)) rfl (by kernel_rfl) (fun _ _ _ h=>h) hS (by kernel_rfl) (fun w' hw'=>by obtain⟨h0,h1,h2,h3,h4,h5⟩:=hw'; go_simp) ?_
        try simp only [Act.put,List.setIfInBounds_toArray,List.set_cons_zero,List.set_cons_succ]
        refine U_readC 5 [6,7,8,36] (v:=(.int .i64 k)) rfl (by kernel_rfl) (fun _ _ _ h=>h) hS (by kernel_rfl) (fun w' hw'=>by obtain⟨h0,h1,h2,h3,h4,h5⟩:=hw'; go_simp) ?_
        try simp only [Act.put,List.setIfInBounds_toArray,List.set_cons_zero,List.set_cons_succ]
        refine U_readC 6 [7,8,36] (v:=(.int .i64 (10+k))) rfl (by kernel_rfl) (fun _ _ _ h=>h) hS (by kernel_rfl) (fun w' hw'=>by obtain⟨h0,h1,h2,h3,h4,h5⟩:=hw'; go_simp; exact IntWalk.i64_in _ (by omega)) ?_
        try simp only [Act.put,List.setIfInBounds_toArray,List.set_cons_zero,List.set_cons_succ]
        refine U_readC 7 [8,36] (v:=(.pointer (some ⟨gr,10+k,none⟩))) rfl (by kernel_rfl) (fun _ _ _ h=>h) hS (by kernel_rfl) (fun w' hw'=>by obtain⟨h0,h1,h2,h3,h4,h5⟩:=hw'; go_simp; rw [if_pos ⟨by omega,by omega⟩,show (10+(k:Int)).toNat=10+k by omega]) ?_
        try simp only [Act.put,List.setIfInBounds_toArray,List.set_cons_zero,List.set_cons_succ]
        refine U_readC 8 [36] (v:=(.int .u32 (c:Nat))) rfl (by kernel_rfl) (fun _ _ _ h=>h) hS (by kernel_rfl) (fun w' hw'=>by obtain⟨h0,h1,h2,h3,h4,h5⟩:=hw'; go_simp) ?_
        try simp only [Act.put,List.setIfInBounds_toArray,List.set_cons_zero,List.set_cons_succ]
        refine U_readC 9 [12,36] (v:=(.map (some bm))) rfl (by kernel_rfl) (fun _ _ _ h=>h) hS (by kernel_rfl) (fun w' hw'=>by obtain⟨h0,h1,h2,h3,h4,h5⟩:=hw'; go_simp) ?_
        try simp only [Act.put,List.setIfInBounds_toArray,List.set_cons_zero,List.set_cons_succ]
        refine U_readC 10 [11,12,36] (v:=(.int .i64 k)) rfl (by kernel_rfl) (fun _ _ _ h=>h) hS (by kernel_rfl) (fun w' hw'=>by obtain⟨h0,h1,h2,h3,h4,h5⟩:=hw'; go_simp) ?_
        try simp only [Act.put,List.setIfInBounds_toArray,List.set_cons_zero,List.set_cons_succ]
        refine U_readC 11 [12,36] (v:=(.int .i64 (10+k))) rfl (by kernel_rfl) (fun _ _ _ h=>h) hS (by kernel_rfl) (fun w' hw'=>by obtain⟨h0,h1,h2,h3,h4,h5⟩:=hw'; go_simp; exact IntWalk.i64_in _ (by omega)) ?_
        try simp only [Act.put,List.setIfInBounds_toArray,List.set_cons_zero,List.set_cons_succ]
        refine U_readC 12 [36] (v:=(.int .u32 (mm:Nat))) rfl (by kernel_rfl) (fun _ _ _ h=>h) hS (by kernel_rfl) (fun w' hw'=>by obtain⟨h0,h1,h2,h3,h4,h5⟩:=hw'; go_simp) ?_
        try simp only [Act.put,List.setIfInBounds_toArray,List.set_cons_zero,List.set_cons_succ]
        refine U_readC 13 [14,15,16,17,18,36] (v:=(.pointer (some ⟨g,0,none⟩))) rfl (by kernel_rfl) (fun _ _ _ h=>h) hS (by kernel_rfl) (fun w' hw'=>by obtain⟨h0,h1,h2,h3,h4,h5⟩:=hw'; go_simp) ?_
        try simp only [Act.put,List.setIfInBounds_toArray,List.set_cons_zero,List.set_cons_succ]
        refine U_readC 14 [15,16,17,18,36] (v:=(.pointer (some ⟨g,0,none⟩))) rfl (by kernel_rfl) (fun _ _ _ h=>h) hS (by kernel_rfl) (fun w' hw'=>by obtain⟨h0,h1,h2,h3,h4,h5⟩:=hw'; go_simp) ?_
        try simp only [Act.put,List.setIfInBounds_toArray,List.set_cons_zero,List.set_cons_succ]
        refine U_readC 15 [16,17,18,36] (v:=(.pointer (some ⟨g,2,none⟩))) rfl (by kernel_rfl) (fun _ _ _ h=>h) hS (by kernel_rfl) (fun w' hw'=>by obtain⟨h0,h1,h2,h3,h4,h5⟩:=hw'; go_simp) ?_
        try simp only [Act.put,List.setIfInBounds_toArray,List.set_cons_zero,List.set_cons_succ]
        refine U_readC 16 [17,18,36] (v:=(.slice (some ⟨gr,0,none⟩) 64 p3.cr)) rfl (by kernel_rfl) (fun _ _ _ h=>h) hS (by kernel_rfl) (fun w' hw'=>by obtain⟨h0,h1,h2,h3,h4,h5⟩:=hw'; go_simp) ?_
        try simp only [Act.put,List.setIfInBounds_toArray,List.set_cons_zero,List.set_cons_succ]
        refine U_readC 17 [18,36] (v:=(.pointer (some ⟨gr,0,none⟩))) rfl (by kernel_rfl) (fun _ _ _ h=>h) hS (by kernel_rfl) (fun w' hw'=>by obtain⟨h0,h1,h2,h3,h4,h5⟩:=hw'; go_simp) ?_
        try simp only [Act.put,List.setIfInBounds_toArray,List.set_cons_zero,List.set_cons_succ]
        refine U_readC 18 [36] (v:=(.int .u32 (n0:Nat))) rfl (by kernel_rfl) (fun _ _ _ h=>h) hS (by kernel_rfl) (fun w' hw'=>by obtain⟨h0,h1,h2,h3,h4,h5⟩:=hw'; go_simp) ?_
        try simp only [Act.put,List.setIfInBounds_toArray,List.set_cons_zero,List.set_cons_succ]
        refine U_readC 19 [36] (v:=(.int .u32 (rs:Nat))) rfl (by kernel_rfl) (fun _ _ _ h=>h) hS (by kernel_rfl) (fun w' hw'=>by obtain⟨h0,h1,h2,h3,h4,h5⟩:=hw'; go_simp) ?_
        try simp only [Act.put,List.setIfInBounds_toArray,List.set_cons_zero,List.set_cons_succ]
        refine U_readC 20 [36] (v:=(.int .u32 (m2:Nat))) rfl (by kernel_rfl) (fun _ _ _ h=>h) hS (by kernel_rfl) (fun w' hw'=>by obtain⟨h0,h1,h2,h3,h4,h5⟩:=hw'; go_simp) ?_
        try simp only [Act.put,List.setIfInBounds_toArray,List.set_cons_zero,List.set_cons_succ]
        refine U_readC 21 [23,24,25,35,36] (v:=(.slice (some ⟨br,0,none⟩) 22 22)) rfl (by kernel_rfl) (fun _ _ _ h=>h) hS (by kernel_rfl) (fun w' hw'=>by obtain⟨h0,h1,h2,h3,h4,h5⟩:=hw'; go_simp) ?_
        try simp only [Act.put,List.setIfInBounds_toArray,List.set_cons_zero,List.set_cons_succ]
        refine U_readC 22 [23,24,25,35,36] (v:=(.int .i64 k)) rfl (by kernel_rfl) (fun _ _ _ h=>h) hS (by kernel_rfl) (fun w' hw'=>by obtain⟨h0,h1,h2,h3,h4,h5⟩:=hw'; go_simp) ?_
        try simp only [Act.put,List.setIfInBounds_toArray,List.set_cons_zero,List.set_cons_succ]
        refine U_readC 23 [24,25,35,36] (v:=(.pointer (some ⟨br,k*5,none⟩))) rfl (by kernel_rfl) (fun _ _ _ h=>h) hS (by kernel_rfl) (fun w' hw'=>by obtain⟨h0,h1,h2,h3,h4,h5⟩:=hw'; go_simp) ?_
        try simp only [Act.put,List.setIfInBounds_toArray,List.set_cons_zero,List.set_cons_succ]
        refine U_readC 24 [25,35,36] (v:=(.pointer (some ⟨br,k*5+2,none⟩))) rfl (by kernel_rfl) (fun _ _ _ h=>h) hS (by kernel_rfl) (fun w' hw'=>by obtain⟨h0,h1,h2,h3,h4,h5⟩:=hw'; go_simp) ?_
        try simp only [Act.put,List.setIfInBounds_toArray,List.set_cons_zero,List.set_cons_succ]
        refine U_readC 25 [35,36] (v:=(.int .i64 (fm:Nat))) rfl (by kernel_rfl) (fun _ _ _ h=>h) hS (by kernel_rfl) (fun w' hw'=>by obtain⟨h0,h1,h2,h3,h4,h5⟩:=hw'; go_simp) ?_
        try simp only [Act.put,List.setIfInBounds_toArray,List.set_cons_zero,List.set_cons_succ]
        refine U_readC 26 [29,35,36] (v:=(.slice (some ⟨br,0,none⟩) 22 22)) rfl (by kernel_rfl) (fun _ _ _ h=>h) hS (by kernel_rfl) (fun w' hw'=>by obtain⟨h0,h1,h2,h3,h4,h5⟩:=hw'; go_simp) ?_
        try simp only [Act.put,List.setIfInBounds_toArray,List.set_cons_zero,List.set_cons_succ]
        refine U_readC 27 [28,29,35,36] (v:=(.int .i64 k)) rfl (by kernel_rfl) (fun _ _ _ h=>h) hS (by kernel_rfl) (fun w' hw'=>by obtain⟨h0,h1,h2,h3,h4,h5⟩:=hw'; go_simp) ?_
        try simp only [Act.put,List.setIfInBounds_toArray,List.set_cons_zero,List.set_cons_succ]
        refine U_readC 28 [29,35,36] (v:=(.int .i64 (10+k))) rfl (by kernel_rfl) (fun _ _ _ h=>h) hS (by kernel_rfl) (fun w' hw'=>by obtain⟨h0,h1,h2,h3,h4,h5⟩:=hw'; go_simp; exact IntWalk.i64_in _ (by omega)) ?_
        try simp only [Act.put,List.setIfInBounds_toArray,List.set_cons_zero,List.set_cons_succ]
        refine U_readC 30 [32,33,34,35,36] (v:=(.slice (some ⟨br,0,none⟩) 22 22)) rfl (by kernel_rfl) (fun _ _ _ h=>h) hS (by kernel_rfl) (fun w' hw'=>by obtain⟨h0,h1,h2,h3,h4,h5⟩:=hw'; go_simp) ?_
        try simp only [Act.put,List.setIfInBounds_toArray,List.set_cons_zero,List.set_cons_succ]
        refine U_readC 31 [32,33,34,35,36] (v:=(.int .i64 k)) rfl (by kernel_rfl) (fun _ _ _ h=>h) hS (by kernel_rfl) (fun w' hw'=>by obtain⟨h0,h1,h2,h3,h4,h5⟩:=hw'; go_simp) ?_
        try simp only [Act.put,List.setIfInBounds_toArray,List.set_cons_zero,List.set_cons_succ]
        refine U_readC 32 [33,34,35,36] (v:=(.pointer (some ⟨br,k*5,none⟩))) rfl (by kernel_rfl) (fun _ _ _ h=>h) hS (by kernel_rfl) (fun w' hw'=>by obtain⟨h0,h1,h2,h3,h4,h5⟩:=hw'; go_simp) ?_
        try simp only [Act.put,List.setIfInBounds_toArray,List.set_cons_zero,List.set_cons_succ]
        refine U_readC 33 [34,35,36] (v:=(.pointer (some ⟨br,k*5+4,none⟩))) rfl (by kernel_rfl) (fun _ _ _ h=>h) hS (by kernel_rfl) (fun w' hw'=>by obtain⟨h0,h1,h2,h3,h4,h5⟩:=hw'; go_simp) ?_
        try simp only [Act.put,List.setIfInBounds_toArray,List.set_cons_zero,List.set_cons_succ]
        refine U_readC 34 [35,36] (v:=(.bool ix)) rfl (by kernel_rfl) (fun _ _ _ h=>h) hS (by kernel_rfl) (fun w' hw'=>by obtain⟨h0,h1,h2,h3,h4,h5⟩:=hw'; go_simp) ?_
        try simp only [Act.put,List.setIfInBounds_toArray,List.set_cons_zero,List.set_cons_succ]
        refine U_one 29 (by kernel_rfl) rfl rfl (fun K hK=>?_)
        go_simp
        refine HFX.out.mono ?_
        rintro e wf ⟨rfl,rfl⟩
        refine hK _ _ (fun _=>hS) ?_
        clear hK K
        try simp only [Act.put,List.setIfInBounds_toArray,List.set_cons_zero,List.set_cons_succ]
        refine U_one 35 (by kernel_rfl) rfl rfl (fun K hK=>?_)
        go_simp
        refine (HNM.out _).mono ?_
        rintro e wf ⟨rfl,rfl⟩
        refine hK _ _ (fun _=>hS) ?_
        clear hK K
        try simp only [Act.put,List.setIfInBounds_toArray,List.set_cons_zero,List.set_cons_succ]
        refine U_one 36 (by kernel_rfl) rfl rfl (fun K hK=>?_)
        go_simp
        refine HWI.out.mono ?_
        rintro e w9 ⟨p9,rfl,L9,s9⟩
        have HC9:=Lib.hid (HCZ.out.after L9 s9)
        have HM9:=Lib.hid (HMZ.out.same (s9.block bm HMZ.out.lt HMO.out))
        have HMO9:=Lib.hid (keep_out HMZ.out.lt HMO.out s9)
        clear L9 s9 HWI HCZ HMZ HFX HNM
        refine hK _ _ (fun h=>absurd h (by decide)) ?_
        clear hK K
        try simp only [Act.put,List.setIfInBounds_toArray,List.set_cons_zero,List.set_cons_succ]
        refine U_done (by kernel_rfl) ?_ _
        simp only [Calm,Exit.then]
        clear hS
        go_wp2_with fail
        go_roundw
        case rel=>
         refine⟨k+1,p9,by go_num,by omega,?_,HM9.out,HMO9.out⟩
         have h1:=HC9.out
         have he:dWireN ms H (k+1)=dWire h0 c mm n0 rs m2 nx:=by
          rw [HW.out,HDK.out,if_neg HSZ.out,if_neg HSZ.out,← HV.out.1,← HV.out.2.2.1,← HV.out.2.2.2,← HV2.out.1,← HV2.out.2]
         rw [he]
         exact h1
        case measure=>simp [intOf]; omega
      ·obtain rfl:k=22:=by omega
       have hd:decide ((22:Int)<22)=false:=by decide
       rw [show ((22:Nat):Int)=22 from rfl]
       have HC:=Lib.hid C
       clear C M mo HMG HFF HMB HR
       generalize dWireN ms H 22=h0 at *
       go_wp2_with fail
       generalize hw3:wr=w3 at HC
       clear hd
       go_loopw [18] (fun iv wr=>∃ (k:Nat) (p':HP),iv = .int .i64 k∧k≤7∧BnAt w p wr p' g (dClsN h0 k) br b5 b6) (fun iv _=>7-(intOf iv).toNat)
       case atStart=>exact⟨0,p3,rfl,Nat.zero_le _,HC.out⟩
       case round=>
        clear HC hw3
        obtain⟨k,p4,rfl,hk,C⟩:=hrel
        by_cases hkn:k<7
        ·have hd:decide ((k:Int)<7)=true:=by simp; omega
         have hki:(k:Int)<7:=by omega
         have HW:=Lib.hid (dClsN_succ h0 k)
         generalize dClsN h0 k=h1 at *
         have HD1:=Lib.hid (show dCls1 h1 k=if k<3 then h1.setClassH (h1.rt k) (h1.rt (13+k)) else h1.setClassH (h1.rt (rI k)) (h1.rt 20) from rfl)
         have hca:wr.drew.cell? ⟨b6,k,none⟩=some (.int .i64 ((rI k:Nat):Int)):=by
          rcases (by omega:k=0∨k=1∨k=2∨k=3∨k=4∨k=5∨k=6) with rfl | rfl | rfl | rfl | rfl | rfl | rfl
          ·exact C.s6.cell 0
          ·exact C.s6.cell 1
          ·exact C.s6.cell 2
          ·exact C.s6.cell 3
          ·exact C.s6.cell 4
          ·exact C.s6.cell 5
          ·exact C.s6.cell 6
         have hr64:rI k<64:=by
          rcases (by omega:k=0∨k=1∨k=2∨k=3∨k=4∨k=5∨k=6) with rfl | rfl | rfl | rfl | rfl | rfl | rfl <;> decide
         generalize rI k=r at *
         have HX:=Lib.hid hca
         have HC1:=Lib.hid (C.below (below_drew (Below.refl _ _)))
         have HFR:=Lib.hid (fun s=>show h1.rt s<4294967296 from C.rl.fit.root s)
         clear C hca
         obtain⟨c2,cr0⟩:=HC1.out.rl.rootsP
         obtain⟨gr,hgr⟩ :∃ x,x=p4.gr:=⟨_,rfl⟩
         rw [← hgr] at c2 cr0
         have HER:=Lib.hid (And.intro c2 cr0)
         clear hgr c2 cr0
         by_cases hk3:k<3
         ·have hd3:decide ((k:Int)<3)=true:=by simp; omega
          have hk3i:(k:Int)<3:=by omega
          have hk64i:(k:Int)<64:=by omega
          have HD2:=Lib.hid (HD1.out.trans (if_pos hk3))
          have HST:=Lib.hid (HC1.out.rl.setClass (h1.rt k) (h1.rt (13+k)) (HFR.out k) (HFR.out (13+k)))
          have ek:=HER.out.2 k (by omega)
          have ec:=HER.out.2 (13+k) (by omega)
          obtain⟨ro,hro⟩ :∃ x,x=h1.rt k:=⟨_,rfl⟩
          obtain⟨rc,hrc⟩ :∃ x,x=h1.rt (13+k):=⟨_,rfl⟩
          rw [← hro] at HST ek HD2
          rw [← hrc] at HST ec HD2
          clear hro hrc HD1 hk3
          go_upto_region 32 with fail
          have hS:wr.drew.cell? ⟨g,2,none⟩=some (.slice (some ⟨gr,0,none⟩) 64 p4.cr)∧wr.drew.cell? ⟨gr,k,none⟩=some (.int .u32 (ro:Nat))∧wr.drew.cell? ⟨gr,13+k,none⟩=some (.int .u32 (rc:Nat)):=⟨HER.out.1,ek,ec⟩
          clear ek ec
          refine wp_region_U 16 (fun w'=>w'.cell? ⟨g,2,none⟩=some (.slice (some ⟨gr,0,none⟩) 64 p4.cr)∧w'.cell? ⟨gr,k,none⟩=some (.int .u32 (ro:Nat))∧w'.cell? ⟨gr,13+k,none⟩=some (.int .u32 (rc:Nat))) (by kernel_rfl) ?_
          refine U_readC 0 [16] (v:=(.pointer (some ⟨g,0,none⟩))) rfl (by kernel_rfl) (fun _ _ _ h=>h) hS (by kernel_rfl) (fun w' hw'=>by obtain⟨h0,h1,h2⟩:=hw'; go_simp) ?_
          try simp only [Act.put,List.setIfInBounds_toArray,List.set_cons_zero,List.set_cons_succ]
          refine U_readC 1 [2,3,4,6,7,16] (v:=(.pointer (some ⟨g,0,none⟩))) rfl (by kernel_rfl) (fun _ _ _ h=>h) hS (by kernel_rfl) (fun w' hw'=>by obtain⟨h0,h1,h2⟩:=hw'; go_simp) ?_
          try simp only [Act.put,List.setIfInBounds_toArray,List.set_cons_zero,List.set_cons_succ]
          refine U_readC 2 [3,4,6,7,16] (v:=(.pointer (some ⟨g,0,none⟩))) rfl (by kernel_rfl) (fun _ _ _ h=>h) hS (by kernel_rfl) (fun w' hw'=>by obtain⟨h0,h1,h2⟩:=hw'; go_simp) ?_
          try simp only [Act.put,List.setIfInBounds_toArray,List.set_cons_zero,List.set_cons_succ]
          refine U_readC 3 [4,6,7,16] (v:=(.pointer (some ⟨g,2,none⟩))) rfl (by kernel_rfl) (fun _ _ _ h=>h) hS (by kernel_rfl) (fun w' hw'=>by obtain⟨h0,h1,h2⟩:=hw'; go_simp) ?_
          try simp only [Act.put,List.setIfInBounds_toArray,List.set_cons_zero,List.set_cons_succ]
          refine U_readC 4 [6,7,16] (v:=(.slice (some ⟨gr,0,none⟩) 64 p4.cr)) rfl (by kernel_rfl) (fun _ _ _ h=>h) hS (by kernel_rfl) (fun w' hw'=>by obtain⟨h0,h1,h2⟩:=hw'; go_simp) ?_
          try simp only [Act.put,List.setIfInBounds_toArray,List.set_cons_zero,List.set_cons_succ]
          refine U_readC 5 [6,7,16] (v:=(.int .i64 k)) rfl (by kernel_rfl) (fun _ _ _ h=>h) hS (by kernel_rfl) (fun w' hw'=>by obtain⟨h0,h1,h2⟩:=hw'; go_simp) ?_
          try simp only [Act.put,List.setIfInBounds_toArray,List.set_cons_zero,List.set_cons_succ]
          refine U_readC 6 [7,16] (v:=(.pointer (some ⟨gr,k,none⟩))) rfl (by kernel_rfl) (fun _ _ _ h=>h) hS (by kernel_rfl) (fun w' hw'=>by obtain⟨h0,h1,h2⟩:=hw'; go_simp) ?_
          try simp only [Act.put,List.setIfInBounds_toArray,List.set_cons_zero,List.set_cons_succ]
          refine U_readC 7 [16] (v:=(.int .u32 (ro:Nat))) rfl (by kernel_rfl) (fun _ _ _ h=>h) hS (by kernel_rfl) (fun w' hw'=>by obtain⟨h0,h1,h2⟩:=hw'; go_simp) ?_
          try simp only [Act.put,List.setIfInBounds_toArray,List.set_cons_zero,List.set_cons_succ]
          refine U_readC 8 [9,10,11,14,15,16] (v:=(.pointer (some ⟨g,0,none⟩))) rfl (by kernel_rfl) (fun _ _ _ h=>h) hS (by kernel_rfl) (fun w' hw'=>by obtain⟨h0,h1,h2⟩:=hw'; go_simp) ?_
          try simp only [Act.put,List.setIfInBounds_toArray,List.set_cons_zero,List.set_cons_succ]
          refine U_readC 9 [10,11,14,15,16] (v:=(.pointer (some ⟨g,0,none⟩))) rfl (by kernel_rfl) (fun _ _ _ h=>h) hS (by kernel_rfl) (fun w' hw'=>by obtain⟨h0,h1,h2⟩:=hw'; go_simp) ?_
          try simp only [Act.put,List.setIfInBounds_toArray,List.set_cons_zero,List.set_cons_succ]
          refine U_readC 10 [11,14,15,16] (v:=(.pointer (some ⟨g,2,none⟩))) rfl (by kernel_rfl) (fun _ _ _ h=>h) hS (by kernel_rfl) (fun w' hw'=>by obtain⟨h0,h1,h2⟩:=hw'; go_simp) ?_
          try simp only [Act.put,List.setIfInBounds_toArray,List.set_cons_zero,List.set_cons_succ]
          refine U_readC 11 [14,15,16] (v:=(.slice (some ⟨gr,0,none⟩) 64 p4.cr)) rfl (by kernel_rfl) (fun _ _ _ h=>h) hS (by kernel_rfl) (fun w' hw'=>by obtain⟨h0,h1,h2⟩:=hw'; go_simp) ?_
          try simp only [Act.put,List.setIfInBounds_toArray,List.set_cons_zero,List.set_cons_succ]
          refine U_readC 12 [13,14,15,16] (v:=(.int .i64 k)) rfl (by kernel_rfl) (fun _ _ _ h=>h) hS (by kernel_rfl) (fun w' hw'=>by obtain⟨h0,h1,h2⟩:=hw'; go_simp) ?_
          try simp only [Act.put,List.setIfInBounds_toArray,List.set_cons_zero,List.set_cons_succ]
          refine U_readC 13 [14,15,16] (v:=(.int .i64 (13+k))) rfl (by kernel_rfl) (fun _ _ _ h=>h) hS (by kernel_rfl) (fun w' hw'=>by obtain⟨h0,h1,h2⟩:=hw'; go_simp; exact IntWalk.i64_in _ (by omega)) ?_
          try simp only [Act.put,List.setIfInBounds_toArray,List.set_cons_zero,List.set_cons_succ]
          refine U_readC 14 [15,16] (v:=(.pointer (some ⟨gr,13+k,none⟩))) rfl (by kernel_rfl) (fun _ _ _ h=>h) hS (by kernel_rfl) (fun w' hw'=>by obtain⟨h0,h1,h2⟩:=hw'; go_simp; rw [if_pos ⟨by omega,by omega⟩,show (13+(k:Int)).toNat=13+k by omega]) ?_
          try simp only [Act.put,List.setIfInBounds_toArray,List.set_cons_zero,List.set_cons_succ]
          refine U_readC 15 [16] (v:=(.int .u32 (rc:Nat))) rfl (by kernel_rfl) (fun _ _ _ h=>h) hS (by kernel_rfl) (fun w' hw'=>by obtain⟨h0,h1,h2⟩:=hw'; go_simp) ?_
          try simp only [Act.put,List.setIfInBounds_toArray,List.set_cons_zero,List.set_cons_succ]
          refine U_one 16 (by kernel_rfl) rfl rfl (fun K hK=>?_)
          go_simp
          refine HST.out.mono ?_
          rintro e w5 ⟨p5,rfl,L5,s5⟩
          have HC5:=Lib.hid (HC1.out.after L5 s5)
          clear L5 s5 HST HC1
          refine hK _ _ (fun h=>absurd h (by decide)) ?_
          clear hK K
          try simp only [Act.put,List.setIfInBounds_toArray,List.set_cons_zero,List.set_cons_succ]
          refine U_done (by kernel_rfl) ?_ _
          simp only [Calm,Exit.then]
          clear hS
          go_wp2_with fail
          go_roundw
          case rel=>exact⟨k+1,p5,by go_num,by omega,by rw [HW.out,HD2.out]; exact HC5.out⟩
          case measure=>simp [intOf]; omega
         ·have hd3:decide ((k:Int)<3)=false:=by simp; omega
          have HD2:=Lib.hid (HD1.out.trans (if_neg hk3))
          have HST:=Lib.hid (HC1.out.rl.setClass (h1.rt r) (h1.rt 20) (HFR.out r) (HFR.out 20))
          have ek:=HER.out.2 r hr64
          have ec:=HER.out.2 20 (by omega)
          have hri:(r:Int)<64:=by omega
          obtain⟨ro,hro⟩ :∃ x,x=h1.rt r:=⟨_,rfl⟩
          obtain⟨rc,hrc⟩ :∃ x,x=h1.rt 20:=⟨_,rfl⟩
          rw [← hro] at HST ek HD2
          rw [← hrc] at HST ec HD2
          clear hro hrc HD1 hk3
          go_upto_region 33 with fail
          have hS:wr.drew.cell? ⟨g,2,none⟩=some (.slice (some ⟨gr,0,none⟩) 64 p4.cr)∧wr.drew.cell? ⟨b6,k,none⟩=some (.int .i64 (r:Nat))∧wr.drew.cell? ⟨gr,r,none⟩=some (.int .u32 (ro:Nat))∧wr.drew.cell? ⟨gr,20,none⟩=some (.int .u32 (rc:Nat)):=⟨HER.out.1,HX.out,ek,ec⟩
          clear ek ec
          refine wp_region_U 17 (fun w'=>w'.cell? ⟨g,2,none⟩=some (.slice (some ⟨gr,0,none⟩) 64 p4.cr)∧w'.cell? ⟨b6,k,none⟩=some (.int .i64 (r:Nat))∧w'.cell? ⟨gr,r,none⟩=some (.int .u32 (ro:Nat))∧w'.cell? ⟨gr,20,none⟩=some (.int .u32 (rc:Nat))) (by kernel_rfl) ?_
          refine U_readC 0 [17] (v:=(.pointer (some ⟨g,0,none⟩))) rfl (by kernel_rfl) (fun _ _ _ h=>h) hS (by kernel_rfl) (fun w' hw'=>by obtain⟨h0,h1,h2,h3⟩:=hw'; go_simp) ?_
          try simp only [Act.put,List.setIfInBounds_toArray,List.set_cons_zero,List.set_cons_succ]
          refine U_readC 1 [2,3,4,9,10,17] (v:=(.pointer (some ⟨g,0,none⟩))) rfl (by kernel_rfl) (fun _ _ _ h=>h) hS (by kernel_rfl) (fun w' hw'=>by obtain⟨h0,h1,h2,h3⟩:=hw'; go_simp) ?_
          try simp only [Act.put,List.setIfInBounds_toArray,List.set_cons_zero,List.set_cons_succ]
          refine U_readC 2 [3,4,9,10,17] (v:=(.pointer (some ⟨g,0,none⟩))) rfl (by kernel_rfl) (fun _ _ _ h=>h) hS (by kernel_rfl) (fun w' hw'=>by obtain⟨h0,h1,h2,h3⟩:=hw'; go_simp) ?_
          try simp only [Act.put,List.setIfInBounds_toArray,List.set_cons_zero,List.set_cons_succ]
          refine U_readC 3 [4,9,10,17] (v:=(.pointer (some ⟨g,2,none⟩))) rfl (by kernel_rfl) (fun _ _ _ h=>h) hS (by kernel_rfl) (fun w' hw'=>by obtain⟨h0,h1,h2,h3⟩:=hw'; go_simp) ?_
          try simp only [Act.put,List.setIfInBounds_toArray,List.set_cons_zero,List.set_cons_succ]
          refine U_readC 4 [9,10,17] (v:=(.slice (some ⟨gr,0,none⟩) 64 p4.cr)) rfl (by kernel_rfl) (fun _ _ _ h=>h) hS (by kernel_rfl) (fun w' hw'=>by obtain⟨h0,h1,h2,h3⟩:=hw'; go_simp) ?_
          try simp only [Act.put,List.setIfInBounds_toArray,List.set_cons_zero,List.set_cons_succ]
          refine U_readC 5 [7,8,9,10,17] (v:=(.slice (some ⟨b6,0,none⟩) 7 7)) rfl (by kernel_rfl) (fun _ _ _ h=>h) hS (by kernel_rfl) (fun w' hw'=>by obtain⟨h0,h1,h2,h3⟩:=hw'; go_simp) ?_
          try simp only [Act.put,List.setIfInBounds_toArray,List.set_cons_zero,List.set_cons_succ]
          refine U_readC 6 [7,8,9,10,17] (v:=(.int .i64 k)) rfl (by kernel_rfl) (fun _ _ _ h=>h) hS (by kernel_rfl) (fun w' hw'=>by obtain⟨h0,h1,h2,h3⟩:=hw'; go_simp) ?_
          try simp only [Act.put,List.setIfInBounds_toArray,List.set_cons_zero,List.set_cons_succ]
          refine U_readC 7 [8,9,10,17] (v:=(.pointer (some ⟨b6,k,none⟩))) rfl (by kernel_rfl) (fun _ _ _ h=>h) hS (by kernel_rfl) (fun w' hw'=>by obtain⟨h0,h1,h2,h3⟩:=hw'; go_simp) ?_
          try simp only [Act.put,List.setIfInBounds_toArray,List.set_cons_zero,List.set_cons_succ]
          refine U_readC 8 [9,10,17] (v:=(.int .i64 (r:Nat))) rfl (by kernel_rfl) (fun _ _ _ h=>h) hS (by kernel_rfl) (fun w' hw'=>by obtain⟨h0,h1,h2,h3⟩:=hw'; go_simp) ?_
          try simp only [Act.put,List.setIfInBounds_toArray,List.set_cons_zero,List.set_cons_succ]
          refine U_readC 9 [10,17] (v:=(.pointer (some ⟨gr,r,none⟩))) rfl (by kernel_rfl) (fun _ _ _ h=>h) hS (by kernel_rfl) (fun w' hw'=>by obtain⟨h0,h1,h2,h3⟩:=hw'; go_simp) ?_
          try simp only [Act.put,List.setIfInBounds_toArray,List.set_cons_zero,List.set_cons_succ]
          refine U_readC 10 [17] (v:=(.int .u32 (ro:Nat))) rfl (by kernel_rfl) (fun _ _ _ h=>h) hS (by kernel_rfl) (fun w' hw'=>by obtain⟨h0,h1,h2,h3⟩:=hw'; go_simp) ?_
          try simp only [Act.put,List.setIfInBounds_toArray,List.set_cons_zero,List.set_cons_succ]
          refine U_readC 11 [12,13,14,15,16,17] (v:=(.pointer (some ⟨g,0,none⟩))) rfl (by kernel_rfl) (fun _ _ _ h=>h) hS (by kernel_rfl) (fun w' hw'=>by obtain⟨h0,h1,h2,h3⟩:=hw'; go_simp) ?_
          try simp only [Act.put,List.setIfInBounds_toArray,List.set_cons_zero,List.set_cons_succ]
          refine U_readC 12 [13,14,15,16,17] (v:=(.pointer (some ⟨g,0,none⟩))) rfl (by kernel_rfl) (fun _ _ _ h=>h) hS (by kernel_rfl) (fun w' hw'=>by obtain⟨h0,h1,h2,h3⟩:=hw'; go_simp) ?_
          try simp only [Act.put,List.setIfInBounds_toArray,List.set_cons_zero,List.set_cons_succ]
          refine U_readC 13 [14,15,16,17] (v:=(.pointer (some ⟨g,2,none⟩))) rfl (by kernel_rfl) (fun _ _ _ h=>h) hS (by kernel_rfl) (fun w' hw'=>by obtain⟨h0,h1,h2,h3⟩:=hw'; go_simp) ?_
          try simp only [Act.put,List.setIfInBounds_toArray,List.set_cons_zero,List.set_cons_succ]
          refine U_readC 14 [15,16,17] (v:=(.slice (some ⟨gr,0,none⟩) 64 p4.cr)) rfl (by kernel_rfl) (fun _ _ _ h=>h) hS (by kernel_rfl) (fun w' hw'=>by obtain⟨h0,h1,h2,h3⟩:=hw'; go_simp) ?_
          try simp only [Act.put,List.setIfInBounds_toArray,List.set_cons_zero,List.set_cons_succ]
          refine U_readC 15 [16,17] (v:=(.pointer (some ⟨gr,20,none⟩))) rfl (by kernel_rfl) (fun _ _ _ h=>h) hS (by kernel_rfl) (fun w' hw'=>by obtain⟨h0,h1,h2,h3⟩:=hw'; go_simp) ?_
          try simp only [Act.put,List.setIfInBounds_toArray,List.set_cons_zero,List.set_cons_succ]
          refine U_readC 16 [17] (v:=(.int .u32 (rc:Nat))) rfl (by kernel_rfl) (fun _ _ _ h=>h) hS (by kernel_rfl) (fun w' hw'=>by obtain⟨h0,h1,h2,h3⟩:=hw'; go_simp) ?_
          try simp only [Act.put,List.setIfInBounds_toArray,List.set_cons_zero,List.set_cons_succ]
          refine U_one 17 (by kernel_rfl) rfl rfl (fun K hK=>?_)
          go_simp
          refine HST.out.mono ?_
          rintro e w5 ⟨p5,rfl,L5,s5⟩
          have HC5:=Lib.hid (HC1.out.after L5 s5)
          clear L5 s5 HST HC1
          refine hK _ _ (fun h=>absurd h (by decide)) ?_
          clear hK K
          try simp only [Act.put,List.setIfInBounds_toArray,List.set_cons_zero,List.set_cons_succ]
          refine U_done (by kernel_rfl) ?_ _
          simp only [Calm,Exit.then]
          clear hS
          go_wp2_with fail
          go_roundw
          case rel=>exact⟨k+1,p5,by go_num,by omega,by rw [HW.out,HD2.out]; exact HC5.out⟩
          case measure=>simp [intOf]; omega
        ·obtain rfl:k=7:=by omega
         have hd:decide ((7:Int)<7)=false:=by decide
         have HC:=Lib.hid C
         clear C
         go_wp2_with fail
         go_ret
         exact⟨p4,_,by rw [HI.out]; rfl,HC.out.rl,HC.out.step,fun _=>by rw [HI.out]⟩
end
end
end Go.Proofs.YtdoahpflemgaeaaGreatDoor
