import Derived.Test.YtdoahpflemgaeaaGreatDoorJNAwF2
set_option linter.unusedVariables false
set_option linter.unusedSimpArgs false
namespace Go.Proofs.YtdoahpflemgaeaaGreatDoor
section
open Go.RowKit
attribute [local go_sem] Oper.semAt_some
def zeros22:Array Value:=Array.replicate 22 (.int .u32 0)
theorem mk22 (w:World):(Instr.makeSlice 55 (.int .i64 22) (.int .i64 22)).run Tryz.prog w = .ok (.slice (some ⟨w.heap.size,0,none⟩) 22 22) (w.alloc (.cells zeros22 38)):=by kernel_rfl
theorem zeros22_row (w:World):Row (w.alloc (.cells zeros22 38)) w.heap.size 38 22 (u32s (List.replicate 22 0)):=
 ⟨zeros22,Blk.new w _ _,by simp [u32s],by decide,by simp [zeros22],by simp [zeros22,u32s]⟩
section
variable {W w:World} {p:HP} {g b:Nat} {s:BS} (B:BAt W w p g b s)
include B
set_option maxRecDepth 100000 in
set_option maxHeartbeats 16000000 in
theorem bclasses_any:Calls Tryz.prog 13 #[.pointer (some ⟨b,0,none⟩)] w (BDone W p g b (bClasses s) (.tuple #[]) w):=by
 have HB:=Lib.hid B
 have HPL:=Lib.hid (kplans_any w)
 have HI:=Lib.hid (bClasses_eq s)
 clear B
 have hmk:=mk22
 go_enter Tryz.func13,Tryz.ntmps13
 go_wp2_with fail
 refine HPL.out.mono ?_
 rintro e w1 ⟨bp,rfl,hb1,hbp,HP1⟩
 go_wp2_with fail
 have hbz:Below w.heap.size w (w1.alloc (.cells zeros22 38)):=hb1.alloc hb1.size _
 have HC1:=Lib.hid (show ClsAt W w p (w1.alloc (.cells zeros22 38)) p g b s bp w1.heap.size (List.replicate 22 0) from
  have hl:∀ k,p.has k→k<w.heap.size:=fun k hk=>HB.out.live.at_.lt hk
  have hbA:Below w1.heap.size w1 (w1.alloc (.cells zeros22 38)):=(Below.refl _ _).alloc (Nat.le_refl _) _
  ⟨HB.out.below hbz,zeros22_row w1,fun q=>by have:=hl _ q; have:=hb1.size; omega,by have:=HB.out.blk.lt; have:=hb1.size; omega,by have:=HB.out.live.below.size; have:=hb1.size; omega,
    (HP1 p b hl (.inl HB.out.blk.lt)).below hbA,(HP1 p w1.heap.size hl (.inr (Nat.le_refl _))).below hbA,StepB.of_step (Step.of_below hbz),hb1.size⟩)
 clear hb1 hbp HP1 hbz HPL hmk HB
 generalize w1.alloc (.cells zeros22 38)=w2 at *
 generalize w1.heap.size=m at *
 go_loopw [20] (fun iv wr=>∃ (k:Nat) (p':HP),iv = .int .i64 k∧k≤22∧ClsAt W w p wr p' g b (pairsN s k).1 bp m ((pairsN s k).2++List.replicate (22-k) 0)∧∀ x∈(pairsN s k).2,x<4294967296) (fun iv _=>22-(intOf iv).toNat)
 case atStart=>exact⟨0,p,rfl,Nat.zero_le _,HC1.out,fun x hx=>by cases hx⟩
 case round=>
  clear HC1
  obtain⟨k,p1,rfl,hk,C,h32⟩:=hrel
  by_cases hkn:k<22
  ·have hd:decide ((k:Int)<22)=true:=by simp; omega
   have HSC:=Lib.hid (pairsN_succ s k)
   have HML:=Lib.hid (pairsN_len s k)
   generalize pairsN s k=q at *
   obtain⟨sk,ms⟩:=q
   simp only at C h32 HSC HML
   have hb0:Below wr.heap.size wr wr.drew:=below_drew (Below.refl _ _)
   have C0:=C.below hb0
   have HC0:=Lib.hid C0
   have HAL:=Lib.hid (balloc_any C0.at_ 6)
   have ho32:=bAlloc_lt C0.at_.live.fit 6
   have H32:=Lib.hid h32
   have hS0:wr.drew.cell? ⟨b,0,none⟩=some (.pointer (some ⟨g,0,none⟩))∧True:=⟨C0.at_.blk.cell 0,trivial⟩
   clear C C0 h32
   have HBR:=Lib.hid (show bRoot sk (10+k) 6=((bAlloc sk 6).1.1.setRootH (10+k) (bAlloc sk 6).2,(bAlloc sk 6).1.2) from rfl)
   generalize bAlloc sk 6=qa at *
   obtain⟨sa,oa⟩:=qa
   simp only at HAL ho32 HBR
   go_upto_region 5 with fail
   have hS:=hS0
   refine wp_region_U 8 (fun w'=>w'.cell? ⟨b,0,none⟩=some (.pointer (some ⟨g,0,none⟩))∧True) (by kernel_rfl) ?_
   refine U_readC 0 [1,2,3,8] (v:=(.pointer (some ⟨b,0,none⟩))) rfl (by kernel_rfl) (fun _ _ _ h=>h) hS (by kernel_rfl) (fun w' hw'=>by obtain⟨h0,h1⟩:=hw'; go_simp) ?_
   try simp only [Act.put,List.setIfInBounds_toArray,List.set_cons_zero,List.set_cons_succ]
   refine U_readC 1 [2,3,8] (v:=(.pointer (some ⟨b,0,none⟩))) rfl (by kernel_rfl) (fun _ _ _ h=>h) hS (by kernel_rfl) (fun w' hw'=>by obtain⟨h0,h1⟩:=hw'; go_simp) ?_
   try simp only [Act.put,List.setIfInBounds_toArray,List.set_cons_zero,List.set_cons_succ]
   refine U_readC 2 [3,8] (v:=(.pointer (some ⟨b,0,none⟩))) rfl (by kernel_rfl) (fun _ _ _ h=>h) hS (by kernel_rfl) (fun w' hw'=>by obtain⟨h0,h1⟩:=hw'; go_simp) ?_
   try simp only [Act.put,List.setIfInBounds_toArray,List.set_cons_zero,List.set_cons_succ]
   refine U_readC 3 [8] (v:=(.pointer (some ⟨g,0,none⟩))) rfl (by kernel_rfl) (fun _ _ _ h=>h) hS (by kernel_rfl) (fun w' hw'=>by obtain⟨h0,h1⟩:=hw'; go_simp) ?_
   try simp only [Act.put,List.setIfInBounds_toArray,List.set_cons_zero,List.set_cons_succ]
   refine U_readC 4 [5,8] (v:=(.int .i64 k)) rfl (by kernel_rfl) (fun _ _ _ h=>h) hS (by kernel_rfl) (fun w' hw'=>by obtain⟨h0,h1⟩:=hw'; go_simp) ?_
   try simp only [Act.put,List.setIfInBounds_toArray,List.set_cons_zero,List.set_cons_succ]
   refine U_readC 5 [8] (v:=(.int .i64 (10+k))) rfl (by kernel_rfl) (fun _ _ _ h=>h) hS (by kernel_rfl) (fun w' hw'=>by obtain⟨h0,h1⟩:=hw'; go_simp; exact IntWalk.i64_in _ (by omega)) ?_
   try simp only [Act.put,List.setIfInBounds_toArray,List.set_cons_zero,List.set_cons_succ]
   refine U_readC 6 [7,8] (v:=(.pointer (some ⟨b,0,none⟩))) rfl (by kernel_rfl) (fun _ _ _ h=>h) hS (by kernel_rfl) (fun w' hw'=>by obtain⟨h0,h1⟩:=hw'; go_simp) ?_
   try simp only [Act.put,List.setIfInBounds_toArray,List.set_cons_zero,List.set_cons_succ]
   refine U_one 7 (by kernel_rfl) rfl rfl (fun K hK=>?_)
   go_simp
   refine HAL.out.mono ?_
   rintro e w5 ⟨p2,rfl,B2,s2⟩
   have C2:=HC0.out.stepB B2 s2
   have HST:=Lib.hid (C2.at_.live.setRoot ((10+k:Nat):Int) oa ho32)
   have hS2:w5.cell? ⟨b,0,none⟩=some (.pointer (some ⟨g,0,none⟩))∧True:=⟨C2.at_.blk.cell 0,trivial⟩
   have HC2:=Lib.hid C2
   clear B2 s2 C2 HAL HC0 hS0
   refine hK _ _ (fun _=>hS2) ?_
   clear hK K
   try simp only [Act.put,List.setIfInBounds_toArray,List.set_cons_zero,List.set_cons_succ]
   clear hS
   have hS:=hS2
   refine U_one 8 (by kernel_rfl) rfl rfl (fun K hK=>?_)
   go_simp
   rw [show (10:Int)+(k:Int)=((10+k:Nat):Int) by omega]
   refine HST.out.mono ?_
   rintro e w6 ⟨p3,rfl,L3,s3⟩
   have HC3:=Lib.hid (HC2.out.after L3 s3)
   clear L3 s3 HC2 HST
   refine hK _ _ (fun h=>absurd h (by decide)) ?_
   clear hK K
   try simp only [Act.put,List.setIfInBounds_toArray,List.set_cons_zero,List.set_cons_succ]
   refine U_done (by kernel_rfl) ?_ _
   simp only [Calm,Exit.then]
   clear hS
   rw [show (HM.setRootH sa.1 ((10+k:Nat):Int) oa,sa.2)=bRoot sk (10+k) 6 from HBR.out.symm] at HC3
   have HAL:=Lib.hid (balloc_any HC3.out.at_ 6)
   have ho32b:=bAlloc_lt HC3.out.at_.live.fit 6
   clear HBR ho32
   generalize bRoot sk (10+k) 6=sr at *
   generalize bAlloc sr 6=qb at *
   obtain⟨sb,ob⟩:=qb
   simp only at HAL ho32b HSC
   go_wp2_with fail
   refine HAL.out.mono ?_
   rintro e w7 ⟨p4,rfl,B4,s4⟩
   have C4:=HC3.out.stepB B4 s4
   have c4:=C4.get (i:=k) (by rw [List.length_append,HML.out,List.length_replicate]; omega)
   have z4:=C4.row.frozen k
   have HC4:=Lib.hid (C4.set k ob)
   clear B4 s4 C4 HC3 HAL
   go_wp2_with fail
   go_roundw
   case rel=>
    refine⟨k+1,p4,by go_num,by omega,?_,?_⟩
    ·rw [HSC.out]
     have h1:=HC4.out
     rw [fill_set ms k 22 ob HML.out hkn] at h1
     exact h1
    ·rw [HSC.out]
     intro x hx
     rcases List.mem_append.1 hx with r | r
     ·exact H32.out x r
     ·rw [List.mem_singleton] at r; rw [r]; exact ho32b
   case measure=>simp [intOf]; omega
  ·obtain rfl:k=22:=by omega
   have hd:decide ((22:Int)<22)=false:=by decide
   have HML:=Lib.hid (pairsN_len s 22)
   generalize pairsN s 22=q at *
   obtain⟨⟨H,X⟩,ms⟩:=q
   simp only [Nat.sub_self,List.replicate_zero,List.append_nil] at C h32 HI HML
   have c1:=C.at_.blk.cell 1
   have HC:=Lib.hid C
   have H32:=Lib.hid h32
   clear C h32
   by_cases hX:X=0
   rotate_left
   ·have HI2:=Lib.hid (HI.out.trans (if_pos hX))
    have hne:((X:Int) != 0)=true:=by simp; omega
    have hnei:¬ ((X:Int)=0):=by omega
    clear HI hX H32 HML
    go_wp2_with fail
    refine bodyPost_end (v:=.tuple #[]) (by simp [results,Tryz.results13,go_sem]) rfl ?_
    rw [HI2.out]
    exact⟨p1,rfl,HC.out.at_,HC.out.step⟩
   subst hX
   have HI2:=Lib.hid (HI.out.trans (if_neg (fun q=>q rfl)))
   have HMG:=Lib.hid (fun i=>show ms.getD i 0<4294967296 from by
    rw [List.getD_eq_getElem?_getD]
    cases hq:ms[i]? with
    | none=>simp
    | some x=>exact H32.out x (List.mem_of_getElem? hq))
   clear HI H32
   go_wp2_with fail
   clear c1
   generalize hw3:wr=w3 at HC
   clear hw3 hd
   go_loopw [45] (fun iv wr=>∃ (k:Nat) (p':HP),iv = .int .i64 k∧k≤22∧ClsAt W w p wr p' g b (wireN ms H k,0) bp m ms) (fun iv _=>22-(intOf iv).toNat)
   case atStart=>exact⟨0,p1,rfl,Nat.zero_le _,HC.out⟩
   case round=>
    clear HC
    obtain⟨k,p2,rfl,hk,C⟩:=hrel
    by_cases hkn:k<22
    ·have hd:decide ((k:Int)<22)=true:=by simp; omega
     have hki:(k:Int)<22:=by omega
     have HW:=Lib.hid (wireN_succ ms H k)
     generalize wireN ms H k=h0 at *
     obtain⟨A,n,a0,a1,a2,a3,a4,a5,-,-⟩:=C.plans.at_ k hkn
     have HA5:=Lib.hid a5
     have HSU:=Lib.hid (show supI k=if (kRow k).sup=0 then -1 else ((kRow k).sup:Int) from rfl)
     have HFW:=Lib.hid (kRow_few k hkn)
     have HSP:=Lib.hid (kRow_sup k hkn)
     have HFX:=Lib.hid (fun (w1:World) (hb:Below wr.heap.size wr w1)=>kfixed_any ((C.plans).below hb) 3 k hkn (by unfold depK; split <;> (try split) <;> omega))
     have HC:=Lib.hid C
     clear C a5
     generalize hnm:txS (tx (kRow k).name)=nm at *
     have HNX:=Lib.hid (show fmtK (kRow k) k=(kRow k).fmt+8*fixK (10+k) 30+(if (kRow k).idx then 65536 else 0) from rfl)
     have HDK:=Lib.hid (show depK k<3 from by unfold depK; split <;> (try split) <;> omega)
     have HWD:=Lib.hid (show ∀ h',bWire ms h' (kRow k,k)=(let c:=h'.rt (10+k); let m:=ms.getD k 0; let h:=h'.putH c 4 (smN (fmtK (kRow k) k)); let h:=h.putH m 4 (smN 49); let h:=h.putH m 5 c; let h:=h.putH m 1 (h.rt 11); let h:=if (kRow k).sup=0 then h else (h.putH c 1 (h.rt (kRow k).sup)).putH m 1 (ms.getD ((kRow k).sup-10) 0); let h:=h.setClassH c m; h.setClassH m (h.rt 12)) from fun _=>rfl)
     have hfm:(kRow k).fmt≤4:=HFW.out.2.2
     have hfx:fixK (10+k) 30≤30:=HFW.out.2.1
     generalize supI k=su at *
     generalize hfe:fixK (10+k) 30=fx at *
     have HFE:=Lib.hid hfe
     generalize fmtK (kRow k) k=nx at *
     generalize (kRow k).fmt=fm at *
     generalize (kRow k).idx=ix at *
     generalize (kRow k).sup=sp at *
     clear hnm hfe HFW
     go_upto_region 12 with fail
     have HK:=Lib.hid (ClsB.of HC.out ((Below.refl _ _).alloc (Nat.le_refl _) (.cells #[.string nm,.int .i64 su,.int .i64 fm,.bool ix,.slice A n n] 84)) (Nat.le_refl _) (Blk.new wr 84 #[.string nm,.int .i64 su,.int .i64 fm,.bool ix,.slice A n n]))
     clear HC a0 a1 a2 a3 a4
     generalize (wr.alloc (.cells #[.string nm,.int .i64 su,.int .i64 fm,.bool ix,.slice A n n] 84))=w4 at *
     generalize wr.heap.size=b6 at *
     have hc32:h0.rt (10+k)<4294967296:=HK.out.cl.at_.live.fit.root _
     have hm32:=HMG.out k
     have hkl:k<ms.length:=by rw [HML.out]; exact hkn
     have HK1:=Lib.hid (HK.out.below (below_drew (Below.refl _ _)))
     have HCL:=Lib.hid (bclass_any HK1.out.cl.at_ (10+k) (by omega))
     simp only at HCL
     rw [show ((10+k:Nat):Int)=10+(k:Int) by omega] at HCL
     have hS0:=And.intro (HK1.out.cl.get hkl) trivial
     obtain⟨c,hce⟩ :∃ c,c=h0.rt (10+k):=⟨_,rfl⟩
     obtain⟨mm,hme⟩ :∃ mm,mm=ms.getD k 0:=⟨_,rfl⟩
     have HCE:=Lib.hid (And.intro hce hme)
     rw [← hce] at HCL hc32
     rw [← hme] at hS0 hm32
     clear hce hme HK hkl
     have hS:=hS0
     refine wp_region_U 9 (fun w'=>w'.cell? ⟨m,k,none⟩=some (.int .u32 (mm:Nat))∧True) (by kernel_rfl) ?_
     refine U_readC 0 [3,8,9] (v:=(.pointer (some ⟨b,0,none⟩))) rfl (by kernel_rfl) (fun _ _ _ h=>h) hS (by kernel_rfl) (fun w' hw'=>by obtain⟨h0,h1⟩:=hw'; go_simp) ?_
     try simp only [Act.put,List.setIfInBounds_toArray,List.set_cons_zero,List.set_cons_succ]
     refine U_readC 1 [2,3,8,9] (v:=(.int .i64 k)) rfl (by kernel_rfl) (fun _ _ _ h=>h) hS (by kernel_rfl) (fun w' hw'=>by obtain⟨h0,h1⟩:=hw'; go_simp) ?_
     try simp only [Act.put,List.setIfInBounds_toArray,List.set_cons_zero,List.set_cons_succ]
     refine U_readC 2 [3,8,9] (v:=(.int .i64 (10+k))) rfl (by kernel_rfl) (fun _ _ _ h=>h) hS (by kernel_rfl) (fun w' hw'=>by obtain⟨h0,h1⟩:=hw'; go_simp; exact IntWalk.i64_in _ (by omega)) ?_
     try simp only [Act.put,List.setIfInBounds_toArray,List.set_cons_zero,List.set_cons_succ]
     refine U_readC 4 [6,7,9] (v:=(.slice (some ⟨m,0,none⟩) 22 22)) rfl (by kernel_rfl) (fun _ _ _ h=>h) hS (by kernel_rfl) (fun w' hw'=>by obtain⟨h0,h1⟩:=hw'; go_simp) ?_
     try simp only [Act.put,List.setIfInBounds_toArray,List.set_cons_zero,List.set_cons_succ]
     refine U_readC 5 [6,7,9] (v:=(.int .i64 k)) rfl (by kernel_rfl) (fun _ _ _ h=>h) hS (by kernel_rfl) (fun w' hw'=>by obtain⟨h0,h1⟩:=hw'; go_simp) ?_
     try simp only [Act.put,List.setIfInBounds_toArray,List.set_cons_zero,List.set_cons_succ]
     refine U_readC 6 [7,9] (v:=(.pointer (some ⟨m,k,none⟩))) rfl (by kernel_rfl) (fun _ _ _ h=>h) hS (by kernel_rfl) (fun w' hw'=>by obtain⟨h0,h1⟩:=hw'; go_simp) ?_
     try simp only [Act.put,List.setIfInBounds_toArray,List.set_cons_zero,List.set_cons_succ]
     refine U_readC 7 [9] (v:=(.int .u32 (mm:Nat))) rfl (by kernel_rfl) (fun _ _ _ h=>h) hS (by kernel_rfl) (fun w' hw'=>by obtain⟨h0,h1⟩:=hw'; go_simp) ?_
     try simp only [Act.put,List.setIfInBounds_toArray,List.set_cons_zero,List.set_cons_succ]
     refine U_one 3 (by kernel_rfl) rfl rfl (fun K hK=>?_)
     go_simp
     refine HCL.out.mono ?_
     rintro e w5 ⟨rfl,rfl⟩
     refine hK _ _ (fun _=>hS) ?_
     clear hK K
     try simp only [Act.put,List.setIfInBounds_toArray,List.set_cons_zero,List.set_cons_succ]
     refine U_one 8 (by kernel_rfl) rfl rfl (fun K hK=>?_)
     go_simp
     refine hK _ _ (fun _=>hS) ?_
     clear hK K
     try simp only [Act.put,List.setIfInBounds_toArray,List.set_cons_zero,List.set_cons_succ]
     refine U_one 9 (by kernel_rfl) rfl rfl (fun K hK=>?_)
     go_simp
     refine hK _ _ (fun h=>absurd h (by decide)) ?_
     clear hK K
     try simp only [Act.put,List.setIfInBounds_toArray,List.set_cons_zero,List.set_cons_succ]
     refine U_done (by kernel_rfl) ?_ _
     simp only [Calm,Exit.then]
     clear hS hS0 HCL
     go_upto_region 13 with fail
     have HK2:=Lib.hid (HK1.out.below (below_drew (Below.refl _ _)))
     clear HK1
     have HFX:=Lib.hid (kfixed_any HK2.out.cl.plans 3 k hkn HDK.out)
     rw [HFE.out] at HFX
     have HWR:=Lib.hid (fun w'=>kwritten_any w' fm fx ix hfm (by omega))
     have hnx:nx≤66000:=by rw [HNX.out]; split <;> omega
     rw [show fm+8*fx+(if ix=true then 65536 else 0)=nx from HNX.out.symm] at HWR
     have HSM:=Lib.hid (fun w'=>ksmall_any nx (by omega) w')
     have hsm:smN nx<4294967296:=by unfold smN; omega
     have hS:w4.drew.drew.cell? ⟨b6,2,none⟩=some (.int .i64 (fm:Nat))∧w4.drew.drew.cell? ⟨b6,3,none⟩=some (.bool ix):=⟨HK2.out.bx.cell 2,HK2.out.bx.cell 3⟩
     refine wp_region_U 14 (fun w'=>w'.cell? ⟨b6,2,none⟩=some (.int .i64 (fm:Nat))∧w'.cell? ⟨b6,3,none⟩=some (.bool ix)) (by kernel_rfl) ?_
     refine U_readC 0 [1,7,8,9,10,11,13,14] (v:=(.pointer (some ⟨b6,2,none⟩))) rfl (by kernel_rfl) (fun _ _ _ h=>h) hS (by kernel_rfl) (fun w' hw'=>by obtain⟨h0,h1⟩:=hw'; go_simp) ?_
     try simp only [Act.put,List.setIfInBounds_toArray,List.set_cons_zero,List.set_cons_succ]
     refine U_readC 1 [7,8,9,10,11,13,14] (v:=(.int .i64 (fm:Nat))) rfl (by kernel_rfl) (fun _ _ _ h=>h) hS (by kernel_rfl) (fun w' hw'=>by obtain⟨h0,h1⟩:=hw'; go_simp) ?_
     try simp only [Act.put,List.setIfInBounds_toArray,List.set_cons_zero,List.set_cons_succ]
     refine U_readC 2 [4,7,8,9,10,11,13,14] (v:=(.slice (some ⟨bp,0,none⟩) 22 22)) rfl (by kernel_rfl) (fun _ _ _ h=>h) hS (by kernel_rfl) (fun w' hw'=>by obtain⟨h0,h1⟩:=hw'; go_simp) ?_
     try simp only [Act.put,List.setIfInBounds_toArray,List.set_cons_zero,List.set_cons_succ]
     refine U_readC 3 [4,7,8,9,10,11,13,14] (v:=(.int .i64 k)) rfl (by kernel_rfl) (fun _ _ _ h=>h) hS (by kernel_rfl) (fun w' hw'=>by obtain⟨h0,h1⟩:=hw'; go_simp) ?_
     try simp only [Act.put,List.setIfInBounds_toArray,List.set_cons_zero,List.set_cons_succ]
     refine U_readC 5 [6,7,8,9,10,11,13,14] (v:=(.pointer (some ⟨b6,3,none⟩))) rfl (by kernel_rfl) (fun _ _ _ h=>h) hS (by kernel_rfl) (fun w' hw'=>by obtain⟨h0,h1⟩:=hw'; go_simp) ?_
     try simp only [Act.put,List.setIfInBounds_toArray,List.set_cons_zero,List.set_cons_succ]
     refine U_readC 6 [7,8,9,10,11,13,14] (v:=(.bool ix)) rfl (by kernel_rfl) (fun _ _ _ h=>h) hS (by kernel_rfl) (fun w' hw'=>by obtain⟨h0,h1⟩:=hw'; go_simp) ?_
     try simp only [Act.put,List.setIfInBounds_toArray,List.set_cons_zero,List.set_cons_succ]
     refine U_one 4 (by kernel_rfl) rfl rfl (fun K hK=>?_)
     go_simp
     refine HFX.out.mono ?_
     rintro e w6 ⟨rfl,rfl⟩
     refine hK _ _ (fun _=>hS) ?_
     clear hK K
     try simp only [Act.put,List.setIfInBounds_toArray,List.set_cons_zero,List.set_cons_succ]
     refine U_one 7 (by kernel_rfl) rfl rfl (fun K hK=>?_)
     go_simp
     refine hK _ _ (fun _=>hS) ?_
     clear hK K
     try simp only [Act.put,List.setIfInBounds_toArray,List.set_cons_zero,List.set_cons_succ]
     refine U_one 8 (by kernel_rfl) rfl rfl (fun K hK=>?_)
     go_simp
     refine (HWR.out _).mono ?_
     rintro e w7 ⟨rfl,hb7⟩
     have HK3:=Lib.hid (HK2.out.below hb7)
     have hS7:w7.cell? ⟨b6,2,none⟩=some (.int .i64 (fm:Nat))∧w7.cell? ⟨b6,3,none⟩=some (.bool ix):=⟨HK3.out.bx.cell 2,HK3.out.bx.cell 3⟩
     refine hK _ _ (fun _=>hS7) ?_
     clear hK K
     try simp only [Act.put,List.setIfInBounds_toArray,List.set_cons_zero,List.set_cons_succ]
     clear hS
     have hS:=hS7
     refine U_one 9 (by kernel_rfl) rfl rfl (fun K hK=>?_)
     go_simp
     refine (HSM.out _).mono ?_
     rintro e w8 ⟨rfl,rfl⟩
     refine hK _ _ (fun _=>hS) ?_
     clear hK K
     try simp only [Act.put,List.setIfInBounds_toArray,List.set_cons_zero,List.set_cons_succ]
     refine U_one 10 (by kernel_rfl) rfl rfl (fun K hK=>?_)
     go_simp
     refine hK _ _ (fun _=>hS) ?_
     clear hK K
     try simp only [Act.put,List.setIfInBounds_toArray,List.set_cons_zero,List.set_cons_succ]
     refine U_readC 11 [13,14] (v:=(.int .u32 (smN nx:Nat))) rfl (by kernel_rfl) (fun _ _ _ h=>h) hS (by kernel_rfl) (fun w' hw'=>by obtain⟨h0,h1⟩:=hw'; go_simp) ?_
     try simp only [Act.put,List.setIfInBounds_toArray,List.set_cons_zero,List.set_cons_succ]
     refine U_readC 12 [14] (v:=(.int .i64 0)) rfl (by kernel_rfl) (fun _ _ _ h=>h) hS (by kernel_rfl) (fun w' hw'=>by obtain⟨h0,h1⟩:=hw'; go_simp) ?_
     try simp only [Act.put,List.setIfInBounds_toArray,List.set_cons_zero,List.set_cons_succ]
     refine U_one 13 (by kernel_rfl) rfl rfl (fun K hK=>?_)
     go_simp
     refine hK _ _ (fun _=>hS) ?_
     clear hK K
     try simp only [Act.put,List.setIfInBounds_toArray,List.set_cons_zero,List.set_cons_succ]
     refine U_one 14 (by kernel_rfl) rfl rfl (fun K hK=>?_)
     go_simp
     refine hK _ _ (fun h=>absurd h (by decide)) ?_
     clear hK K
     try simp only [Act.put,List.setIfInBounds_toArray,List.set_cons_zero,List.set_cons_succ]
     refine U_done (by kernel_rfl) ?_ _
     simp only [Calm,Exit.then]
     clear hS HFX HWR HSM HK2 HFE HNX HDK hfx hfm hnx
     generalize hsn:smN nx=sn at *
     clear hsn
     have hc4:=HK3.out.cl.at_.blk.cell 0
     have HPT:=Lib.hid (HK3.out.cl.at_.live.put c hc32 (4:Int) sn hsm)
     have HW49:=Lib.hid (fun w'=>show Calls Tryz.prog 42 #[.agg #[.int .i64 1,.int .i64 6,.bool false]] w' (Told (.int .i64 49) w') from kwritten_any w' 1 6 false (by omega) (by omega))
     have HS49:=Lib.hid (fun w'=>show Calls Tryz.prog 41 #[.int .i64 49] w' (Said (.tuple #[.int .u32 99,.int .i64 0]) w') from ksmall_any 49 (by omega) w')
     go_wp2_with fail
     refine HPT.out.mono ?_
     rintro e w8 ⟨p8,rfl,L8,s8⟩
     have HK4:=Lib.hid (HK3.out.after L8 s8)
     obtain⟨h1,hh⟩ :∃ h1,h1=h0.putH c (4:Int) sn:=⟨_,rfl⟩
     have HH1:=Lib.hid hh
     rw [← hh] at HK4
     clear hh L8 s8 HPT HK3 hc4
     go_wp2_with fail
     refine (HW49.out _).mono ?_
     rintro e w9 ⟨rfl,hb9⟩
     have HK5:=Lib.hid (HK4.out.below hb9)
     clear hb9 HK4 HW49
     go_wp2_with fail
     refine (HS49.out _).mono ?_
     rintro e w10 ⟨rfl,rfl⟩
     have c0:=HK5.out.cl.at_.blk.cell 0
     have HPT:=Lib.hid (HK5.out.cl.at_.live.put mm hm32 (4:Int) 99 (by omega))
     clear HS49
     go_wp2_with fail
     refine HPT.out.mono ?_
     rintro e w11 ⟨p9,rfl,L9,s9⟩
     have HK6:=Lib.hid (HK5.out.after L9 s9)
     obtain⟨h2,hh⟩ :∃ h2,h2=h1.putH mm (4:Int) 99:=⟨_,rfl⟩
     have HH2:=Lib.hid hh
     try simp only at HK6
     rw [← hh] at HK6
     clear hh L9 s9 HPT HK5 c0
     have c0:=HK6.out.cl.at_.blk.cell 0
     have HPT:=Lib.hid (HK6.out.cl.at_.live.put mm hm32 (5:Int) c hc32)
     go_wp2_with fail
     refine HPT.out.mono ?_
     rintro e w12 ⟨p10,rfl,L10,s10⟩
     have HK7:=Lib.hid (HK6.out.after L10 s10)
     obtain⟨h3,hh⟩ :∃ h3,h3=h2.putH mm (5:Int) c:=⟨_,rfl⟩
     have HH3:=Lib.hid hh
     try simp only at HK7
     rw [← hh] at HK7
     clear hh L10 s10 HPT HK6 c0
     go_upto_region 18 with fail
     have HK8:=Lib.hid (HK7.out.below (below_drew (Below.refl _ _)))
     clear HK7
     have HCL:=Lib.hid (bclass_any HK8.out.cl.at_ 11 (by omega))
     have h11:h3.rt 11<4294967296:=HK8.out.cl.at_.live.fit.root 11
     have HPT:=Lib.hid (HK8.out.cl.at_.live.put mm hm32 (1:Int) (h3.rt 11) h11)
     have hS:w12.drew.cell? ⟨b,0,none⟩=some (.pointer (some ⟨g,0,none⟩))∧True:=⟨HK8.out.cl.at_.blk.cell 0,trivial⟩
     obtain⟨r11,hh⟩ :∃ r,r=h3.rt 11:=⟨_,rfl⟩
     have HR11:=Lib.hid hh
     simp only at HCL
     rw [← hh] at HCL HPT
     clear hh h11
     refine wp_region_U 7 (fun w'=>w'.cell? ⟨b,0,none⟩=some (.pointer (some ⟨g,0,none⟩))∧True) (by kernel_rfl) ?_
     refine U_readC 0 [1,2,3,7] (v:=(.pointer (some ⟨b,0,none⟩))) rfl (by kernel_rfl) (fun _ _ _ h=>h) hS (by kernel_rfl) (fun w' hw'=>by obtain⟨h0,h1⟩:=hw'; go_simp) ?_
     try simp only [Act.put,List.setIfInBounds_toArray,List.set_cons_zero,List.set_cons_succ]
     refine U_readC 1 [2,3,7] (v:=(.pointer (some ⟨b,0,none⟩))) rfl (by kernel_rfl) (fun _ _ _ h=>h) hS (by kernel_rfl) (fun w' hw'=>by obtain⟨h0,h1⟩:=hw'; go_simp) ?_
     try simp only [Act.put,List.setIfInBounds_toArray,List.set_cons_zero,List.set_cons_succ]
     refine U_readC 2 [3,7] (v:=(.pointer (some ⟨b,0,none⟩))) rfl (by kernel_rfl) (fun _ _ _ h=>h) hS (by kernel_rfl) (fun w' hw'=>by obtain⟨h0,h1⟩:=hw'; go_simp) ?_
     try simp only [Act.put,List.setIfInBounds_toArray,List.set_cons_zero,List.set_cons_succ]
     refine U_readC 3 [7] (v:=(.pointer (some ⟨g,0,none⟩))) rfl (by kernel_rfl) (fun _ _ _ h=>h) hS (by kernel_rfl) (fun w' hw'=>by obtain⟨h0,h1⟩:=hw'; go_simp) ?_
     try simp only [Act.put,List.setIfInBounds_toArray,List.set_cons_zero,List.set_cons_succ]
     refine U_readC 4 [7] (v:=(.int .u32 (mm:Nat))) rfl (by kernel_rfl) (fun _ _ _ h=>h) hS (by kernel_rfl) (fun w' hw'=>by obtain⟨h0,h1⟩:=hw'; go_simp) ?_
     try simp only [Act.put,List.setIfInBounds_toArray,List.set_cons_zero,List.set_cons_succ]
     refine U_readC 5 [6,7] (v:=(.pointer (some ⟨b,0,none⟩))) rfl (by kernel_rfl) (fun _ _ _ h=>h) hS (by kernel_rfl) (fun w' hw'=>by obtain⟨h0,h1⟩:=hw'; go_simp) ?_
     try simp only [Act.put,List.setIfInBounds_toArray,List.set_cons_zero,List.set_cons_succ]
     refine U_one 6 (by kernel_rfl) rfl rfl (fun K hK=>?_)
     go_simp
     refine HCL.out.mono ?_
     rintro e w13 ⟨rfl,rfl⟩
     refine hK _ _ (fun _=>hS) ?_
     clear hK K
     try simp only [Act.put,List.setIfInBounds_toArray,List.set_cons_zero,List.set_cons_succ]
     refine U_one 7 (by kernel_rfl) rfl rfl (fun K hK=>?_)
     go_simp
     refine HPT.out.mono ?_
     rintro e w14 ⟨p11,rfl,L11,s11⟩
     have HK9:=Lib.hid (HK8.out.after L11 s11)
     obtain⟨h4,hh⟩ :∃ h4,h4=h3.putH mm (1:Int) r11:=⟨_,rfl⟩
     have HH4:=Lib.hid hh
     try simp only at HK9
     rw [← hh] at HK9
     clear hh L11 s11 HPT
     refine hK _ _ (fun h=>absurd h (by decide)) ?_
     clear hK K
     try simp only [Act.put,List.setIfInBounds_toArray,List.set_cons_zero,List.set_cons_succ]
     refine U_done (by kernel_rfl) ?_ _
     simp only [Calm,Exit.then]
     clear hS HK8 HCL
     have o1:=HK9.out.bx.cell 1
     by_cases hs:sp=0
     ·have hsu:su = -1:=by rw [HSU.out,if_pos hs]
      subst hsu
      have HSZ:=Lib.hid hs
      have HNX2:=Lib.hid (show smN 0=1 from rfl)
      clear HSU HSP hs
      have c0:=HK9.out.cl.at_.blk.cell 0
      have HPT:=Lib.hid (HK9.out.cl.at_.live.setClass c hc32 mm hm32)
      go_wp2_with fail
      refine HPT.out.mono ?_
      rintro e w20 ⟨p20,rfl,L20,s20⟩
      have HKA:=Lib.hid (HK9.out.after L20 s20)
      obtain⟨h7,hh⟩ :∃ h7,h7=h4.setClassH c mm:=⟨_,rfl⟩
      have HH7:=Lib.hid hh
      try simp only at HKA
      rw [← hh] at HKA
      clear hh L20 s20 HPT HK9 c0
      have HOF:=Lib.hid (bof_any HKA.out.cl.at_ mm hm32 12 (by omega))
      go_wp2_with fail
      refine HOF.out.mono ?_
      rintro e w21 ⟨p21,rfl,B21,s21⟩
      have HKB:=Lib.hid (HKA.out.cl.stepB B21 s21)
      clear B21 s21 HOF HKA
      go_wp2_with fail
      go_roundw
      case rel=>
       refine⟨k+1,p21,by go_num,by omega,?_⟩
       have h1:=HKB.out
       have he:wireN ms H (k+1)=h7.setClassH mm (h7.rt 12):=by
        rw [HW.out,HWD.out]
        try simp only
        rw [← HCE.out.1,← HCE.out.2,show smN 49=99 from rfl]
        rw [if_pos HSZ.out,HH7.out,HH4.out,HR11.out,HH3.out,HH2.out,HH1.out]
       rw [he]
       exact h1
      case measure=>simp [intOf]; omega
     ·obtain⟨q1,q2,-⟩:=HSP.out.resolve_left hs
      have hsu:su=(sp:Int):=by rw [HSU.out,if_neg hs]
      subst hsu
      have HSZ:=Lib.hid hs
      have hgd:decide ((sp:Int)≥0)=true:=decide_eq_true (by omega)
      have hgd2:decide (0≤(sp:Int))=true:=decide_eq_true (by omega)
      clear HSU HSP hs
      go_upto_region 20 with fail
      obtain⟨sj,hsj⟩ :∃ sj,sj=sp-10:=⟨_,rfl⟩
      have HSJ:=Lib.hid (show (sp:Int)-10=(sj:Int)∧sj=sp-10∧10≤sp∧sp<32 from⟨by omega,hsj,q1,q2⟩)
      have hsj22:sj<22:=by omega
      have hsji:(sj:Int)<22:=by omega
      clear hsj q1 q2
      have HKC:=Lib.hid (HK9.out.below (below_drew (Below.refl _ _)))
      clear HK9 o1
      have HCL:=Lib.hid (bclass_any HKC.out.cl.at_ sp (by have:=HSJ.out.2.2.2; omega))
      have hrs:=HKC.out.cl.at_.live.fit.root sp
      have HPT:=Lib.hid (HKC.out.cl.at_.live.put c hc32 (1:Int) (h4.rt sp) hrs)
      have hS:w14.drew.cell? ⟨b,0,none⟩=some (.pointer (some ⟨g,0,none⟩))∧w14.drew.cell? ⟨b6,1,none⟩=some (.int .i64 (sp:Nat)):=⟨HKC.out.cl.at_.blk.cell 0,HKC.out.bx.cell 1⟩
      obtain⟨rs,hh⟩ :∃ r,r=h4.rt sp:=⟨_,rfl⟩
      have HRS:=Lib.hid hh
      simp only at HCL
      rw [← hh] at HCL HPT
      clear hh hrs
      refine wp_region_U 9 (fun w'=>w'.cell? ⟨b,0,none⟩=some (.pointer (some ⟨g,0,none⟩))∧w'.cell? ⟨b6,1,none⟩=some (.int .i64 (sp:Nat))) (by kernel_rfl) ?_
      refine U_readC 0 [1,2,3,9] (v:=(.pointer (some ⟨b,0,none⟩))) rfl (by kernel_rfl) (fun _ _ _ h=>h) hS (by kernel_rfl) (fun w' hw'=>by obtain⟨h0,h1⟩:=hw'; go_simp) ?_
      try simp only [Act.put,List.setIfInBounds_toArray,List.set_cons_zero,List.set_cons_succ]
      refine U_readC 1 [2,3,9] (v:=(.pointer (some ⟨b,0,none⟩))) rfl (by kernel_rfl) (fun _ _ _ h=>h) hS (by kernel_rfl) (fun w' hw'=>by obtain⟨h0,h1⟩:=hw'; go_simp) ?_
      try simp only [Act.put,List.setIfInBounds_toArray,List.set_cons_zero,List.set_cons_succ]
      refine U_readC 2 [3,9] (v:=(.pointer (some ⟨b,0,none⟩))) rfl (by kernel_rfl) (fun _ _ _ h=>h) hS (by kernel_rfl) (fun w' hw'=>by obtain⟨h0,h1⟩:=hw'; go_simp) ?_
      try simp only [Act.put,List.setIfInBounds_toArray,List.set_cons_zero,List.set_cons_succ]
      refine U_readC 3 [9] (v:=(.pointer (some ⟨g,0,none⟩))) rfl (by kernel_rfl) (fun _ _ _ h=>h) hS (by kernel_rfl) (fun w' hw'=>by obtain⟨h0,h1⟩:=hw'; go_simp) ?_
      try simp only [Act.put,List.setIfInBounds_toArray,List.set_cons_zero,List.set_cons_succ]
      refine U_readC 4 [9] (v:=(.int .u32 (c:Nat))) rfl (by kernel_rfl) (fun _ _ _ h=>h) hS (by kernel_rfl) (fun w' hw'=>by obtain⟨h0,h1⟩:=hw'; go_simp) ?_
      try simp only [Act.put,List.setIfInBounds_toArray,List.set_cons_zero,List.set_cons_succ]
      refine U_readC 5 [8,9] (v:=(.pointer (some ⟨b,0,none⟩))) rfl (by kernel_rfl) (fun _ _ _ h=>h) hS (by kernel_rfl) (fun w' hw'=>by obtain⟨h0,h1⟩:=hw'; go_simp) ?_
      try simp only [Act.put,List.setIfInBounds_toArray,List.set_cons_zero,List.set_cons_succ]
      refine U_readC 6 [7,8,9] (v:=(.pointer (some ⟨b6,1,none⟩))) rfl (by kernel_rfl) (fun _ _ _ h=>h) hS (by kernel_rfl) (fun w' hw'=>by obtain⟨h0,h1⟩:=hw'; go_simp) ?_
      try simp only [Act.put,List.setIfInBounds_toArray,List.set_cons_zero,List.set_cons_succ]
      refine U_readC 7 [8,9] (v:=(.int .i64 (sp:Nat))) rfl (by kernel_rfl) (fun _ _ _ h=>h) hS (by kernel_rfl) (fun w' hw'=>by obtain⟨h0,h1⟩:=hw'; go_simp) ?_
      try simp only [Act.put,List.setIfInBounds_toArray,List.set_cons_zero,List.set_cons_succ]
      refine U_one 8 (by kernel_rfl) rfl rfl (fun K hK=>?_)
      go_simp
      refine HCL.out.mono ?_
      rintro e w15 ⟨rfl,rfl⟩
      refine hK _ _ (fun _=>hS) ?_
      clear hK K
      try simp only [Act.put,List.setIfInBounds_toArray,List.set_cons_zero,List.set_cons_succ]
      refine U_one 9 (by kernel_rfl) rfl rfl (fun K hK=>?_)
      go_simp
      refine HPT.out.mono ?_
      rintro e w16 ⟨p12,rfl,L12,s12⟩
      have HKD:=Lib.hid (HKC.out.after L12 s12)
      obtain⟨h5,hh⟩ :∃ h5,h5=h4.putH c (1:Int) rs:=⟨_,rfl⟩
      have HH5:=Lib.hid hh
      try simp only at HKD
      rw [← hh] at HKD
      clear hh L12 s12 HPT
      refine hK _ _ (fun h=>absurd h (by decide)) ?_
      clear hK K
      try simp only [Act.put,List.setIfInBounds_toArray,List.set_cons_zero,List.set_cons_succ]
      refine U_done (by kernel_rfl) ?_ _
      simp only [Calm,Exit.then]
      clear hS HKC HCL
      go_upto_region 21 with fail
      have HKE:=Lib.hid (HKD.out.below (below_drew (Below.refl _ _)))
      clear HKD
      have hm2:=HMG.out sj
      have hg2:=HKE.out.cl.get (i:=sj) (by rw [HML.out]; exact hsj22)
      obtain⟨m2,hh⟩ :∃ r,r=ms.getD sj 0:=⟨_,rfl⟩
      have HM2:=Lib.hid hh
      rw [← hh] at hm2 hg2
      have HPT:=Lib.hid (HKE.out.cl.at_.live.put mm hm32 (1:Int) m2 hm2)
      have hS:w16.drew.cell? ⟨b,0,none⟩=some (.pointer (some ⟨g,0,none⟩))∧w16.drew.cell? ⟨b6,1,none⟩=some (.int .i64 (sp:Nat))∧w16.drew.cell? ⟨m,sj,none⟩=some (.int .u32 (m2:Nat)):=⟨HKE.out.cl.at_.blk.cell 0,HKE.out.bx.cell 1,hg2⟩
      clear hh hg2
      refine wp_region_U 11 (fun w'=>w'.cell? ⟨b,0,none⟩=some (.pointer (some ⟨g,0,none⟩))∧w'.cell? ⟨b6,1,none⟩=some (.int .i64 (sp:Nat))∧w'.cell? ⟨m,sj,none⟩=some (.int .u32 (m2:Nat))) (by kernel_rfl) ?_
      refine U_readC 0 [1,2,3,11] (v:=(.pointer (some ⟨b,0,none⟩))) rfl (by kernel_rfl) (fun _ _ _ h=>h) hS (by kernel_rfl) (fun w' hw'=>by obtain⟨h0,h1,h2⟩:=hw'; go_simp) ?_
      try simp only [Act.put,List.setIfInBounds_toArray,List.set_cons_zero,List.set_cons_succ]
      refine U_readC 1 [2,3,11] (v:=(.pointer (some ⟨b,0,none⟩))) rfl (by kernel_rfl) (fun _ _ _ h=>h) hS (by kernel_rfl) (fun w' hw'=>by obtain⟨h0,h1,h2⟩:=hw'; go_simp) ?_
      try simp only [Act.put,List.setIfInBounds_toArray,List.set_cons_zero,List.set_cons_succ]
      refine U_readC 2 [3,11] (v:=(.pointer (some ⟨b,0,none⟩))) rfl (by kernel_rfl) (fun _ _ _ h=>h) hS (by kernel_rfl) (fun w' hw'=>by obtain⟨h0,h1,h2⟩:=hw'; go_simp) ?_
      try simp only [Act.put,List.setIfInBounds_toArray,List.set_cons_zero,List.set_cons_succ]
      refine U_readC 3 [11] (v:=(.pointer (some ⟨g,0,none⟩))) rfl (by kernel_rfl) (fun _ _ _ h=>h) hS (by kernel_rfl) (fun w' hw'=>by obtain⟨h0,h1,h2⟩:=hw'; go_simp) ?_
      try simp only [Act.put,List.setIfInBounds_toArray,List.set_cons_zero,List.set_cons_succ]
      refine U_readC 4 [11] (v:=(.int .u32 (mm:Nat))) rfl (by kernel_rfl) (fun _ _ _ h=>h) hS (by kernel_rfl) (fun w' hw'=>by obtain⟨h0,h1,h2⟩:=hw'; go_simp) ?_
      try simp only [Act.put,List.setIfInBounds_toArray,List.set_cons_zero,List.set_cons_succ]
      refine U_readC 5 [9,10,11] (v:=(.slice (some ⟨m,0,none⟩) 22 22)) rfl (by kernel_rfl) (fun _ _ _ h=>h) hS (by kernel_rfl) (fun w' hw'=>by obtain⟨h0,h1,h2⟩:=hw'; go_simp) ?_
      try simp only [Act.put,List.setIfInBounds_toArray,List.set_cons_zero,List.set_cons_succ]
      refine U_readC 6 [7,8,9,10,11] (v:=(.pointer (some ⟨b6,1,none⟩))) rfl (by kernel_rfl) (fun _ _ _ h=>h) hS (by kernel_rfl) (fun w' hw'=>by obtain⟨h0,h1,h2⟩:=hw'; go_simp) ?_
      try simp only [Act.put,List.setIfInBounds_toArray,List.set_cons_zero,List.set_cons_succ]
      refine U_readC 7 [8,9,10,11] (v:=(.int .i64 (sp:Nat))) rfl (by kernel_rfl) (fun _ _ _ h=>h) hS (by kernel_rfl) (fun w' hw'=>by obtain⟨h0,h1,h2⟩:=hw'; go_simp) ?_
      try simp only [Act.put,List.setIfInBounds_toArray,List.set_cons_zero,List.set_cons_succ]
      refine U_readC 8 [9,10,11] (v:=(.int .i64 (sj:Nat))) rfl (by kernel_rfl) (fun _ _ _ h=>h) hS (by kernel_rfl) (fun w' hw'=>by obtain⟨h0,h1,h2⟩:=hw'; go_simp; exact (IntWalk.i64_in _ (by have:=HSJ.out; omega)).trans HSJ.out.1) ?_
      try simp only [Act.put,List.setIfInBounds_toArray,List.set_cons_zero,List.set_cons_succ]
      refine U_readC 9 [10,11] (v:=(.pointer (some ⟨m,sj,none⟩))) rfl (by kernel_rfl) (fun _ _ _ h=>h) hS (by kernel_rfl) (fun w' hw'=>by obtain⟨h0,h1,h2⟩:=hw'; go_simp) ?_
      try simp only [Act.put,List.setIfInBounds_toArray,List.set_cons_zero,List.set_cons_succ]
      refine U_readC 10 [11] (v:=(.int .u32 (m2:Nat))) rfl (by kernel_rfl) (fun _ _ _ h=>h) hS (by kernel_rfl) (fun w' hw'=>by obtain⟨h0,h1,h2⟩:=hw'; go_simp) ?_
      try simp only [Act.put,List.setIfInBounds_toArray,List.set_cons_zero,List.set_cons_succ]
      refine U_one 11 (by kernel_rfl) rfl rfl (fun K hK=>?_)
      go_simp
      refine HPT.out.mono ?_
      rintro e w17 ⟨p13,rfl,L13,s13⟩
      have HKF:=Lib.hid (HKE.out.after L13 s13)
      obtain⟨h6,hh⟩ :∃ h6,h6=h5.putH mm (1:Int) m2:=⟨_,rfl⟩
      have HH6:=Lib.hid hh
      try simp only at HKF
      rw [← hh] at HKF
      clear hh L13 s13 HPT
      refine hK _ _ (fun h=>absurd h (by decide)) ?_
      clear hK K
      try simp only [Act.put,List.setIfInBounds_toArray,List.set_cons_zero,List.set_cons_succ]
      refine U_done (by kernel_rfl) ?_ _
      simp only [Calm,Exit.then]
      clear hS HKE
      have c0:=HKF.out.cl.at_.blk.cell 0
      have HPT:=Lib.hid (HKF.out.cl.at_.live.setClass c hc32 mm hm32)
      go_wp2_with fail
      refine HPT.out.mono ?_
      rintro e w20 ⟨p20,rfl,L20,s20⟩
      have HKA:=Lib.hid (HKF.out.after L20 s20)
      obtain⟨h7,hh⟩ :∃ h7,h7=h6.setClassH c mm:=⟨_,rfl⟩
      have HH7:=Lib.hid hh
      try simp only at HKA
      rw [← hh] at HKA
      clear hh L20 s20 HPT HKF c0
      have HOF:=Lib.hid (bof_any HKA.out.cl.at_ mm hm32 12 (by omega))
      go_wp2_with fail
      refine HOF.out.mono ?_
      rintro e w21 ⟨p21,rfl,B21,s21⟩
      have HKB:=Lib.hid (HKA.out.cl.stepB B21 s21)
      clear B21 s21 HOF HKA
      go_wp2_with fail
      go_roundw
      case rel=>
       refine⟨k+1,p21,by go_num,by omega,?_⟩
       have h1:=HKB.out
       have he:wireN ms H (k+1)=h7.setClassH mm (h7.rt 12):=by
        rw [HW.out,HWD.out]
        try simp only
        rw [← HCE.out.1,← HCE.out.2,show smN 49=99 from rfl]
        rw [if_neg HSZ.out,HH7.out,HH6.out,HH5.out,HRS.out,HM2.out,HH4.out,HR11.out,HH3.out,HH2.out,HH1.out,HSJ.out.2.1]
       rw [he]
       exact h1
      case measure=>simp [intOf]; omega
    ·obtain rfl:k=22:=by omega
     have hd:decide ((22:Int)<22)=false:=by decide
     have HC:=Lib.hid C
     clear C HMG HML
     generalize wireN ms H 22=h0 at *
     rw [show ((22:Nat):Int)=22 from rfl]
     go_wp2_with fail
     generalize hw3:wr=w3 at HC
     clear hw3 hd
     go_loopw [142] (fun iv wr=>∃ (k:Nat) (p':HP),iv = .int .i64 k∧k≤3∧ClsAt W w p wr p' g b (clsN h0 k,0) bp m ms) (fun iv _=>3-(intOf iv).toNat)
     case atStart=>exact⟨0,p2,rfl,Nat.zero_le _,HC.out⟩
     case round=>
      clear HC
      obtain⟨k,p3,rfl,hk,C⟩:=hrel
      by_cases hkn:k<3
      ·have hd:decide ((k:Int)<3)=true:=by simp; omega
       have HW:=Lib.hid (clsN_succ h0 k)
       generalize clsN h0 k=h1 at *
       have HC:=Lib.hid C
       clear C
       have HRT:=Lib.hid (kroot_any HC.out.at_.live k)
       have hr32:=HC.out.at_.live.fit.root k
       have HOF:=Lib.hid (bof_any HC.out.at_ (h1.rt k) hr32 (13+k) (by omega))
       simp only at HOF HRT
       rw [rootN_rt h1 (by omega)] at HRT
       rw [show ((13+k:Nat):Int)=13+(k:Int) by omega] at HOF
       have hc0:=HC.out.at_.blk.cell 0
       clear hr32
       obtain⟨rk,hh⟩ :∃ r,r=h1.rt k:=⟨_,rfl⟩
       have HRK:=Lib.hid hh
       rw [← hh] at HRT HOF
       clear hh
       go_wp2_with fail
       refine HRT.out.mono ?_
       rintro e w5 ⟨rfl,rfl⟩
       go_wp2_with fail
       refine HOF.out.mono ?_
       rintro e w6 ⟨p4,rfl,B4,s4⟩
       have HC2:=Lib.hid (HC.out.stepB B4 s4)
       clear B4 s4 HC HOF HRT hc0
       go_wp2_with fail
       go_roundw
       case rel=>
        refine⟨k+1,p4,by go_num,by omega,?_⟩
        rw [HW.out,← HRK.out]
        exact HC2.out
       case measure=>simp [intOf]; omega
      ·obtain rfl:k=3:=by omega
       have hd:decide ((3:Int)<3)=false:=by decide
       generalize hcn:clsN h0 3=h1 at *
       rw [show ((3:Nat):Int)=3 from rfl]
       go_wp2_with fail
       have HBA:=Lib.hid (Blk.new wr 3 #[.int .i64 3,.int .i64 4,.int .i64 6,.int .i64 8])
       have HC:=Lib.hid (C.below ((Below.refl _ _).alloc (Nat.le_refl _) (.cells #[.int .i64 3,.int .i64 4,.int .i64 6,.int .i64 8] 3)))
       have HBO:=Lib.hid (show ¬ p3.has wr.heap.size∧wr.heap.size≠b from⟨fun q=>by have:=C.at_.live.at_.lt q; omega,by have:=C.at_.blk.lt; omega⟩)
       clear C hd hcn
       generalize wr.alloc (.cells #[.int .i64 3,.int .i64 4,.int .i64 6,.int .i64 8] 3)=w4 at *
       generalize wr.heap.size=ba at *
       go_loopw [158] (fun iv wr=>∃ (k:Nat) (p':HP),iv = .int .i64 k∧k≤4∧ClsAt W w p wr p' g b (arcN h1 k,0) bp m ms∧Blk wr ba 3 #[.int .i64 3,.int .i64 4,.int .i64 6,.int .i64 8]∧¬ p'.has ba∧ba≠b) (fun iv _=>4-(intOf iv).toNat)
       case atStart=>exact⟨0,p3,rfl,Nat.zero_le _,HC.out,HBA.out,HBO.out.1,HBO.out.2⟩
       case round=>
        clear HC HBA HBO
        obtain⟨k,p3,rfl,hk,C,BA,bo,bn⟩:=hrel
        by_cases hkn:k<4
        ·have hd:decide ((k:Int)<4)=true:=by simp; omega
         have hki:(k:Int)<4:=by omega
         have HW:=Lib.hid (arcN_succ h1 k)
         have hcell:wr.cell? ⟨ba,k,none⟩=some (.int .i64 ((arrI k:Nat):Int)):=by
          rcases (by omega:k=0∨k=1∨k=2∨k=3) with rfl | rfl | rfl | rfl
          ·exact BA.cell 0
          ·exact BA.cell 1
          ·exact BA.cell 2
          ·exact BA.cell 3
         have hi64:arrI k<64:=by
          rcases (by omega:k=0∨k=1∨k=2∨k=3) with rfl | rfl | rfl | rfl <;> decide
         generalize arrI k=ai at *
         generalize arcN h1 k=h2 at *
         have HC:=Lib.hid C
         have HBA:=Lib.hid BA
         have HBO:=Lib.hid (And.intro bo bn)
         clear C BA bo bn
         have HRT:=Lib.hid (kroot_any HC.out.at_.live ai)
         have hr32:=HC.out.at_.live.fit.root ai
         have HOF:=Lib.hid (bof_any HC.out.at_ (h2.rt ai) hr32 20 (by omega))
         simp only at HOF HRT
         rw [rootN_rt h2 hi64] at HRT
         have hc0:=HC.out.at_.blk.cell 0
         clear hr32
         obtain⟨rk,hh⟩ :∃ r,r=h2.rt ai:=⟨_,rfl⟩
         have HRK:=Lib.hid hh
         rw [← hh] at HRT HOF
         clear hh
         go_wp2_with fail
         refine HRT.out.mono ?_
         rintro e w5 ⟨rfl,rfl⟩
         go_wp2_with fail
         refine HOF.out.mono ?_
         rintro e w6 ⟨p4,rfl,B4,s4⟩
         have HC2:=Lib.hid (HC.out.stepB B4 s4)
         have HBA2:=Lib.hid (HBA.out.same (s4.block ba HBA.out.lt HBO.out.1 HBO.out.2))
         have HBO2:=Lib.hid (show ¬ p4.has ba from fun q=>by rcases s4.rows ba q with r | r; exact HBO.out.1 r; have:=HBA.out.lt; omega)
         clear B4 s4 HC HOF HBA HRT hc0 hcell
         go_wp2_with fail
         go_roundw
         case rel=>
          refine⟨k+1,p4,by go_num,by omega,?_,HBA2.out,HBO2.out,HBO.out.2⟩
          rw [HW.out,← HRK.out]
          exact HC2.out
         case measure=>simp [intOf]; omega
        ·obtain rfl:k=4:=by omega
         have hd:decide ((4:Int)<4)=false:=by decide
         have HC:=Lib.hid C
         clear C BA
         go_wp2_with fail
         refine bodyPost_end (v:=.tuple #[]) (by simp [results,Tryz.results13,go_sem]) rfl ?_
         rw [HI2.out]
         exact⟨p3,rfl,HC.out.at_,HC.out.step⟩
end
end
end Go.Proofs.YtdoahpflemgaeaaGreatDoor
