import Derived.Test.YtdoahpflemgaeaaGreatDoorJNRdH
import Derived.Test.YtdoahpflemgaeaaGreatDoorJNRdL
import Derived.Test.YtdoahpflemgaeaaGreatDoorJNBnG
set_option linter.unusedVariables false
set_option linter.unusedSimpArgs false
set_option linter.unusedSectionVars false
namespace Go.Proofs.YtdoahpflemgaeaaGreatDoor
section
open Go.RowKit
attribute [local go_sem] Oper.semAt_some
theorem dboot_bad (n:Int) (hn:n<64∨1048576<n) (w:World):Calls Tryz.prog 5 #[.int .i64 n] w (Told (.tuple #[.pointer none,.int .i64 1]) w):=by
 have HN:=Lib.hid (rnew_bad n hn w)
 go_enter Tryz.func5,Tryz.ntmps5
 go_wp2_with fail
 refine HN.out.mono ?_
 rintro e w1 ⟨rfl,rfl⟩
 go_wp2_with fail
 go_ret2
 exact⟨rfl,Below.refl _ _⟩
theorem nameFin_split {h:HM} {o i c:Nat} {t:List Nat} (hc:h.rt i=c):nameFin h o i t=(((h.putH c 0 o).setGloK t c).1,((h.putH c 0 o).setGloK t c).2.2):=nameFin_eq hc
theorem bI (h:HM) (t:List Nat):bIntern (h,0) t=(((h.internK t).1,(h.internK t).2.2),(h.internK t).2.1):=rfl
theorem selN_stop2 (s:BS) (k:Nat) (h:(selN s k).2≠0):∀ j,(selN s (k+j)).2=(selN s k).2
 | 0=>rfl
 | j+1=>by rw [← Nat.add_assoc,selN_succ,bSel_stop (by rw [selN_stop2 s k h j]; exact h),selN_stop2 s k h j]
theorem ownN_stop2 (s:BS) (k:Nat) (h:(ownN s k).2≠0):∀ j,ownN s (k+j)=ownN s k
 | 0=>rfl
 | j+1=>by rw [← Nat.add_assoc,ownN_succ,ownN_stop2 s k h j,bOwn_stop h]
set_option maxRecDepth 100000 in
set_option maxHeartbeats 16000000 in
theorem dboot_any (n:Nat) (h1:64≤n) (h2:n≤1048576) (w:World) (hK:(dBones (HM.new n,0)).2=0→KInv (dBones (HM.new n,0)).1):Calls Tryz.prog 5 #[.int .i64 n] w (DBootP n w):=by
 have HN:=Lib.hid (rnew_any n h1 h2 w)
 have HLN:=Lib.hid (show ∃ l,(HM.new n).Good l from⟨[],HM.new_good h1 h2 (HM.new_fit h1 h2)⟩)
 have HI:=Lib.hid (show dbootK n=namesB (dBones (HM.new n,0)) from rfl)
 have HKI:=Lib.hid hK
 clear h1 h2 hK
 generalize HM.new n=hn at *
 go_enter Tryz.func5,Tryz.ntmps5
 go_wp2_with fail
 refine HN.out.mono ?_
 rintro e w1 ⟨p0,rfl,R0,hnew,hb1⟩
 obtain⟨g,hg⟩ :∃ g,g=p0.g:=⟨_,rfl⟩
 have HL0:=Lib.hid (show RL w1 p0 g hn from⟨R0,hg.symm,HLN.out⟩)
 have HNW:=Lib.hid (And.intro hnew hb1)
 unfold ptr
 rw [← hg]
 clear R0 hnew hb1 hg HN HLN
 have HRW:=Lib.hid (drows_any w1)
 go_wp2_with fail
 refine HRW.out.mono ?_
 rintro e w2 ⟨br,rfl,hb2,hbr,HPP⟩
 have HRA:=Lib.hid (HPP p0 (fun k hk=>HL0.out.at_.lt hk))
 have HL2:=Lib.hid (HL0.out.below hb2)
 have HBN:=Lib.hid (dbones_any HL2.out br HRA.out)
 have HB2:=Lib.hid (below_top HNW.out.2 hb2)
 have HBF:=Lib.hid (fun (p':HP) (w':World) (s:Step p0 p' w2 w')=>show Below w.heap.size w w' from s.below HB2.out (fun k hk=>HNW.out.1 k hk))
 clear HPP hb2 hbr HRW HL0 HNW
 go_wp2_with fail
 refine HBN.out.mono ?_
 rintro e w3 ⟨p3,h3,rfl,L3,s3,hq3⟩
 obtain⟨⟨hD,E⟩,hde⟩ :∃ q,dBones (hn,0)=q:=⟨_,rfl⟩
 rw [hde] at HKI HI hq3 ⊢
 clear hde HBN HL2
 simp only at HKI hq3 ⊢
 have HQ3:=Lib.hid hq3
 by_cases hE:E=0
 rotate_left
 ·have hne:((E:Int) != 0)=true:=by simp; omega
  have hnei:¬ ((E:Int)=0):=by omega
  have HF:=Lib.hid (show DBootP n w (.returned (.tuple #[.pointer none,.int .i64 4])) w3 from⟨HBF.out _ _ s3,by
   have e1:(dbootK n).2≠0:=by
    rw [HI.out]
    have:=namesB_stop (hD,E) (k:=0) (by omega) (show (nameN (hD,E) 0).2≠0 from hE)
    rw [this]
    exact hE
   rw [if_neg e1]⟩)
  clear HKI hq3 hE L3 s3 HQ3
  go_wp2_with fail
  go_ret2
  exact HF.out
 subst hE
 obtain rfl:=HQ3.out rfl
 have HK3:=Lib.hid (HKI.out rfl)
 have HC:=Lib.hid (show RL w3 p3 g h3∧Step p0 p3 w2 w3∧RowsAt p3 w3 br from⟨L3,s3,HRA.out.step s3⟩)
 clear HKI hq3 L3 s3 HQ3 HRA
 rw [show ((0:Nat):Int)=0 from rfl]
 go_wp2_with fail
 go_loopw [6] (fun iv wr=>∃ (k:Nat) (p':HP),iv = .int .i64 k∧k≤22∧RL wr p' g (nameN (h3,0) k).1∧(nameN (h3,0) k).2=0∧KInv (nameN (h3,0) k).1∧Step p0 p' w2 wr∧RowsAt p' wr br) (fun iv _=>22-(intOf iv).toNat)
 case atStart=>exact⟨0,p3,rfl,Nat.zero_le _,HC.out.1,rfl,HK3.out,HC.out.2.1,HC.out.2.2⟩
 case round=>
  clear HC HK3
  obtain⟨k,p4,rfl,hk,L4,h0,K4,s4,R4⟩:=hrel
  by_cases hkn:k<22
  ·have hd:decide ((k:Int)<22)=true:=by simp; omega
   have hki:(k:Int)<22:=by omega
   have HW:=Lib.hid (nameN_succ (h3,0) k)
   have HST:=Lib.hid (fun h=>namesB_stop (h3,0) (k:=k+1) (by omega) h)
   obtain⟨hk0,hkk⟩ :∃ x,x=(nameN (h3,0) k).1:=⟨_,rfl⟩
   have hke:nameN (h3,0) k=(hk0,0):=Prod.ext hkk.symm h0
   rw [hke] at HW
   rw [← hkk] at L4 K4
   clear hkk hke h0
   obtain⟨A,nf,a0,-,-,-,-,-,-⟩:=R4.at_ k hkn
   have hln:=name_len k hkn
   have htl:=tx_lt (kRow k).name
   have HBE:=Lib.hid (fun (h:HM) (E o:Nat) hq hE=>bName_err (s:=(hk0,0)) (x:=(kRow k,k)) (h:=h) (E:=E) (o:=o) hq hE)
   have HBO:=Lib.hid (fun (h:HM) (o:Nat) hq=>bName_ok (s:=(hk0,0)) (x:=(kRow k,k)) (h:=h) (o:=o) hq)
   try simp only at HBE HBO
   obtain⟨t,htE⟩ :∃ t,tx (kRow k).name=t:=⟨_,rfl⟩
   have HTE:=Lib.hid htE
   rw [htE] at a0 hln htl HBE HBO
   clear htE
   have HIN:=Lib.hid (dintern_any L4 t htl (by omega) K4.bare K4.p3)
   have HKI:=Lib.hid (K4.intern htl)
   have HTL:=Lib.hid (And.intro htl hln)
   have HBI:=Lib.hid (bI hk0 t)
   have HR4:=Lib.hid (And.intro s4 R4)
   have ho32:(hk0.internK t).2.1<4294967296:=by obtain⟨l,G⟩:=K4.good; exact intern_lt G t
   clear L4 K4 s4 R4 htl hln
   obtain⟨nm,hnm⟩ :∃ nm,nm=txS t:=⟨_,rfl⟩
   have HTX:=Lib.hid hnm
   rw [← hnm] at a0 HIN
   clear hnm
   obtain⟨⟨hi,oi,E⟩,hqi⟩ :∃ q,hk0.internK t=q:=⟨_,rfl⟩
   rw [hqi] at HIN HKI HBI ho32
   simp only at HKI HBI ho32
   clear hqi
   go_wp2_with fail
   refine HIN.out.mono ?_
   rintro e w5 ⟨p5,h5,o5,rfl,L5,s5,hq5⟩
   have HL5:=Lib.hid L5
   have HR5:=Lib.hid (And.intro (HR4.out.1.trans s5) (HR4.out.2.step s5))
   have HQ5:=Lib.hid hq5
   clear L5 s5 hq5 HIN HR4 a0
   simp only at HQ5
   by_cases hE:E=0
   rotate_left
   ·have hne:((E:Int) != 0)=true:=by simp; omega
    have hneq:((E:Int) == 0)=false:=by simp; omega
    have hnei:¬ ((E:Int)=0):=by omega
    have HF:=Lib.hid (show DBootP n w (.returned (.tuple #[.pointer none,.int .i64 4])) w5 from⟨HBF.out _ _ HR5.out.1,by
     have e0:nameN (h3,0) (k+1)=(hi,E):=HW.out.trans (HBE.out hi E oi HBI.out hE)
     have e1:(dbootK n).2≠0:=by
      rw [HI.out,HST.out (by rw [e0]; exact hE),e0]
      exact hE
     rw [if_neg e1]⟩)
    clear HW HST HBE HBO HBI HQ5 hE HKI
    go_wp2_with fail
    go_ret2
    exact HF.out
   obtain⟨rfl,rfl⟩:=HQ5.out hE
   subst hE
   have HB2:=Lib.hid (HBO.out h5 o5 HBI.out)
   obtain⟨c2,cr0⟩:=HL5.out.rootsP
   have ek:=cr0 (10+k) (by omega)
   have hc32:h5.rt (10+k)<4294967296:=HL5.out.fit.root (10+k)
   have HPT:=Lib.hid (HL5.out.put (h5.rt (10+k)) hc32 (0:Int) (by omega) o5 ho32)
   obtain⟨c,hc⟩ :∃ c,c=h5.rt (10+k):=⟨_,rfl⟩
   have HCE:=Lib.hid hc
   rw [← hc] at ek HPT hc32
   have HB3:=Lib.hid (HB2.out.trans (nameFin_split hc.symm))
   have HKP:=Lib.hid (show KInv (h5.putH c (0:Int) o5) from HKI.out.put _ _ _ ho32)
   have HRC:=Lib.hid (show (h5.putH c (0:Int) o5).rt (10+k)=c from by rw [put_rt]; exact hc.symm)
   have hwr:IntKind.i64.wrap (10+(k:Int))=10+(k:Int):=IntWalk.i64_in _ (by omega)
   clear hc cr0 HBE HBO HBI HQ5 HB2
   rw [show ((0:Nat):Int)=0 from rfl]
   go_wp2_with fail
   refine HPT.out.mono ?_
   rintro e w6 ⟨p6,rfl,L6,s6⟩
   have HL6:=Lib.hid (L6.below (below_drew (Below.refl _ _)))
   have HR6:=Lib.hid (And.intro ((HR5.out.1.trans s6).below' (below_drew (Below.refl _ _))) ((HR5.out.2.step s6).below (below_drew (Below.refl _ _))))
   clear L6 s6 HPT HR5 HL5 c2 ek hwr
   generalize h5.putH c (0:Int) o5=h6 at *
   go_upto_region 13 with fail
   have hvc:h6.valB c=true:=by have:=HKP.out.cls k hkn; rw [HRC.out] at this; exact isB_valB (sizK_of this).1
   have HSG:=Lib.hid (dsetGlobal_any HL6.out t c HTL.out.1 (by have:=HTL.out.2; omega) hc32 HKP.out.bare HKP.out.p3 HKP.out.p4 hvc)
   rw [← HTX.out] at HSG
   have HKG:=Lib.hid (HKP.out.setGlo (t:=t) (v:=c) HTL.out.1 hc32)
   obtain⟨A',nf',b0,-,-,-,-,-,-⟩:=HR6.out.2.at_ k hkn
   rw [HTE.out,← HTX.out] at b0
   obtain⟨c2,cr0⟩:=HL6.out.rootsP
   have ek:=cr0 (10+k) (by omega)
   rw [HRC.out] at ek
   obtain⟨gr,hgr⟩ :∃ x,x=p6.gr:=⟨_,rfl⟩
   rw [← hgr] at c2 ek
   have hS:w6.drew.cell? ⟨g,2,none⟩=some (.slice (some ⟨gr,0,none⟩) 64 p6.cr)∧w6.drew.cell? ⟨gr,10+k,none⟩=some (.int .u32 (c:Nat))∧w6.drew.cell? ⟨br,k*5,none⟩=some (.string nm):=⟨c2,ek,b0⟩
   clear hgr c2 cr0 ek b0 hvc HKP
   obtain⟨⟨h8,o8,E8⟩,hq8⟩ :∃ q,h6.setGloK t c=q:=⟨_,rfl⟩
   rw [hq8] at HSG HKG HB3
   simp only at HKG HB3
   clear hq8
   go_cut [8] (fun v8 wx=>v8 = .int .i64 (E8:Nat)∧∃ p9 h9,RL wx p9 g h9∧Step p0 p9 w2 wx∧RowsAt p9 wx br∧(E8=0→h9=h8))
   case first=>
    refine wp_region_U 14 (fun w'=>w'.cell? ⟨g,2,none⟩=some (.slice (some ⟨gr,0,none⟩) 64 p6.cr)∧w'.cell? ⟨gr,10+k,none⟩=some (.int .u32 (c:Nat))∧w'.cell? ⟨br,k*5,none⟩=some (.string nm)) (by kernel_rfl) ?_
    refine U_readC 0 [14,15,16,18] (v:=(.pointer (some ⟨g,0,none⟩))) rfl (by kernel_rfl) (fun _ _ _ h=>h) hS (by kernel_rfl) (fun w' hw'=>by obtain⟨h0,h1,h2⟩:=hw'; go_simp) ?_
    try simp only [Act.put,List.setIfInBounds_toArray,List.set_cons_zero,List.set_cons_succ]
    refine U_readC 1 [3,4,5,14,15,16,18] (v:=(.slice (some ⟨br,0,none⟩) 22 22)) rfl (by kernel_rfl) (fun _ _ _ h=>h) hS (by kernel_rfl) (fun w' hw'=>by obtain⟨h0,h1,h2⟩:=hw'; go_simp) ?_
    try simp only [Act.put,List.setIfInBounds_toArray,List.set_cons_zero,List.set_cons_succ]
    refine U_readC 2 [3,4,5,14,15,16,18] (v:=(.int .i64 k)) rfl (by kernel_rfl) (fun _ _ _ h=>h) hS (by kernel_rfl) (fun w' hw'=>by obtain⟨h0,h1,h2⟩:=hw'; go_simp) ?_
    try simp only [Act.put,List.setIfInBounds_toArray,List.set_cons_zero,List.set_cons_succ]
    refine U_readC 3 [4,5,14,15,16,18] (v:=(.pointer (some ⟨br,k*5,none⟩))) rfl (by kernel_rfl) (fun _ _ _ h=>h) hS (by kernel_rfl) (fun w' hw'=>by obtain⟨h0,h1,h2⟩:=hw'; go_simp) ?_
    try simp only [Act.put,List.setIfInBounds_toArray,List.set_cons_zero,List.set_cons_succ]
    refine U_readC 4 [5,14,15,16,18] (v:=(.pointer (some ⟨br,k*5,none⟩))) rfl (by kernel_rfl) (fun _ _ _ h=>h) hS (by kernel_rfl) (fun w' hw'=>by obtain⟨h0,h1,h2⟩:=hw'; go_simp) ?_
    try simp only [Act.put,List.setIfInBounds_toArray,List.set_cons_zero,List.set_cons_succ]
    refine U_readC 5 [14,15,16,18] (v:=(.string nm)) rfl (by kernel_rfl) (fun _ _ _ h=>h) hS (by kernel_rfl) (fun w' hw'=>by obtain⟨h0,h1,h2⟩:=hw'; go_simp) ?_
    try simp only [Act.put,List.setIfInBounds_toArray,List.set_cons_zero,List.set_cons_succ]
    refine U_readC 6 [7,8,9,12,13,14,15,16,18] (v:=(.pointer (some ⟨g,0,none⟩))) rfl (by kernel_rfl) (fun _ _ _ h=>h) hS (by kernel_rfl) (fun w' hw'=>by obtain⟨h0,h1,h2⟩:=hw'; go_simp) ?_
    try simp only [Act.put,List.setIfInBounds_toArray,List.set_cons_zero,List.set_cons_succ]
    refine U_readC 7 [8,9,12,13,14,15,16,18] (v:=(.pointer (some ⟨g,0,none⟩))) rfl (by kernel_rfl) (fun _ _ _ h=>h) hS (by kernel_rfl) (fun w' hw'=>by obtain⟨h0,h1,h2⟩:=hw'; go_simp) ?_
    try simp only [Act.put,List.setIfInBounds_toArray,List.set_cons_zero,List.set_cons_succ]
    refine U_readC 8 [9,12,13,14,15,16,18] (v:=(.pointer (some ⟨g,2,none⟩))) rfl (by kernel_rfl) (fun _ _ _ h=>h) hS (by kernel_rfl) (fun w' hw'=>by obtain⟨h0,h1,h2⟩:=hw'; go_simp) ?_
    try simp only [Act.put,List.setIfInBounds_toArray,List.set_cons_zero,List.set_cons_succ]
    refine U_readC 9 [12,13,14,15,16,18] (v:=(.slice (some ⟨gr,0,none⟩) 64 p6.cr)) rfl (by kernel_rfl) (fun _ _ _ h=>h) hS (by kernel_rfl) (fun w' hw'=>by obtain⟨h0,h1,h2⟩:=hw'; go_simp) ?_
    try simp only [Act.put,List.setIfInBounds_toArray,List.set_cons_zero,List.set_cons_succ]
    refine U_readC 10 [11,12,13,14,15,16,18] (v:=(.int .i64 k)) rfl (by kernel_rfl) (fun _ _ _ h=>h) hS (by kernel_rfl) (fun w' hw'=>by obtain⟨h0,h1,h2⟩:=hw'; go_simp) ?_
    try simp only [Act.put,List.setIfInBounds_toArray,List.set_cons_zero,List.set_cons_succ]
    refine U_readC 11 [12,13,14,15,16,18] (v:=(.int .i64 (10+k))) rfl (by kernel_rfl) (fun _ _ _ h=>h) hS (by kernel_rfl) (fun w' hw'=>by obtain⟨h0,h1,h2⟩:=hw'; go_simp; exact IntWalk.i64_in _ (by omega)) ?_
    try simp only [Act.put,List.setIfInBounds_toArray,List.set_cons_zero,List.set_cons_succ]
    refine U_readC 12 [13,14,15,16,18] (v:=(.pointer (some ⟨gr,10+k,none⟩))) rfl (by kernel_rfl) (fun _ _ _ h=>h) hS (by kernel_rfl) (fun w' hw'=>by obtain⟨h0,h1,h2⟩:=hw'; go_simp; rw [if_pos ⟨by omega,by omega⟩,show (10+(k:Int)).toNat=10+k by omega]) ?_
    try simp only [Act.put,List.setIfInBounds_toArray,List.set_cons_zero,List.set_cons_succ]
    refine U_readC 13 [14,15,16,18] (v:=(.int .u32 (c:Nat))) rfl (by kernel_rfl) (fun _ _ _ h=>h) hS (by kernel_rfl) (fun w' hw'=>by obtain⟨h0,h1,h2⟩:=hw'; go_simp) ?_
    try simp only [Act.put,List.setIfInBounds_toArray,List.set_cons_zero,List.set_cons_succ]
    refine U_one 14 (by kernel_rfl) rfl rfl (fun K hK=>?_)
    go_simp
    refine HSG.out.mono ?_
    rintro e w9 ⟨p9,h9,o9,rfl,L9,s9,hq9⟩
    have HF9:=Lib.hid (show ∃ p9 h9,RL w9 p9 g h9∧Step p0 p9 w2 w9∧RowsAt p9 w9 br∧(E8=0→h9=h8) from⟨p9,h9,L9,HR6.out.1.trans s9,HR6.out.2.step s9,fun q=>(hq9 q).1⟩)
    clear L9 s9 hq9 HSG HR6 HL6 hS
    refine hK _ _ (fun h=>absurd h (by decide)) ?_
    clear hK K
    try simp only [Act.put,List.setIfInBounds_toArray,List.set_cons_zero,List.set_cons_succ]
    refine U_one 15 (by kernel_rfl) rfl rfl (fun K hK=>?_)
    go_simp
    refine hK _ _ (fun h=>absurd h (by decide)) ?_
    clear hK K
    try simp only [Act.put,List.setIfInBounds_toArray,List.set_cons_zero,List.set_cons_succ]
    refine U_two 16 17 (by kernel_rfl) rfl rfl rfl rfl (fun K hK=>?_) (fun K hK=>?_)
    ·go_simp
     refine hK _ _ (fun h=>absurd h (by decide)) ?_
     clear hK K
     try simp only [Act.put,List.setIfInBounds_toArray,List.set_cons_zero,List.set_cons_succ]
     refine U_one 17 (by kernel_rfl) rfl rfl (fun K hK=>?_)
     go_simp
     refine hK _ _ (fun h=>absurd h (by decide)) ?_
     clear hK K
     try simp only [Act.put,List.setIfInBounds_toArray,List.set_cons_zero,List.set_cons_succ]
     refine U_one 18 (by kernel_rfl) rfl rfl (fun K hK=>?_)
     go_simp
     refine hK _ _ (fun h=>absurd h (by decide)) ?_
     clear hK K
     try simp only [Act.put,List.setIfInBounds_toArray,List.set_cons_zero,List.set_cons_succ]
     refine U_done (by kernel_rfl) ?_ _
     simp only [Calm,Exit.then]
     go_wp2_with fail
     go_meet
     exact⟨rfl,HF9.out⟩
    ·go_simp
     refine hK _ _ (fun h=>absurd h (by decide)) ?_
     clear hK K
     try simp only [Act.put,List.setIfInBounds_toArray,List.set_cons_zero,List.set_cons_succ]
     refine U_one 16 (by kernel_rfl) rfl rfl (fun K hK=>?_)
     go_simp
     refine hK _ _ (fun h=>absurd h (by decide)) ?_
     clear hK K
     try simp only [Act.put,List.setIfInBounds_toArray,List.set_cons_zero,List.set_cons_succ]
     refine U_one 18 (by kernel_rfl) rfl rfl (fun K hK=>?_)
     go_simp
     refine hK _ _ (fun h=>absurd h (by decide)) ?_
     clear hK K
     try simp only [Act.put,List.setIfInBounds_toArray,List.set_cons_zero,List.set_cons_succ]
     refine U_done (by kernel_rfl) ?_ _
     simp only [Calm,Exit.then]
     go_wp2_with fail
     go_meet
     exact⟨rfl,HF9.out⟩
   case rest=>
    obtain⟨rfl,p9,h9,L9,s9,R9,hq9⟩:=hcut
    clear HSG HR6 HL6 hS
    have HQ9:=Lib.hid hq9
    have HC9:=Lib.hid (And.intro L9 (And.intro s9 R9))
    clear L9 s9 R9 hq9
    by_cases hE8:E8=0
    rotate_left
    ·have hne:((E8:Int) != 0)=true:=by simp; omega
     have hnei:¬ ((E8:Int)=0):=by omega
     have HF:=Lib.hid (show DBootP n w (.returned (.tuple #[.pointer none,.int .i64 4])) wc from⟨HBF.out _ _ HC9.out.2.1,by
      have e0:nameN (h3,0) (k+1)=(h8,E8):=HW.out.trans HB3.out
      have e1:(dbootK n).2≠0:=by
       rw [HI.out,HST.out (by rw [e0]; exact hE8),e0]
       exact hE8
      rw [if_neg e1]⟩)
     clear HW HST HB3 hE8 HKG
     go_wp2_with fail
     go_ret2
     exact HF.out
    obtain rfl:=HQ9.out hE8
    subst hE8
    have HN2:=Lib.hid (show nameN (h3,0) (k+1)=(h9,0) from HW.out.trans HB3.out)
    clear HW HB3 HST HQ9
    rw [show ((0:Nat):Int)=0 from rfl]
    go_wp2_with fail
    go_roundw
    case rel=>exact⟨k+1,p9,by go_num,by omega,by rw [HN2.out]; exact HC9.out.1,by rw [HN2.out],by rw [HN2.out]; exact HKG.out,HC9.out.2.1,HC9.out.2.2⟩
    case measure=>simp [intOf]; omega
  ·obtain rfl:k=22:=by omega
   have hd:decide ((22:Int)<22)=false:=by decide
   rw [show ((22:Nat):Int)=22 from rfl]
   obtain⟨h4,hkk⟩ :∃ x,x=(nameN (h3,0) 22).1:=⟨_,rfl⟩
   have hke:nameN (h3,0) 22=(h4,0):=Prod.ext hkk.symm h0
   have HI2:=Lib.hid (show dbootK n=ownN (selN (h4,0) 11) 22 from by rw [HI.out,← hke]; rfl)
   rw [← hkk] at L4 K4
   have HSP:=Lib.hid (dspecials_any wr)
   have HC:=Lib.hid (And.intro L4 (And.intro K4 (And.intro s4 R4)))
   clear HI hke hkk h0 L4 K4 s4 R4
   go_wp2_with fail
   refine HSP.out.mono ?_
   rintro e w5 ⟨bs,rfl,hb5,hbs,HRS⟩
   have HC5:=Lib.hid (show RL w5 p4 g h4∧KInv h4∧Step p0 p4 w2 w5∧RowsAt p4 w5 br∧RowT p4 w5 (some ⟨bs,0,none⟩) (kSels.map tx) from⟨HC.out.1.below hb5,HC.out.2.1,HC.out.2.2.1.below' hb5,HC.out.2.2.2.below hb5,HRS p4 (fun k hk=>HC.out.1.at_.lt hk)⟩)
   clear HC HSP hb5 hbs HRS hd
   go_wp2_with fail
   go_loopw [10] (fun iv wr=>∃ (k:Nat) (p':HP),iv = .int .i64 k∧k≤11∧RL wr p' g (selN (h4,0) k).1∧(selN (h4,0) k).2=0∧KInv (selN (h4,0) k).1∧Step p0 p' w2 wr∧RowsAt p' wr br∧RowT p' wr (some ⟨bs,0,none⟩) (kSels.map tx)) (fun iv _=>11-(intOf iv).toNat)
   case atStart=>exact⟨0,p4,rfl,Nat.zero_le _,HC5.out.1,rfl,HC5.out.2.1,HC5.out.2.2.1,HC5.out.2.2.2.1,HC5.out.2.2.2.2⟩
   case round=>
    clear HC5
    obtain⟨k,p5,rfl,hk,L5,h0,K5,s5,R5,T5⟩:=hrel
    by_cases hkn:k<11
    ·have hd:decide ((k:Int)<11)=true:=by simp; omega
     have hki:(k:Int)<11:=by omega
     have HW:=Lib.hid (selN_succ (h4,0) k)
     have HST:=Lib.hid (fun (q:(selN (h4,0) (k+1)).2≠0)=>show (selN (h4,0) 11).2=(selN (h4,0) (k+1)).2 from by rw [show 11=(k+1)+(11-(k+1)) by omega]; exact selN_stop2 _ _ q _)
     obtain⟨hk0,hkk⟩ :∃ x,x=(selN (h4,0) k).1:=⟨_,rfl⟩
     have hke:selN (h4,0) k=(hk0,0):=Prod.ext hkk.symm h0
     rw [hke] at HW
     rw [← hkk] at L5 K5
     clear hkk hke h0
     obtain⟨ad,e1,-,-,hcell⟩:=T5.at_ k (by rw [List.length_map]; exact hkn)
     injection e1 with e1
     subst e1
     rw [WideShapes.add_plain,Nat.zero_add,sel_get k hkn] at hcell
     have hln:=sel_len k hkn
     have htl:=tx_lt (kSel k)
     have HBS:=Lib.hid (show bSel (hk0,0) (kSel k,k)=((hk0.internK (tx (kSel k))).1.putH ((hk0.internK (tx (kSel k))).1.rt 8) k (hk0.internK (tx (kSel k))).2.1,(hk0.internK (tx (kSel k))).2.2) from rfl)
     generalize tx (kSel k)=t at *
     have HIN:=Lib.hid (dintern_any L5 t htl (by omega) K5.bare K5.p3)
     have HKI:=Lib.hid (K5.intern htl)
     have HR5:=Lib.hid (And.intro s5 (And.intro R5 T5))
     have ho32:(hk0.internK t).2.1<4294967296:=by obtain⟨l,G⟩:=K5.good; exact intern_lt G t
     clear L5 K5 s5 R5 T5 htl hln
     generalize txS t=nm at *
     obtain⟨⟨hi,oi,E⟩,hqi⟩ :∃ q,hk0.internK t=q:=⟨_,rfl⟩
     rw [hqi] at HIN HKI HBS ho32
     simp only at HKI HBS ho32
     clear hqi
     go_wp2_with fail
     refine HIN.out.mono ?_
     rintro e w6 ⟨p6,h6,o6,rfl,L6,s6,hq6⟩
     have HL6:=Lib.hid L6
     have HR6:=Lib.hid (And.intro (HR5.out.1.trans s6) (And.intro (HR5.out.2.1.step s6) (HR5.out.2.2.step s6)))
     have HQ6:=Lib.hid hq6
     clear L6 s6 hq6 HIN HR5 hcell
     simp only at HQ6
     by_cases hE:E=0
     rotate_left
     ·have hne:((E:Int) != 0)=true:=by simp; omega
      have hnei:¬ ((E:Int)=0):=by omega
      have HF:=Lib.hid (show DBootP n w (.returned (.tuple #[.pointer none,.int .i64 4])) w6 from⟨HBF.out _ _ HR6.out.1,by
       have e0:(selN (h4,0) (k+1)).2=E:=by rw [HW.out,HBS.out]
       have e2:(selN (h4,0) 11).2≠0:=by rw [HST.out (by rw [e0]; exact hE),e0]; exact hE
       have e1:(dbootK n).2≠0:=by
        rw [HI2.out,ownN_stop _ e2]
        exact e2
       rw [if_neg e1]⟩)
      clear HW HST HBS HQ6 hE HKI
      go_wp2_with fail
      go_ret2
      exact HF.out
     obtain⟨rfl,rfl⟩:=HQ6.out hE
     subst hE
     obtain⟨c2,cr0⟩:=HL6.out.rootsP
     have e8:=cr0 8 (by omega)
     have hr32:h6.rt 8<4294967296:=HL6.out.fit.root 8
     have HPT:=Lib.hid (HL6.out.put (h6.rt 8) hr32 (k:Int) (by omega) o6 ho32)
     obtain⟨r8,hr8⟩ :∃ c,c=h6.rt 8:=⟨_,rfl⟩
     rw [← hr8] at e8 HPT HBS
     have HN2:=Lib.hid (show selN (h4,0) (k+1)=(h6.putH r8 k o6,0) from HW.out.trans HBS.out)
     have HKP:=Lib.hid (show KInv (h6.putH r8 (k:Int) o6) from HKI.out.put _ _ _ ho32)
     clear hr8 cr0 hr32 HBS HW HST HQ6 HKI
     rw [show ((0:Nat):Int)=0 from rfl]
     go_wp2_with fail
     refine HPT.out.mono ?_
     rintro e w7 ⟨p7,rfl,L7,s7⟩
     have HC7:=Lib.hid (And.intro L7 (And.intro (HR6.out.1.trans s7) (And.intro (HR6.out.2.1.step s7) (HR6.out.2.2.step s7))))
     clear L7 s7 HPT HR6 HL6 c2 e8
     go_wp2_with fail
     go_roundw
     case rel=>exact⟨k+1,p7,by go_num,by omega,by rw [HN2.out]; exact HC7.out.1,by rw [HN2.out],by rw [HN2.out]; exact HKP.out,HC7.out.2.1,HC7.out.2.2.1,HC7.out.2.2.2⟩
     case measure=>simp [intOf]; omega
    ·obtain rfl:k=11:=by omega
     have hd:decide ((11:Int)<11)=false:=by decide
     rw [show ((11:Nat):Int)=11 from rfl]
     obtain⟨h5,hkk⟩ :∃ x,x=(selN (h4,0) 11).1:=⟨_,rfl⟩
     have hke:selN (h4,0) 11=(h5,0):=Prod.ext hkk.symm h0
     rw [hke] at HI2
     rw [← hkk] at L5 K5
     have HC:=Lib.hid (And.intro L5 (And.intro K5 (And.intro s5 R5)))
     clear hke hkk h0 L5 K5 s5 R5 T5
     go_wp2_with fail
     clear hd
     go_loopw [13] (fun iv wr=>∃ (k:Nat) (p':HP),iv = .int .i64 k∧k≤22∧RL wr p' g (ownN (h5,0) k).1∧(ownN (h5,0) k).2=0∧KInv (ownN (h5,0) k).1∧Step p0 p' w2 wr∧RowsAt p' wr br) (fun iv _=>22-(intOf iv).toNat)
     case atStart=>exact⟨0,p5,rfl,Nat.zero_le _,HC.out.1,rfl,HC.out.2.1,HC.out.2.2.1,HC.out.2.2.2⟩
     case round=>
      clear HC
      obtain⟨k,p6,rfl,hk,L6,h0,K6,s6,R6⟩:=hrel
      by_cases hkn:k<22
      ·have hd:decide ((k:Int)<22)=true:=by simp; omega
       have hki:(k:Int)<22:=by omega
       have HW:=Lib.hid (ownN_succ (h5,0) k)
       have HST:=Lib.hid (fun (q:(ownN (h5,0) (k+1)).2≠0)=>show ownN (h5,0) 22=ownN (h5,0) (k+1) from by rw [show 22=(k+1)+(22-(k+1)) by omega]; exact ownN_stop2 _ _ q _)
       obtain⟨hk0,hkk⟩ :∃ x,x=(ownN (h5,0) k).1:=⟨_,rfl⟩
       have hke:ownN (h5,0) k=(hk0,0):=Prod.ext hkk.symm h0
       rw [hke] at HW
       rw [← hkk] at L6 K6
       clear hkk hke h0
       obtain⟨A,n1,-,-,-,a3,-,a5,a6⟩:=R6.at_ k hkn
       have hn7:n1≤7:=by rw [a5]; exact (kRow_few k hkn).1
       have HFE:=Lib.hid (show (kRow k).fields=[]↔n1=0 from by rw [a5]; exact List.length_eq_zero_iff.symm)
       have hnl:((kRow k).fields.map tx).length=n1:=by rw [List.length_map,a5]
       have HB0:=Lib.hid (fun q:(kRow k).fields=[]=>show bOwn (hk0,0) (kRow k,k)=(hk0,0) from if_pos (.inl q))
       have HBK:=Lib.hid (bOwn_ok hk0 (kRow k,k))
       try simp only at HBK
       have HON:=Lib.hid (own_nm K6 (field_lt k) (by rw [hnl]; omega) hkn)
       have HNM:=Lib.hid (dnames_any L6 A n1 _ a6 (field_lt k) (fun t ht=>by have:=field_len k hkn t ht; omega) (by rw [hnl]; omega) K6)
       rw [hnl] at HNM
       have HC6:=Lib.hid (And.intro L6 (And.intro K6 (And.intro s6 R6)))
       clear L6 K6 s6 R6 a5 a6 hnl
       generalize (kRow k).fields.map tx=ts at *
       by_cases hn0:n1=0
       ·have HN2:=Lib.hid (show ownN (h5,0) (k+1)=(hk0,0) from HW.out.trans (HB0.out (HFE.out.2 hn0)))
        subst hn0
        clear HW HST HFE HB0 HBK HON HNM
        go_wp2_with fail
        go_roundw
        case rel=>exact⟨k+1,p6,by go_num,by omega,by rw [HN2.out]; exact HC6.out.1,by rw [HN2.out],by rw [HN2.out]; exact HC6.out.2.1,HC6.out.2.2.1,HC6.out.2.2.2⟩
        case measure=>simp [intOf]; omega
       have hq0:((n1:Int) == 0)=false:=by simp; omega
       have hq0i:¬ ((n1:Int)=0):=by omega
       have HBK2:=Lib.hid (HBK.out (fun q=>hn0 (HFE.out.1 q)))
       clear HFE HB0 HBK hn0
       obtain⟨⟨hm,om,E⟩,hqi⟩ :∃ q,hk0.nmK ts=q:=⟨_,rfl⟩
       rw [hqi] at HNM HON
       clear hqi
       simp only at HON
       go_wp2_with fail
       refine HNM.out.mono ?_
       rintro e w7 ⟨p7,h7,o7,rfl,L7,s7,hq7⟩
       have HL7:=Lib.hid L7
       have HR7:=Lib.hid (And.intro (HC6.out.2.2.1.trans s7) (HC6.out.2.2.2.step s7))
       have HQ7:=Lib.hid hq7
       clear L7 s7 hq7 HNM HC6 a3
       simp only at HQ7
       by_cases hE:E=0
       rotate_left
       ·have hne:((E:Int) != 0)=true:=by simp; omega
        have hnei:¬ ((E:Int)=0):=by omega
        have HF:=Lib.hid (show DBootP n w (.returned (.tuple #[.pointer none,.int .i64 4])) w7 from⟨HBF.out _ _ HR7.out.1,by
         have e2:(ownN (h5,0) (k+1)).2≠0:=by rw [HW.out,HBK2.out]; exact HON.out.1 hE
         have e1:(dbootK n).2≠0:=by
          rw [HI2.out,HST.out e2]
          exact e2
         rw [if_neg e1]⟩)
        clear HW HST HBK2 HQ7 hE HON
        go_wp2_with fail
        go_ret2
        exact HF.out
       obtain⟨rfl,rfl⟩:=HQ7.out hE
       obtain⟨z1,z2,z3,z4⟩:=HON.out.2 hE
       subst hE
       obtain⟨c2,cr0⟩:=HL7.out.rootsP
       have ek:=cr0 (10+k) (by omega)
       rw [z4] at ek
       have hr32:hk0.rt (10+k)<4294967296:=by rw [← z4]; exact HL7.out.fit.root (10+k)
       have HPT:=Lib.hid (HL7.out.put (hk0.rt (10+k)) hr32 (3:Int) (by omega) o7 z3)
       have HN2:=Lib.hid (show ownN (h5,0) (k+1)=(h7.putH (hk0.rt (10+k)) 3 o7,0) from HW.out.trans (HBK2.out.trans z1))
       have HKP:=Lib.hid z2
       obtain⟨c,hc⟩ :∃ c,c=hk0.rt (10+k):=⟨_,rfl⟩
       rw [← hc] at ek HPT HN2 HKP
       have hwr:IntKind.i64.wrap (10+(k:Int))=10+(k:Int):=IntWalk.i64_in _ (by omega)
       clear hc cr0 hr32 z1 z2 z3 z4 HW HST HBK2 HQ7 HON
       rw [show ((0:Nat):Int)=0 from rfl]
       go_wp2_with fail
       refine HPT.out.mono ?_
       rintro e w8 ⟨p8,rfl,L8,s8⟩
       have HC8:=Lib.hid (And.intro L8 (And.intro (HR7.out.1.trans s8) (HR7.out.2.step s8)))
       clear L8 s8 HPT HR7 HL7 c2 ek hwr
       go_wp2_with fail
       go_roundw
       case rel=>exact⟨k+1,p8,by go_num,by omega,by rw [HN2.out]; exact HC8.out.1,by rw [HN2.out],by rw [HN2.out]; exact HKP.out,HC8.out.2.1,HC8.out.2.2⟩
       case measure=>simp [intOf]; omega
      ·obtain rfl:k=22:=by omega
       have hd:decide ((22:Int)<22)=false:=by decide
       have HF:=Lib.hid (show DBootP n w (.returned (.tuple #[.pointer (some ⟨g,0,none⟩),.int .i64 0])) wr from⟨HBF.out _ _ s6,by
        have e1:(dbootK n).2=0:=by rw [HI2.out]; exact h0
        rw [if_pos e1,HI2.out]
        exact⟨p6,g,rfl,L6⟩⟩)
       clear L6 h0 K6 s6 R6
       go_wp2_with fail
       go_ret2
       exact HF.out
end
section
open Go.RowKit
theorem bones_kinv (n:Nat) (h1:64≤n) (h2:n≤1048576) (h0:(dBones (HM.new n,0)).2=0):KInv (dBones (HM.new n,0)).1:=by
 rcases bones_at n h1 h2 with ⟨_,_,q⟩ | ⟨_,q⟩
 ·exact q
 ·rw [q] at h0
  exact absurd h0 (by decide)
theorem boots_at (n:Nat) (h1:64≤n) (h2:n≤1048576):((bootK n).2=0∧(dbootK n).2=0∧bootK n=dbootK n)∨((bootK n).2=4∧(dbootK n).2≠0):=by
 have hb:=bootK_eq n
 have hd:dbootK n=namesB (dBones (HM.new n,0)):=rfl
 rcases bones_at n h1 h2 with ⟨q1,q2,q3⟩ | ⟨q1,q2⟩
 ·have e:bootK n=dbootK n:=by rw [hb,hd,q2]
  have o:OkS (dBones (HM.new n,0)):=.inl ⟨by rw [← q2]; exact q1,q3⟩
  have o2:=okS_names o
  rw [← hd] at o2
  rcases o2 with ⟨o2,_⟩ | o2
  ·exact .inl ⟨by rw [e]; exact o2,o2,e⟩
  ·exact .inr ⟨by rw [e]; exact o2,by rw [o2]; decide⟩
 ·right
  have p1:=namesB_stop (bonesB (HM.new n,0)) (k:=0) (by omega) (by rw [nameN_zero,q1]; decide)
  have p2:=namesB_stop (dBones (HM.new n,0)) (k:=0) (by omega) (by rw [nameN_zero,q2]; decide)
  rw [nameN_zero] at p1 p2
  rw [hb,hd]
  exact⟨p1.trans q1,by rw [p2,q2]; decide⟩
end
end Go.Proofs.YtdoahpflemgaeaaGreatDoor
