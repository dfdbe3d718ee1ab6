import Derived.Test.YtdoahpflemgaeaaGreatDoorJNAwB
import Derived.Test.YtdoahpflemgaeaaGreatDoorJUntil
import Derived.Laws.EntriesVeiled
set_option linter.unusedVariables false
set_option linter.unusedSimpArgs false
namespace Go.Proofs.YtdoahpflemgaeaaGreatDoor
section
open Go.RowKit
attribute [local go_sem] Oper.semAt_some
set_option maxHeartbeats 4000000 in
theorem kisName_any (b:Nat) (t:List Nat) (hb:b<256) (h8:∀ x∈t,x<256) (hlen:t.length<9223372036854775807) (w:World):Calls Tryz.prog 66 #[.string (txS (b :: t))] w (Told (.bool (isNameK (b :: t))) w):=by
 have k0:=Blk.new w 155 #[.func (.func 108) #[] #[]]
 have hb0:Below w.heap.size w (w.alloc (.cells #[.func (.func 108) #[] #[]] 155)):=(Below.refl _ _).alloc (Nat.le_refl _) _
 obtain⟨s,hs,⟨hsz,hs0⟩,hne⟩ :∃ s,s=txS (b :: t)∧(∃ h:0<s.size,s[0].toNat=b)∧¬ s.toList=[]:=by
  refine⟨_,rfl,⟨by rw [txS_size]; simp,?_⟩,?_⟩
  ·show (UInt8.ofNat b).toNat=b
   rw [UInt8.toNat_ofNat']
   omega
  ·rw [ByteArray.toList_eq]
   unfold txS
   simp
 have HV:=Lib.hid (show isNameK (b :: t)=(letK b && !(b :: t).any badK) from by unfold isNameK badK; rw [List.getD_cons_zero,List.not_any_eq_all_not]; congr 2; funext x; cases letK x; (rw [Bool.eq_iff_iff]; simp <;> omega); simp)
 have HT:=Lib.hid (fun w1=>txBytes w1 (b :: t))
 have HRD:=Lib.hid (fun w1=>txWorld_reads w1 (t:=b :: t) (by intro x hx; rcases List.mem_cons.1 hx with rfl | hx; exact hb; exact h8 x hx))
 have HBE:=Lib.hid (fun w1=>txWorld_below w1 (b :: t))
 rw [← hs] at HT HRD HBE ⊢
 clear hs
 generalize hbt:b :: t=bt at *
 go_enter Tryz.func66,Tryz.ntmps66
 go_upto_region 2 with fail
 generalize w.alloc (.cells #[.func (.func 108) #[] #[]] 155)=w1 at *
 have hB0:Below w.heap.size w w1.drew:=below_top hb0 (below_drew (Below.refl _ _))
 have hS0:w1.drew.cell? ⟨w.heap.size,0,none⟩=some (.func (.func 108) #[] #[])∧True:=⟨(k0.below (below_drew (Below.refl _ _)) k0.lt).cell 0,trivial⟩
 have HB:=Lib.hid hB0
 have HK0:=Lib.hid k0
 clear hb0 k0
 have HLT:=Lib.hid (klet_any b w1.drew)
 cases hl:letK b with
 | false=>
   rw [hl] at HLT HV
   clear hl
   refine wp_region_U 8 (fun w'=>w'.cell? ⟨w.heap.size,0,none⟩=some (.func (.func 108) #[] #[])∧True) (by kernel_rfl) ?_
   have hS:=hS0
   refine U_readC 0 [1,2,8] (v:=(.string s)) rfl (by kernel_rfl) (fun _ _ _ h=>h) hS (by kernel_rfl) (fun w' hw'=>by obtain⟨h0,h1⟩:=hw'; go_simp) ?_
   try simp only [Act.put,List.setIfInBounds_toArray,List.set_cons_zero,List.set_cons_succ]
   refine U_readC 1 [2,8] (v:=(.bool false)) rfl (by kernel_rfl) (fun _ _ _ h=>h) hS (by kernel_rfl) (fun w' hw'=>by obtain⟨h0,h1⟩:=hw'; go_simp) ?_
   try simp only [Act.put,List.setIfInBounds_toArray,List.set_cons_zero,List.set_cons_succ]
   refine U_readC 2 [8] (v:=(.bool false)) rfl (by kernel_rfl) (fun _ _ _ h=>h) hS (by kernel_rfl) (fun w' hw'=>by obtain⟨h0,h1⟩:=hw'; go_simp) ?_
   try simp only [Act.put,List.setIfInBounds_toArray,List.set_cons_zero,List.set_cons_succ]
   refine U_readC 3 [6,7,8] (v:=(.func (.func 108) #[] #[])) rfl (by kernel_rfl) (fun _ _ _ h=>h) hS (by kernel_rfl) (fun w' hw'=>by obtain⟨h0,h1⟩:=hw'; go_simp) ?_
   try simp only [Act.put,List.setIfInBounds_toArray,List.set_cons_zero,List.set_cons_succ]
   refine U_readC 4 [5,6,7,8] (v:=(.string s)) rfl (by kernel_rfl) (fun _ _ _ h=>h) hS (by kernel_rfl) (fun w' hw'=>by obtain⟨h0,h1⟩:=hw'; go_simp) ?_
   try simp only [Act.put,List.setIfInBounds_toArray,List.set_cons_zero,List.set_cons_succ]
   refine U_readC 5 [6,7,8] (v:=(.int .u8 (b:Nat))) rfl (by kernel_rfl) (fun _ _ _ h=>h) hS (by kernel_rfl) (fun w' hw'=>by obtain⟨h0,h1⟩:=hw'; go_simp) ?_
   try simp only [Act.put,List.setIfInBounds_toArray,List.set_cons_zero,List.set_cons_succ]
   refine U_oneG 6 (by kernel_rfl) rfl (by kernel_rfl) (fun K hK=>?_)
   go_simp
   refine HLT.out.mono ?_
   rintro e w3 ⟨rfl,rfl⟩
   refine hK _ _ (fun _=>hS) ?_
   clear hK K
   try simp only [Act.put,List.setIfInBounds_toArray,List.set_cons_zero,List.set_cons_succ]
   refine U_oneG 7 (by kernel_rfl) rfl (by kernel_rfl) (fun K hK=>?_)
   go_simp
   refine hK _ _ (fun _=>hS) ?_
   clear hK K
   try simp only [Act.put,List.setIfInBounds_toArray,List.set_cons_zero,List.set_cons_succ]
   refine U_one 8 (by kernel_rfl) rfl rfl (fun K hK=>?_)
   go_simp
   refine hK _ _ (fun h=>absurd h (by decide)) ?_
   clear hK K
   try simp only [Act.put,List.setIfInBounds_toArray,List.set_cons_zero,List.set_cons_succ]
   refine U_done (by kernel_rfl) ?_ _
   simp only [Calm,Exit.then]
   go_wp2_with fail
   go_ret
   exact⟨by rw [HV.out]; rfl,HB.out⟩
 | true=>
   rw [hl] at HLT HV
   clear hl
   refine wp_region_U 8 (fun w'=>w'.cell? ⟨w.heap.size,0,none⟩=some (.func (.func 108) #[] #[])∧True) (by kernel_rfl) ?_
   have hS:=hS0
   refine U_readC 0 [1,2,8] (v:=(.string s)) rfl (by kernel_rfl) (fun _ _ _ h=>h) hS (by kernel_rfl) (fun w' hw'=>by obtain⟨h0,h1⟩:=hw'; go_simp) ?_
   try simp only [Act.put,List.setIfInBounds_toArray,List.set_cons_zero,List.set_cons_succ]
   refine U_readC 1 [2,8] (v:=(.bool false)) rfl (by kernel_rfl) (fun _ _ _ h=>h) hS (by kernel_rfl) (fun w' hw'=>by obtain⟨h0,h1⟩:=hw'; go_simp) ?_
   try simp only [Act.put,List.setIfInBounds_toArray,List.set_cons_zero,List.set_cons_succ]
   refine U_readC 2 [8] (v:=(.bool false)) rfl (by kernel_rfl) (fun _ _ _ h=>h) hS (by kernel_rfl) (fun w' hw'=>by obtain⟨h0,h1⟩:=hw'; go_simp) ?_
   try simp only [Act.put,List.setIfInBounds_toArray,List.set_cons_zero,List.set_cons_succ]
   refine U_readC 3 [6,7,8] (v:=(.func (.func 108) #[] #[])) rfl (by kernel_rfl) (fun _ _ _ h=>h) hS (by kernel_rfl) (fun w' hw'=>by obtain⟨h0,h1⟩:=hw'; go_simp) ?_
   try simp only [Act.put,List.setIfInBounds_toArray,List.set_cons_zero,List.set_cons_succ]
   refine U_readC 4 [5,6,7,8] (v:=(.string s)) rfl (by kernel_rfl) (fun _ _ _ h=>h) hS (by kernel_rfl) (fun w' hw'=>by obtain⟨h0,h1⟩:=hw'; go_simp) ?_
   try simp only [Act.put,List.setIfInBounds_toArray,List.set_cons_zero,List.set_cons_succ]
   refine U_readC 5 [6,7,8] (v:=(.int .u8 (b:Nat))) rfl (by kernel_rfl) (fun _ _ _ h=>h) hS (by kernel_rfl) (fun w' hw'=>by obtain⟨h0,h1⟩:=hw'; go_simp) ?_
   try simp only [Act.put,List.setIfInBounds_toArray,List.set_cons_zero,List.set_cons_succ]
   refine U_oneG 6 (by kernel_rfl) rfl (by kernel_rfl) (fun K hK=>?_)
   go_simp
   refine HLT.out.mono ?_
   rintro e w3 ⟨rfl,rfl⟩
   refine hK _ _ (fun _=>hS) ?_
   clear hK K
   try simp only [Act.put,List.setIfInBounds_toArray,List.set_cons_zero,List.set_cons_succ]
   refine U_oneG 7 (by kernel_rfl) rfl (by kernel_rfl) (fun K hK=>?_)
   go_simp
   refine hK _ _ (fun _=>hS) ?_
   clear hK K
   try simp only [Act.put,List.setIfInBounds_toArray,List.set_cons_zero,List.set_cons_succ]
   refine U_one 8 (by kernel_rfl) rfl rfl (fun K hK=>?_)
   go_simp
   refine hK _ _ (fun h=>absurd h (by decide)) ?_
   clear hK K
   try simp only [Act.put,List.setIfInBounds_toArray,List.set_cons_zero,List.set_cons_succ]
   refine U_done (by kernel_rfl) ?_ _
   simp only [Calm,Exit.then]
   have hT:=HT.out w1.drew
   have hbe:=HBE.out w1.drew
   have hk:=(HK0.out.below (below_drew (Below.refl _ _)) HK0.out.lt)
   have HCF:=Lib.hid (kcontF_any _ bt.length (grownCap w1.drew bt.length 0 5) _ bt w.heap.size _ ((hk.below hbe hk.lt).cell 0) (by rw [← hbt]; simp; omega) (HRD.out w1.drew))
   have HB2:=Lib.hid (below_top HB.out hbe)
   clear hbe hk hS0 hB0
   go_wp2_with fail
   refine HCF.out.mono ?_
   rintro e w4 ⟨rfl,rfl⟩
   go_wp2_with fail
   go_ret
   exact⟨by rw [HV.out]; rfl,HB2.out⟩
end
end Go.Proofs.YtdoahpflemgaeaaGreatDoor
