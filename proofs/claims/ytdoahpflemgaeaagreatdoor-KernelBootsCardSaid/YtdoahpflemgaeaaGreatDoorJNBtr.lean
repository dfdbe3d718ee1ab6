import Derived.Test.YtdoahpflemgaeaaGreatDoorJNSgl
set_option linter.unusedVariables false
set_option linter.unusedSimpArgs false
namespace Go.Proofs.YtdoahpflemgaeaaGreatDoor
section
open Go.RowKit
attribute [local go_sem] Oper.semAt_some
structure BAt (W w:World) (p:HP) (g b:Nat) (s:BS):Prop where
 live:Live W w p g s.1
 blk:Blk w b 35 #[.pointer (some ⟨g,0,none⟩),.int .i64 (s.2:Nat)]
 out:¬ p.has b
 base:W.heap.size≤b
def BDone (W:World) (p:HP) (g b:Nat) (s':BS) (v:Value) (w:World) (e:Ending) (w':World):Prop:=
 ∃ p',e = .returned v∧BAt W w' p' g b s'∧StepB p p' b w w'
section
variable {W w w':World} {p p' p'':HP} {g b:Nat} {s:BS} {h h':HM} {x x':Nat}
theorem BAt.below (B:BAt W w p g b s) (hb:Below w.heap.size w w'):BAt W w' p g b s:=⟨B.live.after hb,B.blk.below hb B.blk.lt,B.out,B.base⟩
theorem BAt.step (B:BAt W w p g b (h,x)) (s:Step p p' w w') (L:Live W w' p' g h'):BAt W w' p' g b (h',x):=
 ⟨L,B.blk.same (s.block b B.blk.lt B.out),fun q=>by rcases s.rows b q with r | r; exact B.out r; have:=B.blk.lt; omega,B.base⟩
theorem BAt.err (B:BAt W w p g b (h,x)) (x':Nat):BAt W (w.setCell ⟨b,1,none⟩ (.int .i64 x')) p g b (h,x'):=
 ⟨B.live.far2 B.out B.base 1 _,B.blk.set_ 1 _,B.out,B.base⟩
variable (B:BAt W w p g b s)
include B
theorem bclass_any (i:Nat) (hi:i<64):Calls Tryz.prog 40 #[.pointer (some ⟨b,0,none⟩),.int .i64 i] w (Said (.int .u32 (s.1.rt i:Nat)) w):=by
 have HR:=Lib.hid (kroot_any B.live i)
 rw [rootN_rt s.1 hi] at HR
 have c0:=B.blk.cell 0
 clear B
 generalize s.1.rt i=r at *
 go_enter Tryz.func40,Tryz.ntmps40
 go_wp2_with fail
 refine HR.out.mono ?_
 rintro e w1 ⟨rfl,rfl⟩
 go_wp2_with fail
 go_ret
 exact⟨rfl,rfl⟩
set_option maxHeartbeats 1000000 in
theorem balloc_any (n:Nat):Calls Tryz.prog 11 #[.pointer (some ⟨b,0,none⟩),.int .i64 n] w (BDone W p g b (bAlloc s n).1 (.int .u32 ((bAlloc s n).2:Nat)) w):=by
 obtain⟨h,x⟩:=s
 have HB:=Lib.hid B
 have c0:=B.blk.cell 0
 have c1:=B.blk.cell 1
 have HA:=Lib.hid (B.live.alloc 0 (by omega) 1 n)
 have HI:=Lib.hid (show bAlloc (h,x) n=if x≠0 then ((h,x),0) else ((h.AllocH 0 1 n,h.AllocE 0 1 n),h.AllocO 0 1 n) from rfl)
 clear B
 by_cases hx:x=0
 rotate_left
 ·have HI2:=Lib.hid (HI.out.trans (if_pos hx))
  have hne:((x:Int) != 0)=true:=by simp; omega
  have hnei:¬ ((x:Int)=0):=by omega
  clear HI hx HA
  go_enter Tryz.func11,Tryz.ntmps11
  go_wp2_with fail
  go_ret
  rw [HI2.out]
  exact⟨p,rfl,HB.out,StepB.of_step (Step.refl _ _)⟩
 ·subst hx
  have HI2:=Lib.hid (HI.out.trans (if_neg (fun q=>q rfl)))
  rw [HI2.out]
  simp only at HA c0 c1
  clear HI HI2
  generalize h.AllocH 0 1 n=h1 at *
  generalize h.AllocE 0 1 n=E at *
  generalize h.AllocO 0 1 n=o at *
  go_enter Tryz.func11,Tryz.ntmps11
  go_wp2_with fail
  refine HA.out.mono ?_
  rintro e w1 ⟨p1,rfl,L1,s1⟩
  have hb1:=HB.out.step s1 L1
  have d1:w1.cell? ⟨b,1,none⟩=some (.int .i64 ((0:Nat):Int)):=hb1.blk.cell 1; have z1:=hb1.blk.frozen 1
  have HB1:=Lib.hid (hb1.err E)
  have HS1:=Lib.hid ((StepB.of_step (bx:=b) s1).setBox 1 (.int .i64 (E:Nat)))
  clear L1 s1 hb1 HA HB
  go_wp2_with fail
  go_ret
  exact⟨p1,rfl,HB1.out,HS1.out⟩
set_option maxHeartbeats 1000000 in
theorem bintern_any (t:List Nat) (h8:∀ x∈t,x<256) (hlen:t.length≤9223372036854775807):Calls Tryz.prog 47 #[.pointer (some ⟨b,0,none⟩),.string (txS t)] w (BDone W p g b (bIntern s t).1 (.int .u32 ((bIntern s t).2:Nat)) w):=by
 obtain⟨h,x⟩:=s
 have HB:=Lib.hid B
 have c0:=B.blk.cell 0
 have c1:=B.blk.cell 1
 have HA:=Lib.hid (kintern_any B.live t h8 hlen)
 have HI:=Lib.hid (show bIntern (h,x) t=if x≠0 then ((h,x),0) else (((h.internK t).1,(h.internK t).2.2),(h.internK t).2.1) from rfl)
 clear B
 by_cases hx:x=0
 rotate_left
 ·have HI2:=Lib.hid (HI.out.trans (if_pos hx))
  have hne:((x:Int) != 0)=true:=by simp; omega
  have hnei:¬ ((x:Int)=0):=by omega
  clear HI hx HA
  go_enter Tryz.func47,Tryz.ntmps47
  go_wp2_with fail
  go_ret
  rw [HI2.out]
  exact⟨p,rfl,HB.out,StepB.of_step (Step.refl _ _)⟩
 ·subst hx
  have HI2:=Lib.hid (HI.out.trans (if_neg (fun q=>q rfl)))
  rw [HI2.out]
  simp only at HA c0 c1
  clear HI HI2
  generalize h.internK t=q at *
  obtain⟨h1,o,E⟩:=q
  simp only at HA
  go_enter Tryz.func47,Tryz.ntmps47
  go_wp2_with fail
  refine HA.out.mono ?_
  rintro e w1 ⟨p1,rfl,L1,s1⟩
  have hb1:=HB.out.step s1 L1
  have d1:w1.cell? ⟨b,1,none⟩=some (.int .i64 ((0:Nat):Int)):=hb1.blk.cell 1; have z1:=hb1.blk.frozen 1
  have HB1:=Lib.hid (hb1.err E)
  have HS1:=Lib.hid ((StepB.of_step (bx:=b) s1).setBox 1 (.int .i64 (E:Nat)))
  clear L1 s1 hb1 HA HB
  go_wp2_with fail
  go_ret
  exact⟨p1,rfl,HB1.out,HS1.out⟩
set_option maxRecDepth 100000 in
set_option maxHeartbeats 1000000 in
theorem bof_any (o:Nat) (ho:o<4294967296) (i:Nat) (hi:i<64):Calls Tryz.prog 46 #[.pointer (some ⟨b,0,none⟩),.int .u32 o,.int .i64 i] w (BDone W p g b (s.1.setClassH o (s.1.rt i),s.2) (.tuple #[]) w):=by
 obtain⟨h,x⟩:=s
 have hb0:Below w.heap.size w w.drew:=below_drew (Below.refl _ _)
 have B0:=B.below hb0
 have HB:=Lib.hid B0
 have HC:=Lib.hid (bclass_any B0 i hi)
 simp only at HC
 have hS0:w.drew.cell? ⟨b,0,none⟩=some (.pointer (some ⟨g,0,none⟩))∧True:=⟨B0.blk.cell 0,trivial⟩
 have HST:=Lib.hid (B0.live.setClass o ho (h.rt i) (B0.live.fit.root i))
 simp only at HST
 have HR:=Lib.hid (show (⟨h,x⟩ :BS).1.setClassH o ((⟨h,x⟩ :BS).1.rt i)=h.setClassH o (h.rt i) from rfl)
 clear B B0
 go_enter Tryz.func46,Tryz.ntmps46
 go_upto_region 0 with fail
 have hS:=hS0
 refine wp_region_U 8 (fun w'=>w'.cell? ⟨b,0,none⟩=some (.pointer (some ⟨g,0,none⟩))∧True) (by kernel_rfl) ?_
 refine U_readC 0 [1,2,3,8] (v:=(.pointer (some ⟨b,0,none⟩))) rfl (by kernel_rfl) (fun _ _ _ h=>h) hS (by kernel_rfl) (fun w' hw'=>by obtain⟨h0,h1⟩:=hw'; go_simp) ?_
 try simp only [Act.put,List.setIfInBounds_toArray,List.set_cons_zero,List.set_cons_succ]
 refine U_readC 1 [2,3,8] (v:=(.pointer (some ⟨b,0,none⟩))) rfl (by kernel_rfl) (fun _ _ _ h=>h) hS (by kernel_rfl) (fun w' hw'=>by obtain⟨h0,h1⟩:=hw'; go_simp) ?_
 try simp only [Act.put,List.setIfInBounds_toArray,List.set_cons_zero,List.set_cons_succ]
 refine U_readC 2 [3,8] (v:=(.pointer (some ⟨b,0,none⟩))) rfl (by kernel_rfl) (fun _ _ _ h=>h) hS (by kernel_rfl) (fun w' hw'=>by obtain⟨h0,h1⟩:=hw'; go_simp) ?_
 try simp only [Act.put,List.setIfInBounds_toArray,List.set_cons_zero,List.set_cons_succ]
 refine U_readC 3 [8] (v:=(.pointer (some ⟨g,0,none⟩))) rfl (by kernel_rfl) (fun _ _ _ h=>h) hS (by kernel_rfl) (fun w' hw'=>by obtain⟨h0,h1⟩:=hw'; go_simp) ?_
 try simp only [Act.put,List.setIfInBounds_toArray,List.set_cons_zero,List.set_cons_succ]
 refine U_readC 4 [8] (v:=(.int .u32 o)) rfl (by kernel_rfl) (fun _ _ _ h=>h) hS (by kernel_rfl) (fun w' hw'=>by obtain⟨h0,h1⟩:=hw'; go_simp) ?_
 try simp only [Act.put,List.setIfInBounds_toArray,List.set_cons_zero,List.set_cons_succ]
 refine U_readC 5 [7,8] (v:=(.pointer (some ⟨b,0,none⟩))) rfl (by kernel_rfl) (fun _ _ _ h=>h) hS (by kernel_rfl) (fun w' hw'=>by obtain⟨h0,h1⟩:=hw'; go_simp) ?_
 try simp only [Act.put,List.setIfInBounds_toArray,List.set_cons_zero,List.set_cons_succ]
 refine U_readC 6 [7,8] (v:=(.int .i64 i)) rfl (by kernel_rfl) (fun _ _ _ h=>h) hS (by kernel_rfl) (fun w' hw'=>by obtain⟨h0,h1⟩:=hw'; go_simp) ?_
 try simp only [Act.put,List.setIfInBounds_toArray,List.set_cons_zero,List.set_cons_succ]
 refine U_one 7 (by kernel_rfl) rfl rfl (fun K hK=>?_)
 go_simp
 refine HC.out.mono ?_
 rintro e w5 ⟨rfl,rfl⟩
 refine hK _ _ (fun _=>hS) ?_
 clear hK K
 try simp only [Act.put,List.setIfInBounds_toArray,List.set_cons_zero,List.set_cons_succ]
 refine U_one 8 (by kernel_rfl) rfl rfl (fun K hK=>?_)
 go_simp
 refine HST.out.mono ?_
 rintro e w6 ⟨p1,rfl,L1,s1⟩
 have HB1:=Lib.hid (HB.out.step s1 L1)
 have HS1:=Lib.hid (StepB.of_step (bx:=b) ((Step.of_below hb0).trans s1))
 clear L1 s1
 refine hK _ _ (fun h=>absurd h (by decide)) ?_
 clear hK K
 try simp only [Act.put,List.setIfInBounds_toArray,List.set_cons_zero,List.set_cons_succ]
 refine U_done (by kernel_rfl) ?_ _
 simp only [Calm,Exit.then]
 clear hS hS0 HC HST HB
 go_wp2_with fail
 refine bodyPost_end (v:=.tuple #[]) (by simp [results,Tryz.results46,go_sem]) rfl ?_
 exact⟨p1,rfl,HB1.out,HS1.out⟩
end
end
end Go.Proofs.YtdoahpflemgaeaaGreatDoor
