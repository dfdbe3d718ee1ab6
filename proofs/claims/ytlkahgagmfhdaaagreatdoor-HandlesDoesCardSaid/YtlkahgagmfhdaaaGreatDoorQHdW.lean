import Derived.Test.YtlkahgagmfhdaaaGreatDoorQHdO
import Derived.Test.YtlkahgagmfhdaaaGreatDoorQTwo
import Derived.Test.YtlkahgagmfhdaaaGreatDoorQAll
import Derived.Test.YtlkahgagmfhdaaaGreatDoorQHdF
import Derived.Test.YtlkahgagmfhdaaaGreatDoorQUntil
import Derived.Laws.Tables
import Derived.Lib.QuietBelow
import Derived.BigQuiet
set_option linter.unusedVariables false
set_option linter.unusedSimpArgs false
set_option linter.unusedSectionVars false
namespace Go.Proofs.YtlkahgagmfhdaaaGreatDoor
section
open Go.RowKit
attribute [local go_sem] Oper.semAt_some
set_option maxRecDepth 100000 in
theorem tab_cells (g cap first:Nat):((Tryz.zeroCells96.setIfInBounds 0 (.pointer (some ⟨g,0,none⟩))).setIfInBounds 513 (.int .i64 (cap:Int))).setIfInBounds 514 (.int .u64 (first:Int))=((TM.fresh cap first).cells g).toArray:=by kernel_rfl
def nwE (h:HM) (n:Int) (first:Nat):Nat:=if n<1∨256<n∨first=0 then 1 else if kindM (h.roots.getD 20 0)=1 then 3 else h.AllocE (h.roots.getD 20 0) 1 n
def nwH (h:HM) (n:Int):HM:=(h.AllocH (h.roots.getD 20 0) 1 n).setRootH 40 (h.AllocO (h.roots.getD 20 0) 1 n)
def NewP (W:World) (p:HP) (g:Nat) (h:HM) (n:Int) (first:Nat) (w:World) (e:Ending) (w':World):Prop:=
 (nwE h n first≠0∧∃ p',e = .returned (.tuple #[.pointer none,.int .i64 (nwE h n first:Nat)])∧Live W w' p' g h∧Step p p' w w')∨
 (nwE h n first=0∧∃ p' gt,e = .returned (.tuple #[.pointer (some ⟨gt,0,none⟩),.int .i64 0])∧HT W w' p' g gt (nwH h n) (TM.fresh n.toNat first)∧Step p p' w w'∧w.heap.size≤gt)
theorem kind_small (o:Nat):((kindM o:Int) == 1)=decide (kindM o=1):=by
 by_cases h:kindM o=1
 ·simp [h]
 ·simp [h]; omega
set_option maxRecDepth 100000 in
set_option maxHeartbeats 4000000 in
theorem tnew_any {W w:World} {p:HP} {g:Nat} {h:HM} (L:Live W w p g h) (n:Int) (first:Nat) (hf:first<18446744073709551616):Calls Tryz.prog 23 #[.pointer (some ⟨g,0,none⟩),.int .i64 n,.int .u64 (first:Int)] w (NewP W p g h n first w):=by
 have HE:=Lib.hid (show nwE h n first=if n<1∨256<n∨first=0 then 1 else if kindM (h.roots.getD 20 0)=1 then 3 else h.AllocE (h.roots.getD 20 0) 1 n from rfl)
 have HL:=Lib.hid L
 by_cases hr:n<1∨256<n∨first=0
 ·have he:nwE h n first=1:=by rw [HE.out,if_pos hr]
  have HV:=Lib.hid he
  clear he HE L
  by_cases h1:n<1
  ·clear hr
   go_enter Tryz.func23,Tryz.ntmps23
   go_wp2_with fail
   go_ret2
   exact .inl ⟨by rw [HV.out]; decide,p,by rw [HV.out]; rfl,HL.out,Step.refl _ _⟩
  ·by_cases h2:256<n
   ·clear hr
    go_enter Tryz.func23,Tryz.ntmps23
    go_wp2_with fail
    go_ret2
    exact .inl ⟨by rw [HV.out]; decide,p,by rw [HV.out]; rfl,HL.out,Step.refl _ _⟩
   ·obtain rfl:first=0:=by omega
    clear hr
    simp only [Int.natCast_zero]
    go_enter Tryz.func23,Tryz.ntmps23
    go_wp2_with fail
    go_ret2
    exact .inl ⟨by rw [HV.out]; decide,p,by rw [HV.out]; rfl,HL.out,Step.refl _ _⟩
 ·have h1:¬ n<1:=fun hh=>hr (.inl hh)
  have h2:¬ 256<n:=fun hh=>hr (.inr (.inl hh))
  have h3:¬ first=0:=fun hh=>hr (.inr (.inr hh))
  have h4:((first:Int) == 0)=false:=by simpa using h3
  have HE2:=Lib.hid (HE.out.trans (if_neg hr))
  have HR:=Lib.hid (show Calls Tryz.prog 81 #[.pointer (some ⟨g,0,none⟩),.int .i64 20] w (Said (.tuple #[.int .u32 (h.roots.getD 20 0:Nat),.int .i64 0]) w) from L.root 20)
  have hc:=L.fit.root 20
  have HK:=Lib.hid (kind_any (h.roots.getD 20 0) hc w)
  have HA:=Lib.hid (L.alloc (h.roots.getD 20 0) hc 1 n)
  have HNW:=Lib.hid (show nwH h n=(h.AllocH (h.roots.getD 20 0) 1 n).setRootH 40 (h.AllocO (h.roots.getD 20 0) 1 n) from rfl)
  have HO:=Lib.hid (show h.AllocE (h.roots.getD 20 0) 1 n≠0→h.AllocH (h.roots.getD 20 0) 1 n=h from fun hh=>by rw [HM.AllocH_eq,if_neg hh])
  have HO32:=Lib.hid (show h.AllocO (h.roots.getD 20 0) 1 n<4294967296 by unfold HM.AllocO; have:=L.fit.room; have:=L.fit.hi; split <;> omega)
  have hks:=kind_small (h.roots.getD 20 0)
  have hkl:kindM (h.roots.getD 20 0)<3:=by unfold kindM; split <;> (try split) <;> omega
  have HAE:=h.AllocE_lt (h.roots.getD 20 0) 1 n
  clear HE L hr
  generalize h.roots.getD 20 0=c at *
  by_cases hk:kindM c=1
  ·have he:nwE h n first=3:=by rw [HE2.out,if_pos hk]
   have HV:=Lib.hid he
   rw [hk] at HK
   clear he HE2 HA HO HNW hks HAE
   go_enter Tryz.func23,Tryz.ntmps23
   go_wp2_with fail
   refine HR.out.mono ?_
   rintro e w1 ⟨rfl,rfl⟩
   go_wp2_with fail
   refine HK.out.mono ?_
   rintro e w1 ⟨rfl,rfl⟩
   go_wp2_with fail
   go_ret2
   exact .inl ⟨by rw [HV.out]; decide,p,by rw [HV.out]; rfl,HL.out,Step.refl _ _⟩
  ·have HE3:=Lib.hid (HE2.out.trans (if_neg hk))
   rw [decide_eq_false hk] at hks
   clear HE2
   by_cases ha:h.AllocE c 1 n=0
   ·have HV:=Lib.hid (HE3.out.trans ha)
    rw [ha] at HA
    obtain⟨m,rfl⟩:=Int.eq_ofNat_of_zero_le (show 0≤n by omega)
    have HF:=Lib.hid (TM.Ok.fresh (cap:=m) (first:=first) (by omega) (by omega) hf)
    have HBT:=Lib.hid (tab_cells g m first)
    generalize h.AllocO c 1 m=o at *
    generalize h.AllocH c 1 m=h2 at *
    clear HE3 HO hkl HAE hk
    generalize kindM c=kk at *
    go_enter Tryz.func23,Tryz.ntmps23
    go_wp2_with fail
    refine HR.out.mono ?_
    rintro e w1 ⟨rfl,rfl⟩
    go_wp2_with fail
    refine HK.out.mono ?_
    rintro e w1 ⟨rfl,rfl⟩
    go_wp2_with fail
    refine HA.out.mono ?_
    rintro e w1 ⟨p1,rfl,L1,s1⟩
    have HSR:=Lib.hid (L1.setRoot 40 o HO32.out)
    have HS1:=Lib.hid s1
    clear L1 s1
    go_wp2_with fail
    refine HSR.out.mono ?_
    rintro e w2 ⟨p2,rfl,L2,s2⟩
    have HL2:=Lib.hid L2
    have HS2:=Lib.hid (HS1.out.trans s2)
    clear L2 s2
    go_wp2_with fail
    go_ret2
    have hb:=(Below.refl w2.heap.size w2).alloc (Nat.le_refl _) (.cells (((Tryz.zeroCells96.setIfInBounds 0 (.pointer (some ⟨g,0,none⟩))).setIfInBounds 513 (.int .i64 (m:Int))).setIfInBounds 514 (.int .u64 (first:Int))) 96)
    have hbl:=Blk.new w2 96 (((Tryz.zeroCells96.setIfInBounds 0 (.pointer (some ⟨g,0,none⟩))).setIfInBounds 513 (.int .i64 (m:Int))).setIfInBounds 514 (.int .u64 (first:Int)))
    rw [HBT.out] at hbl hb
    rw [HBT.out]
    exact .inr ⟨HV.out,p2,w2.heap.size,rfl,⟨HNW.out ▸ HL2.out.after hb,hbl,HF.out,HL2.out.below.size⟩,HS2.out.below' hb,HS2.out.size⟩
   ·have HV:=Lib.hid HE3.out
    have hne:((h.AllocE c 1 n:Int) != 0)=true:=by simp; omega
    rw [HO.out ha] at HA
    generalize h.AllocE c 1 n=E at *
    clear HE3 HO hkl hk HAE
    generalize kindM c=kk at *
    go_enter Tryz.func23,Tryz.ntmps23
    go_wp2_with fail
    refine HR.out.mono ?_
    rintro e w1 ⟨rfl,rfl⟩
    go_wp2_with fail
    refine HK.out.mono ?_
    rintro e w1 ⟨rfl,rfl⟩
    go_wp2_with fail
    refine HA.out.mono ?_
    rintro e w1 ⟨p1,rfl,L1,s1⟩
    have HL1:=Lib.hid L1
    have HS1:=Lib.hid s1
    clear L1 s1
    go_wp2_with fail
    go_ret2
    exact .inl ⟨by rw [HV.out]; exact ha,p1,by rw [HV.out]; rfl,HL1.out,HS1.out⟩
end
section
open Go.RowKit
attribute [local go_sem] Oper.semAt_some
theorem hnum_any (E:Nat) (hE:E<4294967296) (w:World):Calls Tryz.prog 24 #[.int .i64 (E:Int)] w (Said (.int .i64 (E:Int)) w):=by
 go_enter Tryz.func24,Tryz.ntmps24
 go_wp2_with fail
 go_ret
 exact⟨rfl,rfl⟩
def allocs (n:Nat):Nat→HM
 | 0=>HM.new n
 | j+1=>(allocs n j).AllocH 0 1 2
def hpsH (n k:Nat):HM:=(allocs n k).setRootH 1 ((allocs n k).objM 1)
def obN (ob:Int):Nat:=min ob.toNat 1000
def HeapsP (W:World) (sz ob:Int) (e:Ending) (w':World):Prop:=
 ((sz<64∨1048576<sz)∧e = .returned (.tuple #[.pointer none,.pointer none,.bool false])∧Below W.heap.size W w')∨
 (64≤sz∧sz≤1048576∧∃ p q g k,e = .returned (.tuple #[.pointer (some ⟨g,0,none⟩),.pointer (some ⟨k,0,none⟩),.bool true])∧Two W w' p g q k (hpsH sz.toNat (obN ob)) (hpsH sz.toNat (obN ob))∧Below W.heap.size W w')
theorem Blk.two {w w':World} {p q p' q':HP} {g:Nat} {t:TypeId} {cs:Array Value} (B:Blk w g t cs) (s:Step2 p q p' q' w w') (hp:¬ p.has g) (hq:¬ q.has g):Blk w' g t cs∧¬ p'.has g∧¬ q'.has g:=
 ⟨B.same (s.block g B.lt hp hq),fun h=>(s.prows g h).elim hp (fun h=>by have:=B.lt; omega),fun h=>(s.qrows g h).elim hq (fun h=>by have:=B.lt; omega)⟩
theorem objM_lt {h:HM} (f:h.Fit):h.objM 1<4294967296:=by
 unfold HM.objM
 split <;> omega
set_option maxRecDepth 100000 in
set_option maxHeartbeats 4000000 in
theorem heaps_any (W:World) (E:Env W) (sz ob cp:Int) (fi:Nat) (A:Option Addr) (nd c:Nat):Calls Tryz.prog 22 #[.agg #[.int .i64 sz,.int .i64 ob,.int .i64 cp,.int .u64 (fi:Int),.slice A nd c]] W (HeapsP W sz ob):=by
 have hb0:=(Below.refl W.heap.size W).alloc (Nat.le_refl _) (.cells #[.int .i64 sz,.int .i64 ob,.int .i64 cp,.int .u64 (fi:Int),.slice A nd c] 50)
 have BX:=Lib.hid (Blk.new W 50 #[.int .i64 sz,.int .i64 ob,.int .i64 cp,.int .u64 (fi:Int),.slice A nd c])
 have HB0:=Lib.hid hb0
 have HE:=Lib.hid E
 have HNU:=Lib.hid (fun w'=>hnum_any 0 (by decide) w')
 clear hb0 E
 by_cases hz:sz<64∨1048576<sz
 ·have HN:=Lib.hid (fun w=>new_bad sz hz w)
  have HRN:=Lib.hid (fun w=>rnew_bad sz hz w)
  go_enter Tryz.func22,Tryz.ntmps22
  obtain⟨x0,x1,x2,x3,x4⟩:=BX.out.cells5
  go_wp2_with fail
  refine (HN.out _).mono ?_
  rintro e w1 ⟨rfl,rfl⟩
  go_wp2_with fail
  refine (HRN.out _).mono ?_
  rintro e w2 ⟨rfl,rfl⟩
  go_wp2_with fail
  go_ret3
  exact .inl ⟨hz,rfl,HB0.out⟩
 ·obtain⟨n,rfl⟩:=Int.eq_ofNat_of_zero_le (show 0≤sz by omega)
  have h1:64≤n:=by omega
  have h2:n≤1048576:=by omega
  have HN:=Lib.hid (fun w=>new_any n h1 h2 w)
  have HRN:=Lib.hid (fun w=>rnew_any n h1 h2 w)
  have HSZ:=Lib.hid (show (64:Int)≤(n:Int)∧(n:Int)≤1048576 by omega)
  clear hz
  go_enter Tryz.func22,Tryz.ntmps22
  obtain⟨x0,x1,x2,x3,x4⟩:=BX.out.cells5
  go_wp2_with fail
  clear x0 x1 x2 x3 x4
  generalize W.alloc (.cells #[.int .i64 (n:Int),.int .i64 ob,.int .i64 cp,.int .u64 (fi:Int),.slice A nd c] 50)=W1 at *
  refine (HN.out _).mono ?_
  rintro e w1 ⟨p,rfl,H1,hp1,hb1⟩
  have L1:Live W w1 p p.g (HM.new n):=⟨H1,rfl,⟨[],HM.new_good h1 h2 (HM.new_fit h1 h2)⟩,HE.out,fun k hk=>Nat.le_trans HB0.out.size (hp1 k hk),HB0.out.trans (hb1.mono HB0.out.size)⟩
  have HL1:=Lib.hid L1
  have HB1:=Lib.hid hb1
  have BX1:=Lib.hid (BX.out.below hb1 BX.out.lt)
  have HX1:=Lib.hid (show ∀ k,p.has k→W1.heap.size≤k from hp1)
  obtain⟨x0,x1,x2,x3,x4⟩:=BX1.out.cells5
  clear H1 hp1 hb1 L1
  unfold ptr
  go_wp2_with fail
  clear x0 x1 x2 x3 x4
  refine (HRN.out _).mono ?_
  rintro e w2 ⟨q,rfl,R2,hq2,hb2⟩
  have HT:=Lib.hid (show Two W w2 p p.g q q.g (HM.new n) (HM.new n) from⟨HL1.out.after hb2,R2,rfl,fun j hj=>Nat.le_trans HL1.out.below.size (hq2 j hj),fun j hj hh=>by have:=HL1.out.at_.lt hh; have:=hq2 j hj; omega⟩)
  have BX2:=Lib.hid (BX1.out.below hb2 BX1.out.lt)
  have HXP:=Lib.hid (show ¬ p.has W.heap.size∧¬ q.has W.heap.size from⟨fun hh=>by have:=HX1.out _ hh; have:=BX.out.lt; omega,fun hh=>by have:=hq2 _ hh; have:=BX1.out.lt; omega⟩)
  clear R2 hq2 hb2
  unfold ptr
  go_wp2_with fail
  refine (HNU.out _).mono ?_
  rintro e w3 ⟨rfl,rfl⟩
  go_wp2_with fail
  generalize p.g=g at *
  generalize q.g=k at *
  go_loopw [8] (fun iv wr=>∃ (j:Nat) (pj qj:HP),iv = .int .i64 (j:Int)∧j≤obN ob∧Hid (Two W wr pj g qj k (allocs n j) (allocs n j))∧Hid (Blk wr W.heap.size 50 #[.int .i64 (n:Int),.int .i64 ob,.int .i64 cp,.int .u64 (fi:Int),.slice A nd c])∧Hid (¬ pj.has W.heap.size∧¬ qj.has W.heap.size)) (fun iv _=>obN ob-(intOf iv).toNat)
  case atStart=>exact⟨0,p,q,rfl,Nat.zero_le _,HT,BX2,HXP⟩
  case round=>
   clear HT BX2 HXP HL1 HB1 BX1 HX1
   obtain⟨j,pj,qj,rfl,hj,HTj,BXj,HXj⟩:=hrel
   obtain⟨x0,x1,x2,x3,x4⟩:=BXj.out.cells5
   by_cases hlt:j<obN ob
   ·have d1:(j:Int)<ob:=by unfold obN at hlt; omega
    have d2:(j:Int)<1000:=by unfold obN at hlt; omega
    have HA:=Lib.hid (HTj.out.live.alloc 0 (by decide) 1 2)
    have hE:=(allocs n j).AllocE_lt 0 1 2
    have HFT:=Lib.hid HTj.out.live.fit
    have HAH:=Lib.hid (show allocs n (j+1)=(allocs n j).AllocH 0 1 2 from rfl)
    simp only [Int.natCast_zero] at HA
    go_wp2_with fail
    clear x0 x1 x2 x3 x4
    refine HA.out.mono ?_
    intro e w4 hD
    obtain⟨p4,q4,rfl,T4,s4⟩:=HTj.out.of_done hD
    obtain⟨BX4,hp4,hq4⟩:=BXj.out.two s4 HXj.out.1 HXj.out.2
    have HRA:=Lib.hid (T4.ralloc HFT.out 0 (by decide) 1 2)
    have HBX4:=Lib.hid BX4
    have HX4:=Lib.hid (And.intro hp4 hq4)
    clear hD T4 s4 BX4 hp4 hq4
    simp only [Int.natCast_zero] at HRA
    generalize (allocs n j).AllocO 0 1 2=O at *
    go_wp2_with fail
    refine HRA.out.mono ?_
    rintro e w5 ⟨p5,q5,rfl,T5,s5⟩
    obtain⟨BX5,hp5,hq5⟩:=HBX4.out.two s5 HX4.out.1 HX4.out.2
    have HT5:=Lib.hid T5
    have HBX5:=Lib.hid BX5
    have HX5:=Lib.hid (And.intro hp5 hq5)
    clear T5 s5 BX5 hp5 hq5
    go_wp2_with fail
    go_roundw
    case rel=>exact⟨j+1,p5,q5,by go_num,by omega,by rw [HAH.out]; exact HT5,HBX5,HX5⟩
    case measure=>simp [intOf]; omega
   ·have hje:j=obN ob:=by omega
    have d1:¬ ((j:Int)<ob∧(j:Int)<1000):=by unfold obN at hje; omega
    have HF:=Lib.hid (HTj.out.live.first)
    have HO:=Lib.hid (objM_lt HTj.out.live.fit)
    have HSR:=Lib.hid (HTj.out.live.setRoot 1 ((allocs n j).objM 1) HO.out)
    have HFT:=Lib.hid HTj.out.live.fit
    have HHP:=Lib.hid (show hpsH n (obN ob)=(allocs n j).setRootH 1 ((allocs n j).objM 1) by rw [← hje]; rfl)
    have HTX:=Lib.hid (fun (w':World) (p' q':HP) (a:HM) (T':Two W w' p' g q' k a (allocs n j))=>(show Calls Tryz.prog 80 #[.pointer (some ⟨k,0,none⟩)] w' (Said (.int .u32 ((allocs n j).objM 1:Nat)) w') from by have hh:=rfirst_any T'.doc HFT.out; rw [ptr,T'.hk] at hh; exact hh))
    clear hje hj hlt
    generalize (allocs n j).objM 1=O at *
    generalize allocs n j=aa at *
    by_cases e1:(j:Int)<ob
    ·have e2:¬ (j:Int)<1000:=fun hh=>d1 ⟨e1,hh⟩
     clear d1
     go_wp2_with fail
     refine HF.out.mono ?_
     rintro e w4 ⟨rfl,rfl⟩
     go_wp2_with fail
     refine HSR.out.mono ?_
     intro e w5 hD
     obtain⟨p5,q5,rfl,T5,s5⟩:=HTj.out.of_done hD
     have HFI:=Lib.hid (HTX.out _ _ _ _ T5)
     have HRS:=Lib.hid (T5.rsetRoot HFT.out 1 O HO.out)
     clear hD T5 s5
     go_wp2_with fail
     refine HFI.out.mono ?_
     rintro e w6 ⟨rfl,rfl⟩
     go_wp2_with fail
     refine HRS.out.mono ?_
     rintro e w7 ⟨p7,q7,rfl,T7,s7⟩
     have HT7:=Lib.hid T7
     clear T7 s7
     go_wp2_with fail
     go_ret3
     exact .inr ⟨HSZ.out.1,HSZ.out.2,p7,q7,g,k,rfl,by rw [show (n:Int).toNat=n from rfl,HHP.out]; exact HT7.out,HT7.out.live.below⟩
    ·clear d1
     go_wp2_with fail
     refine HF.out.mono ?_
     rintro e w4 ⟨rfl,rfl⟩
     go_wp2_with fail
     refine HSR.out.mono ?_
     intro e w5 hD
     obtain⟨p5,q5,rfl,T5,s5⟩:=HTj.out.of_done hD
     have HFI:=Lib.hid (HTX.out _ _ _ _ T5)
     have HRS:=Lib.hid (T5.rsetRoot HFT.out 1 O HO.out)
     clear hD T5 s5
     go_wp2_with fail
     refine HFI.out.mono ?_
     rintro e w6 ⟨rfl,rfl⟩
     go_wp2_with fail
     refine HRS.out.mono ?_
     rintro e w7 ⟨p7,q7,rfl,T7,s7⟩
     have HT7:=Lib.hid T7
     clear T7 s7
     go_wp2_with fail
     go_ret3
     exact .inr ⟨HSZ.out.1,HSZ.out.2,p7,q7,g,k,rfl,by rw [show (n:Int).toNat=n from rfl,HHP.out]; exact HT7.out,HT7.out.live.below⟩
end
section
open Go.RowKit
attribute [local go_sem] Oper.semAt_some
def dsC (l:List (Nat × Nat)):List Value:=l.flatMap fun s=>[.bool (usedB s),.int .u64 (s.1:Int),.int .i64 (s.2:Int)]
theorem dsC_cons (s:Nat × Nat) (l:List (Nat × Nat)):dsC (s :: l) = .bool (usedB s) :: .int .u64 (s.1:Int) :: .int .i64 (s.2:Int) :: dsC l:=rfl
theorem dsC_len:∀ l:List (Nat × Nat),(dsC l).length=3*l.length
 | []=>rfl
 | s :: l=>by rw [dsC_cons,List.length_cons,List.length_cons,List.length_cons,List.length_cons,dsC_len l]; omega
theorem dsC_get:∀ (l:List (Nat × Nat)) (k:Nat),k<l.length→(dsC l)[3*k]? = some (.bool (usedB (l.getD k (0,0))))∧(dsC l)[3*k+1]? = some (.int .u64 ((l.getD k (0,0)).1:Int))∧(dsC l)[3*k+2]? = some (.int .i64 ((l.getD k (0,0)).2:Int))
 | [],k,h=>absurd h (Nat.not_lt_zero _)
 | s :: l,0,_=>⟨rfl,rfl,rfl⟩
 | s :: l,k+1,h=>by
   have:=dsC_get l k (by simpa using h)
   rw [dsC_cons,show 3*(k+1)=3*k+1+1+1 by omega,show 3*k+1+1+1+1=3*k+1+1+1+1 from rfl]
   simpa using this
theorem dsC_set:∀ (l:List (Nat × Nat)) (k:Nat) (v:Nat × Nat),dsC (l.set k v)=(((dsC l).set (3*k) (.bool (usedB v))).set (3*k+1) (.int .u64 (v.1:Int))).set (3*k+2) (.int .i64 (v.2:Int))
 | [],k,v=>by simp [dsC]
 | s :: l,0,v=>rfl
 | s :: l,k+1,v=>by
   rw [List.set_cons_succ,dsC_cons,dsC_cons,dsC_set l k v,show 3*(k+1)=3*k+1+1+1 by omega]
   rfl
theorem dsC_nil (m:Nat):madeCells (Value.agg #[.bool false,.int .u64 0,.int .i64 0]).cells (m*3)=(dsC (List.replicate m (0,0))).toArray:=by
 apply Array.ext
 ·simp [madeCells,dsC_len]; omega
 ·intro i h1 h2
  have hi:i<m*3:=by simpa [madeCells] using h1
  have hg:=dsC_get (List.replicate m (0,0)) (i / 3) (by rw [List.length_replicate]; omega)
  have hz:(List.replicate m ((0,0):Nat × Nat)).getD (i / 3) (0,0)=(0,0):=by
   rw [List.getD_eq_getElem?_getD,List.getElem?_replicate]
   split <;> rfl
  rw [hz] at hg
  have hl:i<(dsC (List.replicate m (0,0))).length:=by simpa using h2
  have e1:(dsC (List.replicate m (0,0))).toArray[i]=(dsC (List.replicate m (0,0)))[i]:=by simp
  rw [e1]
  have e2:(madeCells (Value.agg #[.bool false,.int .u64 0,.int .i64 0]).cells (m*3))[i]=(#[Value.bool false,.int .u64 0,.int .i64 0]:Array Value)[i%3]! :=by simp [madeCells,Value.cells]
  rw [e2]
  have e3:(dsC (List.replicate m (0,0)))[i]? = some ((dsC (List.replicate m (0,0)))[i]):=List.getElem?_eq_getElem hl
  rcases (by omega:i%3=0∨i%3=1∨i%3=2) with hr | hr | hr
  ·rw [show 3*(i / 3)=i by omega] at hg
   rw [hr]
   exact Option.some.inj (hg.1.symm.trans e3)
  ·rw [show 3*(i / 3)+1=i by omega] at hg
   rw [hr]
   exact Option.some.inj (hg.2.1.symm.trans e3)
  ·rw [show 3*(i / 3)+2=i by omega] at hg
   rw [hr]
   exact Option.some.inj (hg.2.2.symm.trans e3)
theorem info_dslot:(Tryz.prog.info? 209).map (fun i=>(i.zero,i.size,i.bytes))=some (some (Value.agg #[.bool false,.int .u64 0,.int .i64 0]),3,24):=by kernel_rfl
theorem make_dslots (m:Nat) (hm:m≤256) (w:World):
 (Instr.makeSlice 116 (.int .i64 (m:Int)) (.int .i64 (m:Int))).run Tryz.prog w = .ok (.slice (some ⟨w.heap.size,0,none⟩) m m) (w.alloc (.cells (dsC (List.replicate m (0,0))).toArray 209)):=by
 obtain⟨i0,hi0,hz0,hz1,hz2⟩:=info_parts info_dslot
 have:=run_make_rowN (P:=Tryz.prog) 116 209 i0 _ Tryz.underlying116 hi0 hz0 .i64 .i64 m m (Nat.le_refl _) (by rw [hz2]; omega) (by omega) w
 rw [hz1,dsC_nil] at this
 exact this
def dtabC (k kb:Nat) (t:TM):Array Value:=#[.pointer (some ⟨k,0,none⟩),.slice (some ⟨kb,0,none⟩) t.cap t.cap,.int .i64 (t.now:Int),.int .u64 (t.next:Int)]
structure DT (W w:World) (q:HP) (k kt kb:Nat) (h:HM) (t:TM):Prop where
 doc:RAt w q h
 hk:q.g=k
 tab:Blk w kt 118 (dtabC k kb t)
 row:Blk w kb 209 (dsC (t.slots.take t.cap)).toArray
 ok:t.Ok
 good:∃ l,h.Good l
 new:∀ j,q.has j∨j=kt∨j=kb→W.heap.size≤j
 low:Below W.heap.size W w
structure DKeep (q:HP) (kt kb:Nat) (w w':World):Prop where
 os:w'.os=w.os
 tape:w'.tape=w.tape
 output:w'.output=w.output
 size:w.heap.size≤w'.heap.size
 block:∀ j,j<w.heap.size→¬ q.has j→j≠kt→j≠kb→w'.heap[j]? = w.heap[j]?
section
variable {W w w' w'':World} {q:HP} {k kt kb:Nat} {h h':HM} {t t':TM}
theorem DKeep.refl (q:HP) (kt kb:Nat) (w:World):DKeep q kt kb w w:=⟨rfl,rfl,rfl,Nat.le_refl _,fun _ _ _ _ _=>rfl⟩
theorem DKeep.of_below (hb:Below w.heap.size w w'):DKeep q kt kb w w':=⟨hb.os,hb.tape,hb.output,hb.size,fun j hj _ _ _=>hb.block j hj⟩
theorem DKeep.of_step (s:Step q q w w'):DKeep q kt kb w w':=⟨s.os,s.tape,s.output,s.size,fun j hj hn _ _=>s.block j hj hn⟩
theorem DKeep.trans (a:DKeep q kt kb w w') (b:DKeep q kt kb w' w''):DKeep q kt kb w w'':=
 ⟨b.os.trans a.os,b.tape.trans a.tape,b.output.trans a.output,Nat.le_trans a.size b.size,fun j hj hn h1 h2=>(b.block j (Nat.lt_of_lt_of_le hj a.size) hn h1 h2).trans (a.block j hj hn h1 h2)⟩
theorem DKeep.after (a:DKeep q kt kb w w') (hb:Below w'.heap.size w' w''):DKeep q kt kb w w'':=a.trans (.of_below hb)
theorem DKeep.tab (a:DKeep q kt kb w w') (i:Nat) (v:Value):DKeep q kt kb w (w'.setCell ⟨kt,i,none⟩ v):=
 ⟨a.os,a.tape,a.output,by simpa [World.setCell] using a.size,fun j hj hn h1 h2=>(Below.heap_setCell w' ⟨kt,i,none⟩ v j h1).trans (a.block j hj hn h1 h2)⟩
theorem DKeep.row (a:DKeep q kt kb w w') (i:Nat) (v:Value):DKeep q kt kb w (w'.setCell ⟨kb,i,none⟩ v):=
 ⟨a.os,a.tape,a.output,by simpa [World.setCell] using a.size,fun j hj hn h1 h2=>(Below.heap_setCell w' ⟨kb,i,none⟩ v j h2).trans (a.block j hj hn h1 h2)⟩
theorem DKeep.drew (a:DKeep q kt kb w w'):DKeep q kt kb w w'.drew:=⟨a.os,a.tape,a.output,a.size,a.block⟩
theorem DT.apart (D:DT W w q k kt kb h t):¬ q.has kt∧¬ q.has kb∧kt≠kb:=by
 obtain⟨hb,hw,hs,hr⟩:=D.doc
 refine⟨?_,?_,D.tab.ne_ D.row (by decide)⟩
 ·rintro (e | e | e | e)
  ·exact D.tab.ne_ hb (by decide) e
  ·exact Row.ne_blk hw D.tab (by decide) e.symm
  ·exact Row.ne_blk hs D.tab (by decide) e.symm
  ·exact Row.ne_blk hr D.tab (by decide) e.symm
 ·rintro (e | e | e | e)
  ·exact D.row.ne_ hb (by decide) e
  ·exact Row.ne_blk hw D.row (by decide) e.symm
  ·exact Row.ne_blk hs D.row (by decide) e.symm
  ·exact Row.ne_blk hr D.row (by decide) e.symm
theorem DT.same (D:DT W w q k kt kb h t) (hs:∀ j,q.has j∨j=kt∨j=kb→w'.heap[j]? = w.heap[j]?) (hb:Below W.heap.size W w'):DT W w' q k kt kb h t:=
 ⟨D.doc.same fun j hj=>hs j (.inl hj),D.hk,D.tab.same (hs kt (.inr (.inl rfl))),D.row.same (hs kb (.inr (.inr rfl))),D.ok,D.good,D.new,hb⟩
theorem DT.lt (D:DT W w q k kt kb h t):∀ j,q.has j∨j=kt∨j=kb→j<w.heap.size:=by
 rintro j (hj | rfl | rfl)
 ·exact D.doc.lt hj
 ·exact D.tab.lt
 ·exact D.row.lt
theorem DT.after (D:DT W w q k kt kb h t) (hb:Below w.heap.size w w'):DT W w' q k kt kb h t:=
 D.same (fun j hj=>hb.block j (D.lt j hj)) (below_top D.low hb)
theorem DT.drew (D:DT W w q k kt kb h t):DT W w.drew q k kt kb h t:=D.after (below_drew (Below.refl _ _))
theorem DT.heap (D:DT W w q k kt kb h t) (R:RAt w' q h') (s:Step q q w w') (G:∃ l,h'.Good l):DT W w' q k kt kb h' t:=
 ⟨R,D.hk,D.tab.same (s.block kt D.tab.lt D.apart.1),D.row.same (s.block kb D.row.lt D.apart.2.1),D.ok,G,D.new,s.below D.low fun j hj=>D.new j (.inl hj)⟩
theorem DT.setNow (D:DT W w q k kt kb h t) (n:Nat) (O:({ t with now:=n }:TM).Ok):DT W (w.setCell ⟨kt,2,none⟩ (.int .i64 (n:Int))) q k kt kb h { t with now:=n }:=
 ⟨D.doc.same fun j hj=>Below.heap_setCell w ⟨kt,2,none⟩ _ j (fun e=>D.apart.1 ((show j=kt from e) ▸ hj)),D.hk,D.tab.set_ 2 _,D.row.far (p:=⟨kt,2,none⟩) (fun e=>D.apart.2.2 e.symm) _,O,D.good,D.new,D.low.setCell (p:=⟨kt,2,none⟩) (D.new kt (.inr (.inl rfl))) _⟩
theorem DT.setNext (D:DT W w q k kt kb h t) (n:Nat) (O:({ t with next:=n }:TM).Ok):DT W (w.setCell ⟨kt,3,none⟩ (.int .u64 (n:Int))) q k kt kb h { t with next:=n }:=
 ⟨D.doc.same fun j hj=>Below.heap_setCell w ⟨kt,3,none⟩ _ j (fun e=>D.apart.1 ((show j=kt from e) ▸ hj)),D.hk,D.tab.set_ 3 _,D.row.far (p:=⟨kt,3,none⟩) (fun e=>D.apart.2.2 e.symm) _,O,D.good,D.new,D.low.setCell (p:=⟨kt,3,none⟩) (D.new kt (.inr (.inl rfl))) _⟩
theorem take_getS {α:Type} (l:List α) (c k:Nat) (hk:k<c) (d:α):(l.take c).getD k d=l.getD k d:=by
 rw [List.getD_eq_getElem?_getD,List.getD_eq_getElem?_getD,List.getElem?_take,if_pos hk]
theorem DT.slotsLen (D:DT W w q k kt kb h t):(t.slots.take t.cap).length=t.cap:=by
 rw [List.length_take,D.ok.len]
 have:=D.ok.hi
 omega
theorem DT.slot (D:DT W w q k kt kb h t) {i:Nat} (v:Nat × Nat) (O:({ t with slots:=t.slots.set i v }:TM).Ok):
 DT W (((w.setCell ⟨kb,i*3,none⟩ (.bool (usedB v))).setCell ⟨kb,i*3+1,none⟩ (.int .u64 (v.1:Int))).setCell ⟨kb,i*3+2,none⟩ (.int .i64 (v.2:Int))) q k kt kb h { t with slots:=t.slots.set i v }:=by
 rw [Nat.mul_comm i 3]
 have ha:=D.apart
 refine⟨D.doc.same fun j hj=>?_,D.hk,?_,?_,O,D.good,D.new,?_⟩
 ·have hj2:j≠kb:=fun e=>ha.2.1 (e ▸ hj)
  rw [Below.heap_setCell _ ⟨kb,3*i+2,none⟩ _ j hj2,Below.heap_setCell _ ⟨kb,3*i+1,none⟩ _ j hj2,Below.heap_setCell _ ⟨kb,3*i,none⟩ _ j hj2]
 ·exact ((D.tab.far (p:=⟨kb,3*i,none⟩) ha.2.2 _).far (p:=⟨kb,3*i+1,none⟩) ha.2.2 _).far (p:=⟨kb,3*i+2,none⟩) ha.2.2 _
 ·have h1:=((D.row.set_ (3*i) (.bool (usedB v))).set_ (3*i+1) (.int .u64 (v.1:Int))).set_ (3*i+2) (.int .i64 (v.2:Int))
  rw [set_arr,set_arr,set_arr,← dsC_set,← List.take_set] at h1
  exact h1
 ·have hn:=D.new kb (.inr (.inr rfl))
  exact ((D.low.setCell (p:=⟨kb,3*i,none⟩) hn _).setCell (p:=⟨kb,3*i+1,none⟩) hn _).setCell (p:=⟨kb,3*i+2,none⟩) hn _
theorem DT.expiry (D:DT W w q k kt kb h t) {i:Nat} (hi:i<t.cap) (n:Nat) (O:({ t with slots:=t.slots.set i ((t.at i).1,n) }:TM).Ok) (hu:usedB (t.at i)=usedB ((t.at i).1,n)):
 DT W (w.setCell ⟨kb,i*3+2,none⟩ (.int .i64 (n:Int))) q k kt kb h { t with slots:=t.slots.set i ((t.at i).1,n) }:=by
 rw [Nat.mul_comm i 3]
 have ha:=D.apart
 refine⟨D.doc.same fun j hj=>Below.heap_setCell _ ⟨kb,3*i+2,none⟩ _ j (fun e=>ha.2.1 ((show j=kb from e) ▸ hj)),D.hk,D.tab.far (p:=⟨kb,3*i+2,none⟩) ha.2.2 _,?_,O,D.good,D.new,D.low.setCell (p:=⟨kb,3*i+2,none⟩) (D.new kb (.inr (.inr rfl))) _⟩
 have h1:=D.row.set_ (3*i+2) (.int .i64 (n:Int))
 have hg:=dsC_get (t.slots.take t.cap) i (by rw [D.slotsLen]; exact hi)
 rw [take_getS _ _ _ hi] at hg
 rw [set_arr] at h1
 have e:dsC ((t.slots.set i ((t.at i).1,n)).take t.cap)=(dsC (t.slots.take t.cap)).set (3*i+2) (.int .i64 (n:Int)):=by
  rw [List.take_set,dsC_set,← hu]
  congr 1
  obtain⟨l0,e0⟩:=List.getElem?_eq_some_iff.1 hg.1
  obtain⟨l1,e1⟩:=List.getElem?_eq_some_iff.1 hg.2.1
  rw [show (Value.bool (usedB (t.at i)))=(dsC (t.slots.take t.cap))[3*i] from e0.symm,List.set_getElem_self,show (Value.int .u64 (((t.at i).1,n).1:Int))=(dsC (t.slots.take t.cap))[3*i+1] from e1.symm,List.set_getElem_self]
 show Blk _ kb _ (dsC ((t.slots.set i ((t.at i).1,n)).take t.cap)).toArray
 rw [e]
 exact h1
theorem DT.c0 (D:DT W w q k kt kb h t):w.cell? ⟨kt,0,none⟩=some (.pointer (some ⟨k,0,none⟩)):=D.tab.cell 0
theorem DT.c1 (D:DT W w q k kt kb h t):w.cell? ⟨kt,1,none⟩=some (.slice (some ⟨kb,0,none⟩) t.cap t.cap):=D.tab.cell 1
theorem DT.c2 (D:DT W w q k kt kb h t):w.cell? ⟨kt,2,none⟩=some (.int .i64 (t.now:Int)):=D.tab.cell 2
theorem DT.c3 (D:DT W w q k kt kb h t):w.cell? ⟨kt,3,none⟩=some (.int .u64 (t.next:Int)):=D.tab.cell 3
theorem DT.cell (D:DT W w q k kt kb h t) {i:Nat} (hi:i<t.cap):w.cell? ⟨kb,i*3,none⟩=some (.bool (usedB (t.at i)))∧w.cell? ⟨kb,i*3+1,none⟩=some (.int .u64 ((t.at i).1:Int))∧w.cell? ⟨kb,i*3+2,none⟩=some (.int .i64 ((t.at i).2:Int)):=by
 have hg:=dsC_get (t.slots.take t.cap) i (by rw [D.slotsLen]; exact hi)
 rw [take_getS _ _ _ hi] at hg
 rw [Nat.mul_comm i 3,D.row.cell,D.row.cell,D.row.cell,List.getElem?_toArray,List.getElem?_toArray,List.getElem?_toArray]
 exact hg
theorem DT.fit (D:DT W w q k kt kb h t):h.Fit:=by obtain⟨l,G⟩:=D.good; exact G.fit
theorem DT.heads (D:DT W w q k kt kb h t):h.Heads:=by obtain⟨l,G⟩:=D.good; exact G.laid.heads
end
def DDone (W:World) (q:HP) (k kt kb:Nat) (h:HM) (t:TM) (v:Value) (w:World) (e:Ending) (w':World):Prop:=
 e = .returned v∧DT W w' q k kt kb h t∧DKeep q kt kb w w'
theorem alloc_valB {h:HM} (f:h.Fit) {c:Nat} {t n:Int} (he:h.AllocE c t n=0):(h.AllocH c t n).valB (h.AllocO c t n)=true:=by
 have hm:=f.marks
 unfold HM.valB
 cases ho:objB (h.AllocO c t n) with
 | false=>rfl
 | true=>
   unfold HM.isB
   rw [ho]
   unfold HM.AllocO
   rw [HM.AllocH_eq,if_pos he,if_pos he]
   show (!true || (true && (h.starts++(true :: List.replicate _ false)).getD (2*h.words.length / 2) false))=true
   rw [List.getD_eq_getElem?_getD,List.getElem?_append_right (by omega),show 2*h.words.length / 2-h.starts.length=0 by omega]
   rfl
def RNewP (q:HP) (k:Nat) (b:HM) (n:Int) (first:Nat) (w:World) (e:Ending) (w':World):Prop:=
 (nwE b n first≠0∧∃ q',e = .returned (.tuple #[.pointer none,.int .i64 (nwE b n first:Nat)])∧RAt w' q' b∧Step q q' w w')∨
 (nwE b n first=0∧∃ q' kt kb,e = .returned (.tuple #[.pointer (some ⟨kt,0,none⟩),.int .i64 0])∧RAt w' q' (nwH b n)∧Blk w' kt 118 (dtabC k kb (TM.fresh n.toNat first))∧Blk w' kb 209 (dsC ((TM.fresh n.toNat first).slots.take (TM.fresh n.toNat first).cap)).toArray∧Step q q' w w'∧w.heap.size≤kt∧w.heap.size≤kb)
theorem kind_odd (c:Nat):(((c:Int)%2) == 1)=decide (kindM c=1):=by
 unfold kindM
 by_cases h0:c=0
 ·subst h0; rfl
 ·rw [if_neg h0]
  by_cases h1:c%2=1
  ·rw [if_pos h1]; simp; omega
  ·rw [if_neg h1]; simp; omega
set_option maxRecDepth 100000 in
set_option maxHeartbeats 4000000 in
theorem rtnew_any {w:World} {q:HP} {k:Nat} {b:HM} (R:RAt w q b) (hk0:q.g=k) (f:b.Fit) (n:Int) (first:Nat) (hf:first<18446744073709551616):Calls Tryz.prog 48 #[.pointer (some ⟨k,0,none⟩),.int .i64 n,.int .u64 (first:Int)] w (RNewP q k b n first w):=by
 have HE:=Lib.hid (show nwE b n first=if n<1∨256<n∨first=0 then 1 else if kindM (b.roots.getD 20 0)=1 then 3 else b.AllocE (b.roots.getD 20 0) 1 n from rfl)
 have HT:=Lib.hid R
 have HK0:=Lib.hid hk0
 by_cases hr:n<1∨256<n∨first=0
 ·have he:nwE b n first=1:=by rw [HE.out,if_pos hr]
  have HV:=Lib.hid he
  clear he HE R hk0
  by_cases h1:n<1
  ·clear hr
   go_enter Tryz.func48,Tryz.ntmps48
   go_wp2_with fail
   go_ret2
   exact .inl ⟨by rw [HV.out]; decide,q,by rw [HV.out]; rfl,HT.out,Step.refl _ _⟩
  ·by_cases h2:256<n
   ·clear hr
    go_enter Tryz.func48,Tryz.ntmps48
    go_wp2_with fail
    go_ret2
    exact .inl ⟨by rw [HV.out]; decide,q,by rw [HV.out]; rfl,HT.out,Step.refl _ _⟩
   ·obtain rfl:first=0:=by omega
    clear hr
    simp only [Int.natCast_zero]
    go_enter Tryz.func48,Tryz.ntmps48
    go_wp2_with fail
    go_ret2
    exact .inl ⟨by rw [HV.out]; decide,q,by rw [HV.out]; rfl,HT.out,Step.refl _ _⟩
 ·have h1:¬ n<1:=fun hh=>hr (.inl hh)
  have h2:¬ 256<n:=fun hh=>hr (.inr (.inl hh))
  have h3:¬ first=0:=fun hh=>hr (.inr (.inr hh))
  have h4:((first:Int) == 0)=false:=by simpa using h3
  have HE2:=Lib.hid (HE.out.trans (if_neg hr))
  have hroots:=f.roots
  have c2:=R.c2
  have x20:=R.root (i:=20) (by omega)
  rw [hk0,hroots] at c2
  have hc:=f.root 20
  have HA:=rAlloc_any R f (b.roots.getD 20 0) hc 1 n
  rw [HM.AllocV_eq,ptr,hk0] at HA
  have HA:=Lib.hid HA
  have HNW:=Lib.hid (show nwH b n=(b.AllocH (b.roots.getD 20 0) 1 n).setRootH 40 (b.AllocO (b.roots.getD 20 0) 1 n) from rfl)
  have HO:=Lib.hid (show b.AllocE (b.roots.getD 20 0) 1 n≠0→b.AllocH (b.roots.getD 20 0) 1 n=b from fun hh=>by rw [HM.AllocH_eq,if_neg hh])
  have HVB:=Lib.hid (fun he=>alloc_valB f (c:=b.roots.getD 20 0) (t:=1) (n:=n) he)
  have HFT:=Lib.hid (show b.AllocE (b.roots.getD 20 0) 1 n=0→(b.AllocH (b.roots.getD 20 0) 1 n).roots.length=64 from fun hh=>by rw [HM.AllocH_eq,if_pos hh]; exact hroots)
  have hks:=kind_odd (b.roots.getD 20 0)
  have HAE:=b.AllocE_lt (b.roots.getD 20 0) 1 n
  clear HE R hr hroots hk0
  generalize b.roots.getD 20 0=c at *
  by_cases hk:kindM c=1
  ·have he:nwE b n first=3:=by rw [HE2.out,if_pos hk]
   have HV:=Lib.hid he
   rw [decide_eq_true hk] at hks
   clear he HE2 HA HO HNW HAE hk HVB HFT
   go_enter Tryz.func48,Tryz.ntmps48
   go_wp2_with fail
   go_ret2
   exact .inl ⟨by rw [HV.out]; decide,q,by rw [HV.out]; rfl,HT.out,Step.refl _ _⟩
  ·have HE3:=Lib.hid (HE2.out.trans (if_neg hk))
   rw [decide_eq_false hk] at hks
   clear HE2 hk
   by_cases ha:b.AllocE c 1 n=0
   ·have HV:=Lib.hid (HE3.out.trans ha)
    have HVB:=Lib.hid (HVB.out ha)
    have HFT:=Lib.hid (HFT.out ha)
    rw [ha] at HA
    obtain⟨m,rfl⟩:=Int.eq_ofNat_of_zero_le (show 0≤n by omega)
    have HMK:=Lib.hid (make_dslots m (by omega))
    have HTK:=Lib.hid (show (TM.fresh m first).slots.take (TM.fresh m first).cap=List.replicate m (0,0) by
     show (List.replicate 256 ((0,0):Nat × Nat)).take m=_
     rw [List.take_replicate]; congr 1; omega)
    clear HE3 HO HAE
    generalize b.AllocO c 1 m=o at *
    generalize b.AllocH c 1 m=b2 at *
    go_enter Tryz.func48,Tryz.ntmps48
    go_wp2_with fail
    refine HA.out.mono ?_
    rintro e w1 ⟨q1,rfl,T1,s1⟩
    have y2:=T1.c2
    have y40:=T1.root (i:=40) (by rw [HFT.out]; decide)
    have y40f:=T1.2.2.2.frozen 40
    rw [s1.g.trans HK0.out,HFT.out] at y2
    have HT1:=Lib.hid T1
    have HS1:=Lib.hid s1
    have hmk:=fun w=>HMK.out w
    clear T1 s1 c2 x20
    go_wp2_with fail
    go_ret2
    have R2:=HT1.out.setRoot 40 o
    have s2:=HS1.out.setCell (a:=⟨q1.gr,40,none⟩) ((HS1.out.rows q1.gr (.inr (.inr (.inr rfl))))) (.int .u32 o)
    have e2:nwH b m={ b2 with roots:=b2.roots.set 40 o }:=by
     rw [HNW.out]
     unfold HM.setRootH HM.setRootE
     rw [HVB.out]
     rfl
    have hb3:=(Below.refl (w1.setCell ⟨q1.gr,40,none⟩ (.int .u32 o)).heap.size (w1.setCell ⟨q1.gr,40,none⟩ (.int .u32 o))).alloc (Nat.le_refl _) (.cells (dsC (List.replicate m (0,0))).toArray 209)
    have hb4:=hb3.alloc hb3.size (.cells #[.pointer (some ⟨k,0,none⟩),.slice (some ⟨w1.heap.size,0,none⟩) m m,.int .i64 0,.int .u64 (first:Int)] 118)
    have B3:=(Blk.new (w1.setCell ⟨q1.gr,40,none⟩ (.int .u32 o)) 209 (dsC (List.replicate m (0,0))).toArray).alloc (.cells #[.pointer (some ⟨k,0,none⟩),.slice (some ⟨w1.heap.size,0,none⟩) m m,.int .i64 0,.int .u64 (first:Int)] 118)
    have B4:=Blk.new ((w1.setCell ⟨q1.gr,40,none⟩ (.int .u32 o)).alloc (.cells (dsC (List.replicate m (0,0))).toArray 209)) 118 #[.pointer (some ⟨k,0,none⟩),.slice (some ⟨w1.heap.size,0,none⟩) m m,.int .i64 0,.int .u64 (first:Int)]
    have hsz:(w1.setCell ⟨q1.gr,40,none⟩ (.int .u32 o)).heap.size=w1.heap.size:=by simp [World.setCell]
    have hsz2:((w1.setCell ⟨q1.gr,40,none⟩ (.int .u32 o)).alloc (.cells (dsC (List.replicate m (0,0))).toArray 209)).heap.size=w1.heap.size+1:=by rw [World.size_alloc,hsz]
    rw [hsz] at B3
    rw [hsz2] at B4
    refine .inr ⟨HV.out,q1,w1.heap.size+1,w1.heap.size,rfl,by rw [e2]; exact R2.below hb4,B4,?_,s2.below' hb4,by have:=HS1.out.size; omega,HS1.out.size⟩
    rw [Int.toNat_natCast,HTK.out]
    exact B3
   ·have HV:=Lib.hid HE3.out
    have hne:((b.AllocE c 1 n:Int) != 0)=true:=by simp; omega
    rw [HO.out ha] at HA
    have HA0:=Lib.hid ha
    generalize b.AllocE c 1 n=E at *
    clear HE3 HO HAE ha HVB HFT
    go_enter Tryz.func48,Tryz.ntmps48
    go_wp2_with fail
    refine HA.out.mono ?_
    rintro e w1 ⟨q1,rfl,T1,s1⟩
    have HT1:=Lib.hid T1
    have HS1:=Lib.hid s1
    clear T1 s1
    go_wp2_with fail
    go_ret2
    exact .inl ⟨by rw [HV.out]; exact HA0.out,q1,by rw [HV.out]; rfl,HT1.out,HS1.out⟩
end
section
open Go.RowKit
attribute [local go_sem] Oper.semAt_some
def hps (sz ob:Int):HM:=hpsH sz.toNat (obN ob)
theorem add_cell (a:Addr) (n i:Nat):(⟨(a.add n).block,(a.add n).off+(i+1),none⟩ :Addr)=a.add (n+(i+1)):=by
 unfold Addr.add
 by_cases h:n=0
 ·subst h; simp
 ·rw [if_neg h,if_neg (by omega)]; simp [Nat.add_assoc]
theorem hds_take {xs ys:List H3} {k:Nat} {x y:H3} (hx:xs[k]? = some x) (hy:ys[k]? = some y) (he:x=y) (ht:xs.take k=ys.take k):xs.take (k+1)=ys.take (k+1):=by
 rw [List.take_add_one,List.take_add_one,ht,hx,hy,he]
set_option maxRecDepth 100000 in
set_option maxHeartbeats 4000000 in
theorem sameHandles_any (A A':Option Addr) (n n' c c':Nat) (xs ys:List H3) (w:World) (hn:n≤9223372036854775807) (hn':n'≤9223372036854775807) (hr:Reads w w.heap.size 3 A n (hdsC xs)) (hr':Reads w w.heap.size 3 A' n' (hdsC ys)):
 Calls Tryz.prog 39 #[.slice A n c,.slice A' n' c'] w (Told (.bool (decide (xs=ys))) w):=by
 have hl:xs.length=n:=by have:=hr.1; rw [hdsC_len] at this; omega
 have hl':ys.length=n':=by have:=hr'.1; rw [hdsC_len] at this; omega
 have HL:=Lib.hid hl; have HL':=Lib.hid hl'
 clear hl hl'
 have HR:=Lib.hid hr; have HR':=Lib.hid hr'
 clear hr hr'
 by_cases hnn:n=n'
 ·subst hnn
  go_enter Tryz.func39,Tryz.ntmps39
  go_wp2_with fail
  go_loopw [5] (fun i wr=>∃ k:Nat,k≤n∧i = .int .i64 k∧Hid (xs.take k=ys.take k)∧Hid (Below w.heap.size w wr)) (fun i _=>n-(intOf i).toNat)
  case atStart=>exact⟨0,by omega,rfl,Lib.hid rfl,Lib.hid (Below.refl _ _)⟩
  case round=>
   obtain⟨k,hk,rfl,HT,HB⟩:=hrel
   by_cases hlt:k<n
   ·obtain⟨x,hx⟩ :∃ x,xs[k]? = some x:=⟨_,List.getElem?_eq_getElem (by rw [HL.out]; exact hlt)⟩
    obtain⟨y,hy⟩ :∃ y,ys[k]? = some y:=⟨_,List.getElem?_eq_getElem (by rw [HL'.out]; exact hlt)⟩
    obtain⟨ad,rfl,hbl,hc⟩:=HR.out.2 (by omega)
    obtain⟨ad',rfl,hbl',hc'⟩:=HR'.out.2 (by omega)
    have g0:=hdsC_get hx
    have g1:=hdsC_get hy
    have a0:=(HB.out.cell (p:=ad.add (k*3)) (by rw [block_of_add]; exact hbl)).trans (hc _ _ g0.1)
    have a1:=(HB.out.cell (p:=ad.add (k*3+1)) (by rw [block_of_add]; exact hbl)).trans (hc _ _ g0.2.1)
    have a2:=(HB.out.cell (p:=ad.add (k*3+2)) (by rw [block_of_add]; exact hbl)).trans (hc _ _ g0.2.2)
    have b0:=(HB.out.cell (p:=ad'.add (k*3)) (by rw [block_of_add]; exact hbl')).trans (hc' _ _ g1.1)
    have b1:=(HB.out.cell (p:=ad'.add (k*3+1)) (by rw [block_of_add]; exact hbl')).trans (hc' _ _ g1.2.1)
    have b2:=(HB.out.cell (p:=ad'.add (k*3+2)) (by rw [block_of_add]; exact hbl')).trans (hc' _ _ g1.2.2)
    rw [← add_cell ad (k*3) 0] at a1
    rw [← add_cell ad (k*3) 1] at a2
    rw [← add_cell ad' (k*3) 0] at b1
    rw [← add_cell ad' (k*3) 1] at b2
    have HX:=Lib.hid hx
    have HY:=Lib.hid hy
    clear hx hy g0 g1 hc hc' hbl hbl' HR HR'
    rcases x with ⟨x0,x1,x2⟩
    rcases y with ⟨y0,y1,y2⟩
    dsimp only at a0 a1 a2 b0 b1 b2
    by_cases he:((x0,x1,x2):H3)=(y0,y1,y2)
    ·obtain⟨rfl,rfl,rfl⟩ :x0=y0∧x1=y1∧x2=y2:=by simpa using he
     have HE:=Lib.hid (hds_take HX.out HY.out rfl HT.out)
     clear he
     go_upto_region 6 with fail
     go_region
     all_goals go_wp2_with fail
     all_goals go_roundw
     case rel=>exact⟨k+1,by omega,by go_num,HE,Lib.hid (below_drew HB.out)⟩
     case measure=>simp [intOf]; omega
    ·have HN:=Lib.hid (show ¬ xs=ys from fun e=>he (Option.some.inj (by rw [← HX.out,← HY.out,e])))
     have hc:((x0:Int) == (y0:Int))=false∨(x0=y0∧((x1:Int) == (y1:Int))=false)∨(x0=y0∧x1=y1∧((x2:Int) == (y2:Int))=false):=by
      by_cases h0:x0=y0
      ·by_cases h1:x1=y1
       ·by_cases h2:x2=y2
        ·exact absurd (by rw [h0,h1,h2]) he
        ·exact .inr (.inr ⟨h0,h1,by simp; omega⟩)
       ·exact .inr (.inl ⟨h0,by simp; omega⟩)
      ·exact .inl (by simp; omega)
     clear he HX HY
     rcases hc with h0 | ⟨rfl,h1⟩ | ⟨rfl,rfl,h2⟩
     all_goals
      go_upto_region 6 with fail
      go_region
      all_goals go_wp2_with fail
      all_goals go_ret
      all_goals exact⟨by rw [decide_eq_false HN.out]; rfl,below_drew HB.out⟩
   ·obtain rfl:k=n:=by omega
    have HA:=Lib.hid (show xs=ys by have h1:=HT.out; rw [List.take_of_length_le (by rw [HL.out]; exact Nat.le_refl _),List.take_of_length_le (by rw [HL'.out]; exact Nat.le_refl _)] at h1; exact h1)
    go_wp2_with fail
    go_ret
    exact⟨by rw [decide_eq_true HA.out]; rfl,HB.out⟩
 ·have HF:=Lib.hid (show ¬ xs=ys from fun e=>hnn (by rw [← HL.out,← HL'.out,e]))
  have hv:((n:Int) != (n':Int))=true:=by simp; omega
  clear hnn
  go_enter Tryz.func39,Tryz.ntmps39
  go_wp2_with fail
  go_ret
  exact⟨by rw [decide_eq_false HF.out]; rfl,Below.refl _ _⟩
end
section
open Go.RowKit
attribute [local go_sem] Oper.semAt_some
def hwk0:HM:=hpsH 200 3
def hwk1:HM:=nwH hwk0 2
def htk0:TM:=TM.fresh 2 1
def htk1:TM:=issT hwk1 htk0 2 5
def hwk2:HM:=issH hwk1 htk0 2 5
def htk2:TM:=issT hwk2 htk1 12 3
def hwk3:HM:=issH hwk2 htk1 12 3
def htk3:TM:=issT hwk3 htk2 22 9
def hwk4:HM:=issH hwk3 htk2 22 9
def htk4:TM:=tikT hwk4 htk3 3
def hwk5:HM:=tikH hwk4 htk3 3
def htk5:TM:=issT hwk5 htk4 22 9
def hwk6:HM:=issH hwk5 htk4 22 9
theorem hwk_new:nwE hwk0 2 1=0:=by decide +kernel
theorem hwk_i1:issE hwk1 htk0 2 5=0∧issV hwk1 htk0 2 5=1:=by decide +kernel
theorem hwk_i2:issE hwk2 htk1 12 3=0∧issV hwk2 htk1 12 3=2:=by decide +kernel
theorem hwk_i3:issE hwk3 htk2 22 9=161:=by decide +kernel
theorem hwk_t:tikE hwk4 htk3 3=0:=by decide +kernel
theorem hwk_l:(htk3.pass 3).ids ((htk3.pass 3).goneK 256)=[2]:=by decide +kernel
theorem sortN_one (x:Nat):sortN [x]=[x]:=by simp [sortN]
theorem hwk_tl:tikL hwk4 htk3 3=[2]:=by
 unfold tikL
 rw [if_pos hwk_t,show (3:Int).toNat=3 from rfl,hwk_l,sortN_one]
theorem hwk_i4:issE hwk5 htk4 22 9=0∧issV hwk5 htk4 22 9=3:=by decide +kernel
theorem hwk_g:fndE hwk6 htk5 2=160:=by decide +kernel
theorem HKeep.row {p:HP} {gt:Nat} {w w':World} {B s n:Nat} {e:TypeId} {v:Value} {xs:List Value} (K:HKeep p gt w w') (h:w.ownsRow B e s v n xs) (hB:∀ k,B≤k→¬ p.has k∧k≠gt):w'.ownsRow B e s v n xs:=
 own_keep h fun q hq=>K.block q (h.lt q hq).2 (hB q (h.lt q hq).1).1 (hB q (h.lt q hq).1).2
theorem HT.above {W w:World} {p:HP} {g gt:Nat} {h:HM} {t:TM} (T:HT W w p g gt h t):∀ k,w.heap.size≤k→¬ p.has k∧k≠gt:=
 fun k hk=>⟨fun hh=>by have:=T.live.at_.lt hh; omega,fun e=>by have:=T.tab.lt; omega⟩
set_option maxRecDepth 100000 in
set_option maxHeartbeats 4000000 in
theorem hawake_any (W:World) (E:Env W):Calls Tryz.prog 21 #[] W (Told (.bool true) W):=by
 have HH:=Lib.hid (show Calls Tryz.prog 22 #[.agg #[.int .i64 200,.int .i64 3,.int .i64 0,.int .u64 0,.slice none 0 0]] W (HeapsP W 200 3) from heaps_any W E 200 3 0 0 none 0 0)
 have HNU:=Lib.hid (fun E hE w'=>hnum_any E hE w')
 clear E
 go_enter Tryz.func21,Tryz.ntmps21
 go_wp2_with fail
 refine HH.out.mono ?_
 rintro e w1 (⟨hz,-,-⟩ | ⟨-,-,p1,q1,g,k,rfl,T1,hb1⟩)
 ·omega
 have L1:Live W w1 p1 g hwk0:=T1.live
 have HNW:=Lib.hid (show Calls Tryz.prog 23 #[.pointer (some ⟨g,0,none⟩),.int .i64 2,.int .u64 1] w1 (NewP W p1 g hwk0 2 1 w1) from tnew_any L1 2 1 (by decide))
 clear T1 hb1 L1 HH
 go_wp2_with fail
 refine HNW.out.mono ?_
 rintro e w2 (⟨hne,-⟩ | ⟨-,p2,gt,rfl,T2,s2,hgt⟩)
 ·exact absurd hwk_new hne
 have T2:HT W w2 p2 g gt hwk1 htk0:=T2
 have H1:=tissue_any T2 2 (by decide) 5
 rw [hwk_i1.1,hwk_i1.2] at H1
 have HI1:=Lib.hid (show Calls Tryz.prog 26 #[.pointer (some ⟨gt,0,none⟩),.int .u32 2,.int .i64 5] w2 (HDone W p2 g gt hwk2 htk1 (.tuple #[.int .u64 1,.int .i64 0]) w2) from H1)
 clear T2 s2 hgt H1 HNW
 go_wp2_with fail
 refine (HNU.out 0 (by decide) _).mono ?_
 rintro e w3 ⟨rfl,rfl⟩
 go_wp2_with fail
 refine HI1.out.mono ?_
 rintro e w3 ⟨rfl,T3,K3⟩
 have H2:=tissue_any T3 12 (by decide) 3
 rw [hwk_i2.1,hwk_i2.2] at H2
 have HI2:=Lib.hid (show Calls Tryz.prog 26 #[.pointer (some ⟨gt,0,none⟩),.int .u32 12,.int .i64 3] w3 (HDone W p2 g gt hwk3 htk2 (.tuple #[.int .u64 2,.int .i64 0]) w3) from H2)
 clear T3 K3 H2 HI1
 go_wp2_with fail
 refine HI2.out.mono ?_
 rintro e w4 ⟨rfl,T4,K4⟩
 have H3:=tissue_any T4 22 (by decide) 9
 rw [hwk_i3] at H3
 have HI3:=Lib.hid (show Calls Tryz.prog 26 #[.pointer (some ⟨gt,0,none⟩),.int .u32 22,.int .i64 9] w4 (HDone W p2 g gt hwk4 htk3 (.tuple #[.int .u64 (issV hwk3 htk2 22 9:Nat),.int .i64 161]) w4) from H3)
 clear T4 K4 H3 HI2
 generalize issV hwk3 htk2 22 9=v3 at *
 go_wp2_with fail
 refine HI3.out.mono ?_
 rintro e w5 ⟨rfl,T5,K5⟩
 have HTK:=Lib.hid (ttick_any T5 3 (by decide) (by decide))
 have HAB:=Lib.hid T5.above
 clear T5 K5 HI3
 go_wp2_with fail
 refine HTK.out.mono ?_
 rintro e w6 ⟨v,rfl,hown,T6,K6⟩
 rw [hwk_tl] at hown
 have hown:w6.ownsRow w5.heap.size 47 1 v 1 [.int .u64 2]:=hown
 have HOW:=Lib.hid hown
 have HTE:=Lib.hid hwk_t
 rw [HTE.out]
 have H4:=tissue_any T6 22 (by decide) 9
 rw [show tikE hwk4 htk3 3=0 from hwk_t] at *
 have H4:Calls Tryz.prog 26 #[.pointer (some ⟨gt,0,none⟩),.int .u32 22,.int .i64 9] w6 (HDone W p2 g gt hwk6 htk5 (.tuple #[.int .u64 (issV hwk5 htk4 22 9:Nat),.int .i64 (issE hwk5 htk4 22 9:Nat)]) w6):=H4
 rw [hwk_i4.1,hwk_i4.2] at H4
 have HI4:=Lib.hid H4
 clear hown T6 K6 H4 HTK HTE
 go_wp2_with fail
 refine HI4.out.mono ?_
 rintro e w7 ⟨rfl,T7,K7⟩
 have HO7:=Lib.hid (K7.row HOW.out HAB.out)
 have H5:=tget_any T7 2 (by decide)
 rw [hwk_g] at H5
 have HG:=Lib.hid (show Calls Tryz.prog 30 #[.pointer (some ⟨gt,0,none⟩),.int .u64 2] w7 (Told (.tuple #[.int .u32 (gotV hwk6 htk5 2:Nat),.int .i64 160]) w7) from H5)
 have HB7:=Lib.hid T7.live.below
 clear T7 K7 H5 HI4 HOW HAB
 generalize gotV hwk6 htk5 2=o7 at *
 go_wp2_with fail
 refine HG.out.mono ?_
 rintro e w8 ⟨rfl,hb8⟩
 obtain⟨gv,cv,rfl,hrow,-,-⟩:=Row.of_any (own_below HO7.out hb8) (by decide)
 have hcell:=hrow.cell (i:=0) (u:=.int .u64 2) rfl
 have HB8:=Lib.hid (below_top HB7.out hb8)
 clear hb8 hrow HO7 HG
 go_wp2_with fail
 refine (HNU.out 161 (by decide) _).mono ?_
 rintro e w9 ⟨rfl,rfl⟩
 go_wp2_with fail
 refine (HNU.out 160 (by decide) _).mono ?_
 rintro e w9 ⟨rfl,rfl⟩
 go_wp2_with fail
 go_ret
 exact⟨rfl,HB8.out⟩
end
section
open Go.RowKit
attribute [local go_sem] Oper.semAt_some
structure Hd5 where
 k:Int
 o:Nat
 id:Nat
 n:Int
 i:Int
def Hd5.vals (d:Hd5):List Value:=[.int .i64 d.k,.int .u32 (d.o:Int),.int .u64 (d.id:Int),.int .i64 d.n,.int .i64 d.i]
structure Hd5.Fit (d:Hd5):Prop where
 k1: -9223372036854775808≤d.k
 k2:d.k≤9223372036854775807
 o:d.o<4294967296
 id:d.id<18446744073709551616
 n1: -9223372036854775808≤d.n
 n2:d.n≤9223372036854775807
 i1: -9223372036854775808≤d.i
 i2:d.i≤9223372036854775807
def Hds5 (w:World) (B:Nat) (A:Option Addr) (n:Nat) (ds:List Hd5):Prop:=ds.length=n∧∀ i d,ds[i]? = some d→d.Fit∧∃ ad,A=some ad∧ad.block<B∧∀ j v,d.vals[j]? = some v→w.cell? (ad.add (i*5+j))=some v
theorem Hds5.below {w w':World} {B:Nat} {A:Option Addr} {n:Nat} {ds:List Hd5} (H:Hds5 w B A n ds) (hb:Below B w w'):Hds5 w' B A n ds:=
 ⟨H.1,fun i d hd=>by
   obtain⟨f,ad,h1,h2,h3⟩:=H.2 i d hd
   exact⟨f,ad,h1,h2,fun j v hv=>(hb.cell (p:=ad.add (i*5+j)) (by rw [block_of_add]; exact h2)).trans (h3 j v hv)⟩⟩
theorem Hds5.at_ {w:World} {B:Nat} {A:Option Addr} {n:Nat} {ds:List Hd5} (H:Hds5 w B A n ds) {i:Nat} (hi:i<n):∃ d ad,ds[i]? = some d∧d.Fit∧A=some ad∧ad.block<B∧
 w.cell? (ad.add (i*5))=some (.int .i64 d.k)∧w.cell? (ad.add (i*5+1))=some (.int .u32 (d.o:Int))∧w.cell? (ad.add (i*5+2))=some (.int .u64 (d.id:Int))∧w.cell? (ad.add (i*5+3))=some (.int .i64 d.n)∧w.cell? (ad.add (i*5+4))=some (.int .i64 d.i):=by
 have hl:i<ds.length:=by rw [H.1]; exact hi
 obtain⟨f,ad,h1,h2,h3⟩:=H.2 i _ (List.getElem?_eq_getElem hl)
 exact⟨_,ad,List.getElem?_eq_getElem hl,f,h1,h2,h3 0 _ rfl,h3 1 _ rfl,h3 2 _ rfl,h3 3 _ rfl,h3 4 _ rfl⟩
theorem own_readsH {w:World} {base n s:Nat} {e:TypeId} {v:Value} {xs:List Value} (h:w.ownsRow base e s v n xs):∃ A c,v = .slice A n c∧Reads w w.heap.size s A n xs∧n≤9223372036854775807:=by
 obtain⟨h1,h2⟩:=h
 rcases h2 with ⟨rfl,h0⟩ | ⟨g,cap,cur,rfl,hb,hh,hl,hm,hc,hx⟩
 ·have:n=0:=h0
  subst this
  exact⟨none,0,rfl,⟨h1,fun h=>absurd h (by omega)⟩,by omega⟩
 ·have hB:Blk w g e cur:=hh
  refine⟨some ⟨g,0,none⟩,cap,rfl,⟨h1,fun _=>⟨_,rfl,hB.lt,fun j u hu=>?_⟩⟩,by simp only [maxLen] at hm; omega⟩
  rw [WideShapes.add_plain,Nat.zero_add,hB.cell]
  rw [← hx,List.getElem?_take] at hu
  split at hu
  ·simpa using hu
  ·cases hu
end
section
open Go.RowKit Go.BigFrame
attribute [local go_sem] Oper.semAt_some
section
variable {W w:World} {q:HP} {k kt kb:Nat} {h:HM} {t:TM} (D:DT W w q k kt kb h t)
include D
theorem DT.arrs:w.cell? ⟨k,2,none⟩=some (.slice (some ⟨q.gr,0,none⟩) 64 q.cr)∧w.cell? ⟨q.gr,40,none⟩=some (.int .u32 (h.arr:Nat))∧w.cell? ⟨q.gr,0,none⟩=some (.int .u32 (h.roots.getD 0 0:Nat)):=by
 have hr:=D.fit.roots
 have c2:=D.doc.c2
 rw [D.hk,hr] at c2
 exact⟨c2,D.doc.root (i:=40) (by omega),D.doc.root (i:=0) (by omega)⟩
theorem DT.get (j:Nat) (hj:j≤9223372036854775807):Calls Tryz.prog 156 #[.pointer (some ⟨k,0,none⟩),.int .u32 (h.arr:Nat),.int .i64 (j:Int)] w (Told (.tuple #[.int .u32 (h.objK j:Nat),.int .i64 (h.lookE h.arr j [1,4]:Nat)]) w):=by
 have hh:=rget_any D.doc D.fit D.heads h.arr (arr_lt D.fit) (j:Int) (by omega)
 rw [ptr,D.hk] at hh
 exact hh
theorem DT.is (o:Nat) (ho:o<4294967296):Calls Tryz.prog 182 #[.pointer (some ⟨k,0,none⟩),.int .u32 (o:Nat)] w (Said (.bool (h.isB o)) w):=by
 have hh:=ris_any D.doc D.fit o ho
 rw [ptr,D.hk] at hh
 exact hh
theorem DT.header (o:Nat) (ho:o<4294967296) (hi:h.isB o=true):Calls Tryz.prog 152 #[.pointer (some ⟨k,0,none⟩),.int .u32 (o:Nat)] w (Told (h.hd (o / 2)).val w):=by
 have hh:=rheader_any D.doc D.fit o ho (HM.isB_hd D.heads hi)
 rw [ptr,D.hk] at hh
 exact hh
set_option maxRecDepth 100000 in
set_option maxHeartbeats 4000000 in
theorem dAt_any (j:Nat) (hj:j≤9223372036854775807):Calls Tryz.prog 126 #[.pointer (some ⟨kt,0,none⟩),.int .i64 (j:Int)] w (Told (.int .u32 (h.objK j:Nat)) w):=by
 have c0:=cell_regrown D.c0
 obtain⟨c2,x40,-⟩:=D.arrs
 replace c2:=cell_regrown c2
 replace x40:=cell_regrown x40
 have HGT:=Lib.hid (fun (d:Nat) (os:Array Obj)=>(D.after (below_regrown w d os)).get j hj)
 clear D
 generalize h.arr=ar at *
 generalize h.objK j=ob at *
 generalize h.lookE ar j [1,4]=E at *
 go_enter Tryz.func126,Tryz.ntmps126
 go_upto_region 1 with fail
 refine wp_region_quiet_below (by kernel_rfl) (by kernel_rfl) ?_
 repeat (quiet_step ((go_at_call 156; exact Calls.regrown_of (HGT.out _ _))))
 refine wpQuiet_nil ?_
 intro wq hwq
 obtain⟨⟨dq,osq⟩,hw''⟩:=hwq
 subst hw''
 have HFIN:=Lib.hid (below_regrown w dq osq)
 clear c0 c2 x40 HGT
 generalize Go.Sort.grow (redrawn w dq) osq=w5 at *
 go_wp2_with fail
 go_ret
 exact⟨rfl,HFIN.out⟩
set_option maxRecDepth 100000 in
set_option maxHeartbeats 4000000 in
theorem dbroken_any:Calls Tryz.prog 125 #[.pointer (some ⟨kt,0,none⟩)] w (Told (.bool (brkB h t)) w):=by
 have HD:=Lib.hid D
 have HIS:=Lib.hid (show ∀ (o:Nat) (ho:o<4294967296) (d:Nat) (os:Array Obj),Calls Tryz.prog 182 #[.pointer (some ⟨k,0,none⟩),.int .u32 (o:Nat)] (Go.Sort.grow (redrawn w d) os) (fun e w''=>e = .returned (.bool (h.isB o))∧∃ p:Regrown,w''=Go.Sort.grow (redrawn w p.d) p.os) from fun o ho d os=>Calls.regrown_of (((D.after (below_regrown w d os)).is o ho).mono fun _ _ ⟨h1,h2⟩=>⟨h1,h2 ▸ Below.refl _ _⟩))
 have HAL:=Lib.hid (arr_lt D.fit)
 have HB:=Lib.hid (show brkB h t=(h.badA t.cap || (List.range 256).any (lostK h t)) from rfl)
 have HBA:=Lib.hid (show h.badA t.cap = !(h.isB h.arr && decide ((h.hd (h.arr / 2)).fmt=1) && decide (t.cap≤(h.hd (h.arr / 2)).size)) from rfl)
 have c0:=D.c0
 have c1:=D.c1
 obtain⟨c2,x40,-⟩:=D.arrs
 clear D
 cases hi:h.isB h.arr with
 | false=>
   have HV:=Lib.hid (show brkB h t=true by rw [HB.out,HBA.out,hi]; rfl)
   have HI:=Lib.hid (HIS.out h.arr HAL.out)
   rw [hi] at HI
   clear HB HBA HIS HD
   generalize h.arr=ar at *
   go_enter Tryz.func125,Tryz.ntmps125
   go_upto_region 4 with fail
   replace c0:=cell_regrown c0
   replace c1:=cell_regrown c1
   refine wp_region_quiet_below (by kernel_rfl) (by kernel_rfl) ?_
   repeat (go_big_quiet_step ((go_at_call 182; with_reducible exact HI.out _ _)))
   refine wpQuiet_nil ?_
   intro wq hwq
   obtain⟨⟨dq,osq⟩,hw''⟩:=hwq
   subst hw''
   have HFIN:=Lib.hid (below_regrown w dq osq)
   clear c0 c1 c2 x40 HI
   generalize Go.Sort.grow (redrawn w dq) osq=w5 at *
   go_wp2_with fail
   go_ret
   exact⟨by rw [HV.out]; rfl,HFIN.out⟩
 | true =>
   have HI:=Lib.hid (HIS.out h.arr HAL.out)
   have HHD:=Lib.hid (show ∀ (d:Nat) (os:Array Obj),Calls Tryz.prog 152 #[.pointer (some ⟨k,0,none⟩),.int .u32 (h.arr:Nat)] (Go.Sort.grow (redrawn w d) os) (fun e w''=>e = .returned (h.hd (h.arr / 2)).val∧∃ p:Regrown,w''=Go.Sort.grow (redrawn w p.d) p.os) from fun d os=>Calls.regrown_of ((HD.out.after (below_regrown w d os)).header h.arr HAL.out hi))
   rw [hi] at HI HBA
   unfold Hd.val at HHD
   have hf0:=fld0
   have hf1:=fld1
   generalize h.hd (h.arr / 2)=X at *
   have HAR:=Lib.hid (show h.arr=h.arr from rfl)
   generalize har:h.arr=ar at HI HHD x40
   clear har HIS HAR
   by_cases hx1:X.fmt=1
   ·by_cases hx2:t.cap≤X.size
    ·have HV:=Lib.hid (show brkB h t=(List.range 256).any (lostK h t) by rw [HB.out,HBA.out,decide_eq_true hx1,decide_eq_true hx2]; rfl)
     have hd1:((X.fmt:Int) != 1)=false:=by rw [hx1]; rfl
     have hd2:decide (X.size<t.cap)=false:=decide_eq_false (by omega)
     clear HB HBA hx1 hx2
     go_enter Tryz.func125,Tryz.ntmps125
     go_upto_region 4 with fail
     replace c0:=cell_regrown c0
     replace c1:=cell_regrown c1
     refine wp_region_quiet_below (by kernel_rfl) (by kernel_rfl) ?_
     repeat (go_big_quiet_step (first
      | (go_at_call 182; with_reducible exact HI.out _ _)
      | (go_at_call 152; with_reducible exact HHD.out _ _)))
     refine wpQuiet_nil ?_
     intro wq hwq
     obtain⟨⟨dq,osq⟩,hw''⟩:=hwq
     subst hw''
     have HFIN:=Lib.hid (below_regrown w dq osq)
     clear c0 c1 c2 x40 HI HHD hf0 hf1
     generalize Go.Sort.grow (redrawn w dq) osq=w5 at *
     go_wp2_with fail
     go_loopw [4] (fun iv wr=>∃ j:Nat,iv = .int .i64 (j:Int)∧j≤t.cap∧Hid (Below w.heap.size w wr)∧Hid (∀ i,i<j→lostK h t i=false)) (fun iv _=>t.cap-(intOf iv).toNat)
     case atStart=>exact⟨0,rfl,Nat.zero_le _,HFIN,Lib.hid (fun i hi=>absurd hi (Nat.not_lt_zero _))⟩
     case round=>
      clear HFIN
      obtain⟨j,rfl,hj,HBr,HLr⟩:=hrel
      have HDr:=Lib.hid (HD.out.after HBr.out)
      have c0:=HDr.out.c0
      have c1:=HDr.out.c1
      have hcap:t.cap≤256:=HDr.out.ok.hi
      by_cases hlt:j<t.cap
      ·have hx:=(HDr.out.cell hlt).1
       have HLK:=Lib.hid (show lostK h t j=(usedB (t.at j) && !h.isB (h.objK j)) from rfl)
       have HJ:=Lib.hid (show j<256 by have:=HDr.out.ok.hi; omega)
       cases hu:usedB (t.at j) with
       | false=>
         have HL:=Lib.hid (show lostK h t j=false by rw [HLK.out,hu]; rfl)
         rw [hu] at hx
         go_upto_region 9 with fail
         go_quiet (fail)
         go_wp2_with fail
         go_roundw
         case rel=>exact⟨j+1,by go_num,by omega,Lib.hid (below_drewN HBr.out _),Lib.hid (fun i hi=>by
          rcases Nat.lt_or_ge i j with h | h
          ·exact HLr.out i h
          ·rw [show i=j by omega]; exact HL.out)⟩
         case measure=>simp [intOf]; omega
       | true=>
         have HL:=Lib.hid (show lostK h t j = !h.isB (h.objK j) by rw [HLK.out,hu]; rfl)
         rw [hu] at hx
         have hol:h.objK j<4294967296:=by
          unfold HM.objK HM.readN
          split
          ·exact HDr.out.fit.word _
          ·omega
         have HAT:=Lib.hid (show ∀ (d:Nat) (os:Array Obj),Calls Tryz.prog 126 #[.pointer (some ⟨kt,0,none⟩),.int .i64 (j:Int)] (Go.Sort.grow (redrawn wr d) os) (fun e w''=>e = .returned (.int .u32 (h.objK j:Nat))∧∃ p:Regrown,w''=Go.Sort.grow (redrawn wr p.d) p.os) from fun d os=>Calls.regrown_of (dAt_any (HDr.out.after (below_regrown wr d os)) j (by have:=HJ.out; omega)))
         have HI2:=Lib.hid (show ∀ (d:Nat) (os:Array Obj),Calls Tryz.prog 182 #[.pointer (some ⟨k,0,none⟩),.int .u32 (h.objK j:Nat)] (Go.Sort.grow (redrawn wr d) os) (fun e w''=>e = .returned (.bool (h.isB (h.objK j)))∧∃ p:Regrown,w''=Go.Sort.grow (redrawn wr p.d) p.os) from fun d os=>Calls.regrown_of (((HDr.out.after (below_regrown wr d os)).is (h.objK j) hol).mono fun _ _ ⟨h1,h2⟩=>⟨h1,h2 ▸ Below.refl _ _⟩))
         clear hu hol HLK
         generalize h.objK j=ob at *
         generalize h.isB ob=bb at *
         cases bb with
         | false=>
           have HBR:=Lib.hid (show brkB h t=true by
            rw [HV.out,List.any_eq_true]
            exact⟨j,List.mem_range.2 HJ.out,HL.out⟩)
           go_upto_region 9 with fail
           replace c0:=cell_regrown c0
           replace c1:=cell_regrown c1
           replace hx:=cell_regrown hx
           refine wp_region_quiet_below (by kernel_rfl) (by kernel_rfl) ?_
           repeat (go_big_quiet_step (first
            | (go_at_call 126; with_reducible exact HAT.out _ _)
            | (go_at_call 182; with_reducible exact HI2.out _ _)))
           refine wpQuiet_nil ?_
           intro wq hwq
           obtain⟨⟨dq,osq⟩,hw''⟩:=hwq
           subst hw''
           have HFIN:=Lib.hid (below_top HBr.out (below_regrown wr dq osq))
           clear c0 c1 hx HAT HI2
           generalize Go.Sort.grow (redrawn wr dq) osq=w6 at *
           go_wp2_with fail
           go_ret
           exact⟨by rw [HBR.out]; rfl,HFIN.out⟩
         | true=>
           go_upto_region 9 with fail
           replace c0:=cell_regrown c0
           replace c1:=cell_regrown c1
           replace hx:=cell_regrown hx
           refine wp_region_quiet_below (by kernel_rfl) (by kernel_rfl) ?_
           repeat (go_big_quiet_step (first
            | (go_at_call 126; with_reducible exact HAT.out _ _)
            | (go_at_call 182; with_reducible exact HI2.out _ _)))
           refine wpQuiet_nil ?_
           intro wq hwq
           obtain⟨⟨dq,osq⟩,hw''⟩:=hwq
           subst hw''
           have HFIN:=Lib.hid (below_top HBr.out (below_regrown wr dq osq))
           clear c0 c1 hx HAT HI2
           generalize Go.Sort.grow (redrawn wr dq) osq=w6 at *
           go_wp2_with fail
           go_roundw
           case rel=>exact⟨j+1,by go_num,by omega,HFIN,Lib.hid (fun i hi=>by
            rcases Nat.lt_or_ge i j with h | h
            ·exact HLr.out i h
            ·rw [show i=j by omega]; exact HL.out)⟩
           case measure=>simp [intOf]; omega
      ·obtain rfl:j=t.cap:=by omega
       have HBR:=Lib.hid (show brkB h t=false by
        rw [HV.out,List.any_eq_false]
        intro i hi
        rcases Nat.lt_or_ge i t.cap with h1 | h1
        ·rw [HLr.out i h1]; decide
        ·unfold lostK
         rw [HDr.out.ok.off i h1,show usedB ((0:Nat),(0:Nat))=false from rfl,Bool.false_and]
         decide)
       go_wp2_with fail
       go_ret
       exact⟨by rw [HBR.out]; rfl,HBr.out⟩
    ·have HV:=Lib.hid (show brkB h t=true by rw [HB.out,HBA.out,decide_eq_false hx2,Bool.and_false]; rfl)
     have hd1:((X.fmt:Int) != 1)=false:=by rw [hx1]; rfl
     have hd2:decide (X.size<t.cap)=true:=decide_eq_true (by omega)
     clear HB HBA hx1 hx2
     go_enter Tryz.func125,Tryz.ntmps125
     go_upto_region 4 with fail
     replace c0:=cell_regrown c0
     replace c1:=cell_regrown c1
     refine wp_region_quiet_below (by kernel_rfl) (by kernel_rfl) ?_
     repeat (go_big_quiet_step (first
      | (go_at_call 182; with_reducible exact HI.out _ _)
      | (go_at_call 152; with_reducible exact HHD.out _ _)))
     refine wpQuiet_nil ?_
     intro wq hwq
     obtain⟨⟨dq,osq⟩,hw''⟩:=hwq
     subst hw''
     have HFIN:=Lib.hid (below_regrown w dq osq)
     clear c0 c1 c2 x40 HI HHD hf0 hf1
     generalize Go.Sort.grow (redrawn w dq) osq=w5 at *
     go_wp2_with fail
     go_ret
     exact⟨by rw [HV.out]; rfl,HFIN.out⟩
   ·have HV:=Lib.hid (show brkB h t=true by rw [HB.out,HBA.out,decide_eq_false hx1,Bool.and_false]; rfl)
    have hd1:((X.fmt:Int) != 1)=true:=by simp; omega
    clear HB HBA hx1
    go_enter Tryz.func125,Tryz.ntmps125
    go_upto_region 4 with fail
    replace c0:=cell_regrown c0
    replace c1:=cell_regrown c1
    refine wp_region_quiet_below (by kernel_rfl) (by kernel_rfl) ?_
    repeat (go_big_quiet_step (first
     | (go_at_call 182; with_reducible exact HI.out _ _)
     | (go_at_call 152; with_reducible exact HHD.out _ _)))
    refine wpQuiet_nil ?_
    intro wq hwq
    obtain⟨⟨dq,osq⟩,hw''⟩:=hwq
    subst hw''
    have HFIN:=Lib.hid (below_regrown w dq osq)
    clear c0 c1 c2 x40 HI HHD hf0 hf1
    generalize Go.Sort.grow (redrawn w dq) osq=w5 at *
    go_wp2_with fail
    go_ret
    exact⟨by rw [HV.out]; rfl,HFIN.out⟩
end
end
section
open Go.RowKit
attribute [local go_sem] Oper.semAt_some
section
variable {W w:World} {q:HP} {k kt kb:Nat} {h:HM} {t:TM} (D:DT W w q k kt kb h t)
include D
theorem DT.put (o:Nat) (ho:o<4294967296) (i:Int) (hi:i≤9223372036854775807) (v:Nat) (hv:v<4294967296):
 Calls Tryz.prog 124 #[.pointer (some ⟨k,0,none⟩),.int .u32 (o:Nat),.int .i64 i,.int .u32 (v:Nat)] w (fun e w'=>e = .returned (.int .i64 (h.putE o i v:Nat))∧DT W w' q k kt kb (h.putH o i v) t∧DKeep q kt kb w w'):=by
 have hh:=rput_any D.doc D.fit D.heads o ho i hi v hv
 rw [ptr,D.hk] at hh
 exact hh.mono fun _ _ H=>by
  obtain⟨rfl,R,s⟩:=H
  obtain⟨l,G⟩:=D.good
  obtain⟨l',G',_⟩:=G.putH o i v hv
  exact⟨rfl,D.heap R s ⟨l',G'⟩,.of_step s⟩
theorem DT.put1 (j:Nat) (hj:j≤9223372036854775807) (v:Nat) (hv:v<4294967296):
 Calls Tryz.prog 124 #[.pointer (some ⟨k,0,none⟩),.int .u32 (h.arr:Nat),.int .i64 (j:Int),.int .u32 (v:Nat)] w (fun e w'=>e = .returned (.int .i64 (h.putE h.arr j v:Nat))∧Hid (DT W w' q k kt kb (h.putH h.arr j v) t)∧Hid (DKeep q kt kb w w')∧
  w'.cell? ⟨kt,0,none⟩=some (.pointer (some ⟨k,0,none⟩))∧w'.cell? ⟨k,2,none⟩=some (.slice (some ⟨q.gr,0,none⟩) 64 q.cr)∧w'.cell? ⟨q.gr,40,none⟩=some (.int .u32 (h.arr:Nat))∧w'.cell? ⟨q.gr,0,none⟩=some (.int .u32 (h.roots.getD 0 0:Nat))):=
 (D.put h.arr (arr_lt D.fit) (j:Int) (by omega) v hv).mono fun _ _ ⟨h1,h2,h3⟩=>by
  have ha:=h2.arrs
  rw [show (h.putH h.arr j v).arr=h.arr by unfold HM.arr; rw [(putH_same ..).2.2.1],(putH_same ..).2.2.1] at ha
  exact⟨h1,Lib.hid h2,Lib.hid h3,h2.c0,ha.1,ha.2.1,ha.2.2⟩
set_option maxRecDepth 100000 in
set_option maxHeartbeats 4000000 in
theorem dfind_any (id:Nat) (hid:id<18446744073709551616):Calls Tryz.prog 183 #[.pointer (some ⟨kt,0,none⟩),.int .u64 (id:Int)] w (Told (.int .i64 (dfn t id)) w):=by
 have HD:=Lib.hid D
 clear D
 go_enter Tryz.func183,Tryz.ntmps183
 go_wp2_with fail
 go_loopw [5] (fun iv wr=>∃ j:Nat,iv = .int .i64 (j:Int)∧j≤t.cap∧Hid (Below w.heap.size w wr)∧Hid (∀ i,i<j→usedB (t.at i)=true→(t.at i).1≠id)) (fun iv _=>t.cap-(intOf iv).toNat)
 case atStart=>exact⟨0,rfl,Nat.zero_le _,Lib.hid (Below.refl _ _),Lib.hid (fun i hi=>absurd hi (Nat.not_lt_zero _))⟩
 case round=>
  obtain⟨j,rfl,hj,HBr,HNr⟩:=hrel
  have HDr:=Lib.hid (HD.out.after HBr.out)
  have c1:=HDr.out.c1
  have hcap:t.cap≤256:=HDr.out.ok.hi
  by_cases hlt:j<t.cap
  ·obtain⟨x0,x1,x2⟩:=HDr.out.cell hlt
   clear x2
   cases hu:usedB (t.at j) with
   | false=>
     have HN2:=Lib.hid (show ∀ i,i<j+1→usedB (t.at i)=true→(t.at i).1≠id from fun i hi h1=>by
      rcases Nat.lt_or_ge i j with h | h
      ·exact HNr.out i h h1
      ·rw [show i=j by omega,hu] at h1
       exact absurd h1 (by decide))
     rw [hu] at x0
     clear x1
     go_wp2_with fail
     go_roundw
     case rel=>exact⟨j+1,by go_num,by omega,HBr,HN2⟩
     case measure=>simp [intOf]; omega
   | true=>
     rw [hu] at x0
     by_cases he:(t.at j).1=id
     ·have HF:=Lib.hid (dfn_at HDr.out.ok hu he)
      have hv:(((t.at j).1:Int) == (id:Int))=true:=by rw [he]; simp
      clear he hu
      generalize (t.at j).1=a at *
      go_wp2_with fail
      go_ret
      exact⟨by rw [HF.out]; rfl,HBr.out⟩
     ·have HN2:=Lib.hid (show ∀ i,i<j+1→usedB (t.at i)=true→(t.at i).1≠id from fun i hi h1=>by
       rcases Nat.lt_or_ge i j with h | h
       ·exact HNr.out i h h1
       ·rw [show i=j by omega]; exact he)
      have hv:(((t.at j).1:Int) == (id:Int))=false:=by simp; omega
      clear he hu
      generalize (t.at j).1=a at *
      go_wp2_with fail
      go_roundw
      case rel=>exact⟨j+1,by go_num,by omega,HBr,HN2⟩
      case measure=>simp [intOf]; omega
  ·obtain rfl:j=t.cap:=by omega
   have HF:=Lib.hid (dfn_no HDr.out.ok (id:=id) (fun i hi hu=>HNr.out i hi hu))
   go_wp2_with fail
   go_ret
   exact⟨by rw [HF.out]; rfl,HBr.out⟩
set_option maxRecDepth 100000 in
set_option maxHeartbeats 4000000 in
theorem dfree_any (j:Nat) (hj:j<t.cap):Calls Tryz.prog 184 #[.pointer (some ⟨kt,0,none⟩),.int .i64 (j:Int)] w (DDone W q k kt kb (h.clrK j) (t.clear j) (.tuple #[]) w):=by
 have hhi:=D.ok.hi
 have O2:=D.ok.clear (k:=j) (by omega)
 have D2:DT W _ q k kt kb h (t.clear j):=D.slot (i:=j) (0,0) O2
 have K2:DKeep q kt kb w _:=(((DKeep.refl q kt kb w).row (j*3) (.bool false)).row (j*3+1) (.int .u64 0)).row (j*3+2) (.int .i64 0)
 rw [show usedB ((0:Nat),(0:Nat))=false from rfl] at D2
 simp only [Int.natCast_zero] at D2
 obtain⟨y0,y1,y2⟩:=D.cell hj
 have c1:=D.c1
 have fz:=D.row.fz
 have hlt:(j:Int)<(t.cap:Int):=by omega
 have HP1:=Lib.hid (D2.drew.put1 j (by omega) (h.roots.getD 0 0) (D.fit.root 0))
 have c0':=D2.drew.c0
 have ha':=D2.drew.arrs
 have HD2:=Lib.hid D2.drew
 have HK2:=Lib.hid K2.drew
 have HCL:=Lib.hid (show h.clrK j=h.putH h.arr j (h.roots.getD 0 0) from rfl)
 clear D D2 K2 O2 hhi
 generalize usedB (t.at j)=ub at *
 generalize (t.at j).1=a1 at *
 generalize (t.at j).2=a2 at *
 generalize t.cap=cp at *
 generalize h.arr=ar at *
 generalize h.roots.getD 0 0=nl at *
 go_enter Tryz.func184,Tryz.ntmps184
 go_upto_region 1 with fail
 clear y0 y1 y2 c1 fz
 generalize ((w.setCell ⟨kb,j*3,none⟩ (.bool false)).setCell ⟨kb,j*3+1,none⟩ (.int .u64 0)).setCell ⟨kb,j*3+2,none⟩ (.int .i64 0)=w2 at *
 obtain⟨d0,d1,d2⟩:=ha'
 go_region_held3 (fun w'=>w'.cell? ⟨kt,0,none⟩=some (.pointer (some ⟨k,0,none⟩))∧w'.cell? ⟨k,2,none⟩=some (.slice (some ⟨q.gr,0,none⟩) 64 q.cr)∧w'.cell? ⟨q.gr,40,none⟩=some (.int .u32 (ar:Nat))∧w'.cell? ⟨q.gr,0,none⟩=some (.int .u32 (nl:Nat)))
  (first | with_reducible exact⟨c0',d0,d1,d2⟩ | with_reducible exact⟨e0,e1,e2,e3⟩ | go_keep)
  (first
    | (go_at_call 124; (with_reducible refine HP1.out.mono ?_); rintro e w3 ⟨rfl,HD3,HK3,e0,e1,e2,e3⟩))
 all_goals go_wp2_with fail
 all_goals go_end0
 all_goals exact⟨rfl,by rw [HCL.out]; exact HD3.out,HK2.out.trans HK3.out⟩
end
section
variable {W w:World} {q:HP} {k kt kb:Nat} {h:HM} {t:TM} (D:DT W w q k kt kb h t)
include D
set_option maxRecDepth 100000 in
set_option maxHeartbeats 4000000 in
theorem dget_any (id:Nat) (hid:id<18446744073709551616):Calls Tryz.prog 117 #[.pointer (some ⟨kt,0,none⟩),.int .u64 (id:Int)] w (Told (.tuple #[.int .u32 (gotV h t id:Nat),.int .i64 (fndE h t id:Nat)]) w):=by
 have HBR:=Lib.hid (dbroken_any D)
 have HD:=Lib.hid D
 clear D
 cases hb:brkB h t with
 | true=>
   have HV:=Lib.hid (show fndE h t id=164∧gotV h t id=0 by
    have e:fndE h t id=164:=by unfold fndE; rw [hb,if_pos rfl]
    exact⟨e,by unfold gotV; rw [e]; rfl⟩)
   rw [hb] at HBR
   go_enter Tryz.func117,Tryz.ntmps117
   go_wp2_with fail
   refine HBR.out.mono ?_
   rintro e w1 ⟨rfl,hb1⟩
   have HB1:=Lib.hid hb1
   clear hb1
   go_wp2_with fail
   go_ret2
   exact⟨by rw [HV.out.1,HV.out.2]; rfl,HB1.out⟩
 | false=>
   have HFD:=Lib.hid (fnd_dfn hb id)
   rw [hb] at HBR
   clear hb
   go_enter Tryz.func117,Tryz.ntmps117
   go_wp2_with fail
   refine HBR.out.mono ?_
   rintro e w1 ⟨rfl,hb1⟩
   have HB1:=Lib.hid hb1
   have HFI:=Lib.hid (dfind_any (HD.out.after hb1) id hid)
   clear hb1 HBR
   go_wp2_with fail
   refine HFI.out.mono ?_
   rintro e w2 ⟨rfl,hb2⟩
   have HB2:=Lib.hid (below_top HB1.out hb2)
   clear hb2 HFI
   by_cases hn:dfn t id = -1
   ·have HV:=Lib.hid (show fndE h t id=160∧gotV h t id=0 by
     have e:fndE h t id=160:=by rw [HFD.out,if_pos hn]
     exact⟨e,by unfold gotV; rw [e]; rfl⟩)
    rw [hn]
    clear hn
    go_wp2_with fail
    go_ret2
    exact⟨by rw [HV.out.1,HV.out.2]; rfl,HB2.out⟩
   ·obtain⟨e1,e2,e3⟩:=dfn_find hn
    have HV:=Lib.hid (show fndE h t id=0∧gotV h t id=h.objK (t.find id) by
     have e:fndE h t id=0:=by rw [HFD.out,if_neg hn]
     exact⟨e,by unfold gotV; rw [e]; rfl⟩)
    have HAT:=Lib.hid (dAt_any (HD.out.after HB2.out) (t.find id) (by omega))
    rw [e1]
    clear hn e1 e2
    generalize t.find id=x at *
    go_wp2_with fail
    refine HAT.out.mono ?_
    rintro e w3 ⟨rfl,hb3⟩
    have HB3:=Lib.hid (below_top HB2.out hb3)
    clear hb3
    go_wp2_with fail
    go_ret2
    exact⟨by rw [HV.out.1,HV.out.2]; rfl,HB3.out⟩
set_option maxRecDepth 100000 in
set_option maxHeartbeats 4000000 in
theorem drelease_any (id:Nat) (hid:id<18446744073709551616):Calls Tryz.prog 119 #[.pointer (some ⟨kt,0,none⟩),.int .u64 (id:Int)] w (DDone W q k kt kb (relH h t id) (relT h t id) (.int .i64 (fndE h t id:Nat)) w):=by
 have HBR:=Lib.hid (dbroken_any D)
 have HD:=Lib.hid D
 clear D
 cases hb:brkB h t with
 | true=>
   have HV:=Lib.hid (show fndE h t id=164∧relH h t id=h∧relT h t id=t by
    have e:fndE h t id=164:=by unfold fndE; rw [hb,if_pos rfl]
    exact⟨e,by unfold relH; rw [e]; rfl,by unfold relT; rw [e]; rfl⟩)
   rw [hb] at HBR
   go_enter Tryz.func119,Tryz.ntmps119
   go_wp2_with fail
   refine HBR.out.mono ?_
   rintro e w1 ⟨rfl,hb1⟩
   have HB1:=Lib.hid hb1
   clear hb1
   go_wp2_with fail
   go_ret
   exact⟨by rw [HV.out.1]; rfl,by rw [HV.out.2.1,HV.out.2.2]; exact HD.out.after HB1.out,.of_below HB1.out⟩
 | false=>
   have HFD:=Lib.hid (fnd_dfn hb id)
   rw [hb] at HBR
   clear hb
   go_enter Tryz.func119,Tryz.ntmps119
   go_wp2_with fail
   refine HBR.out.mono ?_
   rintro e w1 ⟨rfl,hb1⟩
   have HB1:=Lib.hid hb1
   have HFI:=Lib.hid (dfind_any (HD.out.after hb1) id hid)
   clear hb1 HBR
   go_wp2_with fail
   refine HFI.out.mono ?_
   rintro e w2 ⟨rfl,hb2⟩
   have HB2:=Lib.hid (below_top HB1.out hb2)
   clear hb2 HFI
   by_cases hn:dfn t id = -1
   ·have HV:=Lib.hid (show fndE h t id=160∧relH h t id=h∧relT h t id=t by
     have e:fndE h t id=160:=by rw [HFD.out,if_pos hn]
     exact⟨e,by unfold relH; rw [e]; rfl,by unfold relT; rw [e]; rfl⟩)
    rw [hn]
    clear hn
    go_wp2_with fail
    go_ret
    exact⟨by rw [HV.out.1]; rfl,by rw [HV.out.2.1,HV.out.2.2]; exact HD.out.after HB2.out,.of_below HB2.out⟩
   ·obtain⟨e1,e2,e3⟩:=dfn_find hn
    have HV:=Lib.hid (show fndE h t id=0∧relH h t id=h.clrK (t.find id)∧relT h t id=t.clear (t.find id) by
     have e:fndE h t id=0:=by rw [HFD.out,if_neg hn]
     exact⟨e,by unfold relH; rw [e]; rfl,by unfold relT; rw [e]; rfl⟩)
    have hc:t.find id<t.cap:=used_lt HD.out.ok ((usedB_iff _).2 (TM.find_lt HD.out.ok e2 e3).2)
    have HFR:=Lib.hid (dfree_any (HD.out.after HB2.out) (t.find id) hc)
    rw [e1]
    clear hn e1 e2 hc
    generalize t.find id=x at *
    go_wp2_with fail
    refine HFR.out.mono ?_
    rintro e w3 ⟨rfl,D3,K3⟩
    have HD3:=Lib.hid D3
    have HK3:=Lib.hid ((DKeep.of_below HB2.out).trans K3)
    clear D3 K3
    go_wp2_with fail
    go_ret
    exact⟨by rw [HV.out.1]; rfl,by rw [HV.out.2.1,HV.out.2.2]; exact HD3.out,HK3.out⟩
set_option maxRecDepth 100000 in
set_option maxHeartbeats 4000000 in
theorem dclearAll_any:Calls Tryz.prog 123 #[.pointer (some ⟨kt,0,none⟩)] w (DDone W q k kt kb (cleH h t) (cleT h t) (.int .i64 (cleN h t:Nat)) w):=by
 have HBR:=Lib.hid (dbroken_any D)
 have HD:=Lib.hid D
 clear D
 cases hbr:brkB h t with
 | true=>
   have HV:=Lib.hid (show cleH h t=h∧cleT h t=t∧cleN h t=0 from⟨by unfold cleH; rw [if_pos hbr],by unfold cleT; rw [if_pos hbr],by unfold cleN; rw [if_pos hbr]⟩)
   rw [hbr] at HBR
   go_enter Tryz.func123,Tryz.ntmps123
   go_wp2_with fail
   refine HBR.out.mono ?_
   rintro e w1 ⟨rfl,hb1⟩
   have HB1:=Lib.hid hb1
   clear hb1
   go_wp2_with fail
   go_ret
   exact⟨by rw [HV.out.2.2]; rfl,by rw [HV.out.1,HV.out.2.1]; exact HD.out.after HB1.out,.of_below HB1.out⟩
 | false=>
   have hbn:¬ brkB h t=true:=by rw [hbr]; decide
   have HV:=Lib.hid (show cleH h t=h.clrs (t.usedK t.cap)∧cleT h t=t.clears (t.usedK t.cap)∧cleN h t=(t.usedK t.cap).length by
    have hh:=used_off HD.out.ok 256 HD.out.ok.hi
    rw [← hh]
    exact⟨by unfold cleH; rw [if_neg hbn],by unfold cleT; rw [if_neg hbn],by unfold cleN; rw [if_neg hbn]⟩)
   rw [hbr] at HBR
   clear hbn hbr
   go_enter Tryz.func123,Tryz.ntmps123
   go_wp2_with fail
   refine HBR.out.mono ?_
   rintro e w1 ⟨rfl,hb1⟩
   have HD1:=Lib.hid (HD.out.after hb1)
   have HK1:=Lib.hid (DKeep.of_below (q:=q) (kt:=kt) (kb:=kb) hb1)
   have HCH:=Lib.hid (show t.cap≤256 from HD.out.ok.hi)
   have HOK:=Lib.hid HD.out.ok
   clear hb1 HBR HD
   go_wp2_with fail
   go_loopw [3,4] (fun cn iv wr=>∃ j:Nat,iv = .int .i64 (j:Int)∧cn = .int .i64 (((t.usedK j).length:Nat):Int)∧j≤t.cap∧Hid (DT W wr q k kt kb (h.clrs (t.usedK j)) (t.clears (t.usedK j)))∧Hid (DKeep q kt kb w wr)) (fun _ iv _=>t.cap-(intOf iv).toNat)
   case atStart=>exact⟨0,rfl,rfl,Nat.zero_le _,HD1,HK1⟩
   case round=>
    clear HD1 HK1
    obtain⟨j,rfl,rfl,hj,HDr,HKr⟩:=hrel
    have c1:=HDr.out.c1
    have HCP:=Lib.hid (show (t.clears (t.usedK j)).cap=t.cap from (TM.clears_same _ t).1)
    rw [HCP.out] at c1
    have HSU:=Lib.hid (t.usedK_succ j)
    have HLN:=Lib.hid (t.usedK_len j)
    have hcap:t.cap≤256:=HCH.out
    by_cases hlt:j<t.cap
    ·have x0:=(HDr.out.cell (i:=j) (by rw [HCP.out]; exact hlt)).1
     have hat:(t.clears (t.usedK j)).at j=t.at j:=by
      rw [TM.clears_at _ _ HOK.out.len (fun x hx=>by have:=TM.usedK_lt t j x hx; have:=HCH.out; omega),if_neg (fun hh=>by have:=TM.usedK_lt t j j hh; omega)]
     rw [hat] at x0
     have HFR:=Lib.hid (dfree_any HDr.out j (by rw [HCP.out]; exact hlt))
     clear hat
     cases hu:usedB (t.at j) with
     | false=>
       have HS2:=Lib.hid (show t.usedK (j+1)=t.usedK j by rw [HSU.out,hu]; rfl)
       rw [hu] at x0
       go_wp2_with fail
       go_roundw
       case rel=>exact⟨j+1,by go_num,by rw [HS2.out],by omega,by rw [HS2.out]; exact HDr,HKr⟩
       case measure=>simp [intOf]; omega
     | true=>
       have HS2:=Lib.hid (show t.usedK (j+1)=t.usedK j++[j] by rw [HSU.out,hu]; rfl)
       have HS3:=Lib.hid (show h.clrs (t.usedK (j+1))=(h.clrs (t.usedK j)).clrK j∧t.clears (t.usedK (j+1))=(t.clears (t.usedK j)).clear j∧(t.usedK (j+1)).length=(t.usedK j).length+1 by
        rw [HS2.out]; exact⟨clrs_snoc _ _ _,TM.clears_snoc _ _ _,by simp⟩)
       rw [hu] at x0
       have hln:(t.usedK j).length≤256:=by have:=HLN.out; have:=HCH.out; omega
       clear HS2 HSU hu
       generalize hlq:(t.usedK j).length=nq at *
       have a1:IntKind.i64.wrap ((nq:Int)+1)=(nq:Int)+1:=IntWalk.i64_in _ (by omega)
       have HQ:=Lib.hid hlq
       clear hlq
       go_wp2_with fail
       refine HFR.out.mono ?_
       rintro e w5 ⟨rfl,D5,K5⟩
       have HD5:=Lib.hid D5
       have HK5:=Lib.hid (HKr.out.trans K5)
       clear D5 K5
       go_wp2_with fail
       go_roundw
       case rel=>exact⟨j+1,by go_num,by rw [HS3.out.2.2]; rfl,by omega,by rw [HS3.out.1,HS3.out.2.1]; exact HD5,HK5⟩
       case measure=>simp [intOf]; omega
    ·obtain rfl:j=t.cap:=by omega
     go_wp2_with fail
     go_ret
     exact⟨by rw [HV.out.2.2]; rfl,by rw [HV.out.1,HV.out.2.1]; exact HDr.out,HKr.out⟩
end
end
section
open Go.RowKit
attribute [local go_sem] Oper.semAt_some
theorem lease_no {n:Int} (h:n<1∨1000000<n):leaseB n=false:=by
 unfold leaseB
 rcases h with h | h
 ·rw [decide_eq_false (show ¬ 1≤n by omega)]; rfl
 ·rw [decide_eq_false (show ¬ n≤1000000 by omega),Bool.and_false]
theorem lease_yes {n:Int} (h1:1≤n) (h2:n≤1000000):leaseB n=true:=by
 unfold leaseB
 rw [decide_eq_true h1,decide_eq_true h2]
 rfl
section
variable {W w:World} {q:HP} {k kt kb:Nat} {h:HM} {t:TM} (D:DT W w q k kt kb h t)
include D
set_option maxRecDepth 100000 in
set_option maxHeartbeats 4000000 in
theorem drenew_any (id:Nat) (hid:id<18446744073709551616) (n:Int):Calls Tryz.prog 118 #[.pointer (some ⟨kt,0,none⟩),.int .u64 (id:Int),.int .i64 n] w (DDone W q k kt kb h (rnwT h t id n) (.int .i64 (rnwE h t id n:Nat)) w):=by
 have HBR:=Lib.hid (dbroken_any D)
 have HD:=Lib.hid D
 have HBAD:=Lib.hid (show ∀ e,e≠0→rnwE h t id n=e→rnwT h t id n=t from fun e h1 h2=>by unfold rnwT; rw [if_neg (by omega)])
 clear D
 cases hb:brkB h t with
 | true=>
   have HV:=Lib.hid (show rnwE h t id n=164 by
    have e:fndE h t id=164:=by unfold fndE; rw [hb,if_pos rfl]
    unfold rnwE; rw [e]; rfl)
   rw [hb] at HBR
   go_enter Tryz.func118,Tryz.ntmps118
   go_wp2_with fail
   refine HBR.out.mono ?_
   rintro e w1 ⟨rfl,hb1⟩
   have HB1:=Lib.hid hb1
   clear hb1
   go_wp2_with fail
   go_ret
   exact⟨by rw [HV.out]; rfl,by rw [HBAD.out _ (by decide) HV.out]; exact HD.out.after HB1.out,.of_below HB1.out⟩
 | false=>
   have HFD:=Lib.hid (fnd_dfn hb id)
   rw [hb] at HBR
   clear hb
   go_enter Tryz.func118,Tryz.ntmps118
   go_wp2_with fail
   refine HBR.out.mono ?_
   rintro e w1 ⟨rfl,hb1⟩
   have HB1:=Lib.hid hb1
   have HFI:=Lib.hid (dfind_any (HD.out.after hb1) id hid)
   clear hb1 HBR
   go_wp2_with fail
   refine HFI.out.mono ?_
   rintro e w2 ⟨rfl,hb2⟩
   have HB2:=Lib.hid (below_top HB1.out hb2)
   clear hb2 HFI
   by_cases hn:dfn t id = -1
   ·have HV:=Lib.hid (show rnwE h t id n=160 by
     have e:fndE h t id=160:=by rw [HFD.out,if_pos hn]
     unfold rnwE; rw [e]; rfl)
    rw [hn]
    clear hn
    go_wp2_with fail
    go_ret
    exact⟨by rw [HV.out]; rfl,by rw [HBAD.out _ (by decide) HV.out]; exact HD.out.after HB2.out,.of_below HB2.out⟩
   ·obtain⟨e1,e2,e3⟩:=dfn_find hn
    have HF0:=Lib.hid (show fndE h t id=0 by rw [HFD.out,if_neg hn])
    have hu:=(usedB_iff _).2 (TM.find_lt HD.out.ok e2 e3).2
    have hne:=(TM.find_lt HD.out.ok e2 e3).2
    have hc:t.find id<t.cap:=used_lt HD.out.ok hu
    rw [e1]
    clear hn e1
    by_cases hl:n<1∨1000000<n
    ·have HV:=Lib.hid (show rnwE h t id n=162 by unfold rnwE; rw [if_pos HF0.out,lease_no hl]; rfl)
     clear hu hne hc e2 e3
     generalize t.find id=x at *
     by_cases h1:n<1
     ·clear hl
      go_wp2_with fail
      go_ret
      exact⟨by rw [HV.out]; rfl,by rw [HBAD.out _ (by decide) HV.out]; exact HD.out.after HB2.out,.of_below HB2.out⟩
     ·have h2:1000000<n:=hl.resolve_left h1
      clear hl
      go_wp2_with fail
      go_ret
      exact⟨by rw [HV.out]; rfl,by rw [HBAD.out _ (by decide) HV.out]; exact HD.out.after HB2.out,.of_below HB2.out⟩
    ·have h1:¬ n<1:=fun hh=>hl (.inl hh)
     have h2:¬ 1000000<n:=fun hh=>hl (.inr hh)
     obtain⟨m,rfl⟩:=Int.eq_ofNat_of_zero_le (show 0≤n by omega)
     have he:rnwE h t id m=0:=by unfold rnwE; rw [if_pos HF0.out,lease_yes (by omega) (by omega)]; rfl
     have HV:=Lib.hid (show rnwE h t id m=0∧rnwT h t id m=t.renew (t.find id) m from⟨he,by unfold rnwT; rw [if_pos he]; rfl⟩)
     have O2:=HD.out.ok.renew (k:=t.find id) (n:=m) hne (by omega) (by omega)
     have D2:=HD.out.after HB2.out
     have hub:usedB (t.at (t.find id))=usedB ((t.at (t.find id)).1,t.now+m):=by
      rw [hu]
      exact ((usedB_iff _).2 (by intro hh; have:=(HD.out.ok.used _ hne).1; injection hh with h3 h4; omega)).symm
     have D3:DT W _ q k kt kb h (t.renew (t.find id) m):=(D2.expiry hc (t.now+m) O2 hub).drew
     have K3:=((DKeep.of_below (q:=q) (kt:=kt) (kb:=kb) HB2.out).row (t.find id*3+2) (.int .i64 ((t.now+m:Nat):Int))).drew
     have c1:=D2.c1
     have c2:=D2.c2
     have y2:=(D2.cell hc).2.2
     have fz:=D2.row.fz
     have hlt:(t.find id:Int)<(t.cap:Int):=by omega
     have a2:IntKind.i64.wrap ((t.now:Int)+(m:Int))=(t.now:Int)+(m:Int):=IntWalk.i64_in _ (by have:=HD.out.ok.nw; omega)
     rw [Int.natCast_add] at D3 K3
     have HD3:=Lib.hid D3
     have HK3:=Lib.hid K3
     clear he hl hu hne hc e2 e3 O2 D2 D3 K3 hub HBAD HF0 HFD
     generalize t.find id=x at *
     generalize (t.at x).2=b2 at *
     go_wp2_with fail
     go_region
     all_goals go_wp2_with fail
     all_goals go_ret
     all_goals exact⟨by rw [HV.out.1]; rfl,by rw [HV.out.2]; exact HD3.out,HK3.out⟩
def FreeAt (t:TM) (m:Nat) (a:Int):Prop:=(a = -1∧∀ j,m≤j→j<t.cap→t.at j≠(0,0))∨(∃ b:Nat,a=(b:Int)∧m≤b∧b<t.cap∧t.at b=(0,0)∧∀ j,m≤j→j<b→t.at j≠(0,0))
omit D in
theorem FreeAt.used {m:Nat} {a:Int} (H:FreeAt t (m+1) a) (hu:usedB (t.at m)=true):FreeAt t m a:=by
 have hne:=(usedB_iff _).1 hu
 have key:∀ (P:Nat→Prop) (hP:∀ j,m+1≤j→P j→t.at j≠(0,0)) j,m≤j→P j→t.at j≠(0,0):=fun P hP j hj hp=>by
  rcases Nat.lt_or_ge m j with h1 | h1
  ·exact hP j h1 hp
  ·rw [show j=m by omega]; exact hne
 rcases H with ⟨rfl,h1⟩ | ⟨b,rfl,h1,h2,h3,h4⟩
 ·exact .inl ⟨rfl,key _ h1⟩
 ·exact .inr ⟨b,rfl,by omega,h2,h3,key _ h4⟩
omit D in
theorem FreeAt.free {m:Nat} {a:Int} (hm:m<t.cap) (hu:usedB (t.at m)=false):FreeAt t m (m:Int):=
 .inr ⟨m,rfl,Nat.le_refl _,hm,(usedB_no _).1 hu,fun j h1 h2=>by omega⟩
set_option maxRecDepth 100000 in
set_option maxHeartbeats 8000000 in
theorem dissue_any (o:Nat) (ho:o<4294967296) (n:Int):Calls Tryz.prog 116 #[.pointer (some ⟨kt,0,none⟩),.int .u32 (o:Nat),.int .i64 n] w (DDone W q k kt kb (issH h t o n) (issT h t o n) (.tuple #[.int .u64 (issV h t o n:Nat),.int .i64 (issE h t o n:Nat)]) w):=by
 have HBR:=Lib.hid (dbroken_any D)
 have HD:=Lib.hid D
 have HBAD:=Lib.hid (show ∀ e,e≠0→issE h t o n=e→issH h t o n=h∧issT h t o n=t∧issV h t o n=0 from fun e h1 h2=>⟨by unfold issH; rw [if_neg (by omega)],by unfold issT; rw [if_neg (by omega)],by unfold issV; rw [if_neg (by omega)]⟩)
 clear D
 cases hb:brkB h t with
 | true=>
   have HV:=Lib.hid (show issE h t o n=164 by unfold issE; rw [hb]; rfl)
   rw [hb] at HBR
   go_enter Tryz.func116,Tryz.ntmps116
   go_wp2_with fail
   refine HBR.out.mono ?_
   rintro e w1 ⟨rfl,hb1⟩
   have HB1:=Lib.hid hb1
   clear hb1
   go_wp2_with fail
   go_ret2
   have B:=HBAD.out _ (by decide) HV.out
   exact⟨by rw [HV.out,B.2.2]; rfl,by rw [B.1,B.2.1]; exact HD.out.after HB1.out,.of_below HB1.out⟩
 | false =>
   rw [hb] at HBR
   cases hi:h.isB o with
   | false=>
     have HV:=Lib.hid (show issE h t o n=3 by unfold issE; rw [hb,hi]; rfl)
     clear hb
     go_enter Tryz.func116,Tryz.ntmps116
     go_wp2_with fail
     refine HBR.out.mono ?_
     rintro e w1 ⟨rfl,hb1⟩
     have HB1:=Lib.hid hb1
     have D1:=HD.out.after hb1
     have c0:=D1.c0
     have HI:=D1.is o ho
     rw [hi] at HI
     have HI:=Lib.hid HI
     clear hb1 D1 HBR
     go_wp2_with fail
     refine HI.out.mono ?_
     rintro e w2 ⟨rfl,rfl⟩
     go_wp2_with fail
     go_ret2
     have B:=HBAD.out _ (by decide) HV.out
     exact⟨by rw [HV.out,B.2.2]; rfl,by rw [B.1,B.2.1]; exact HD.out.after HB1.out,.of_below HB1.out⟩
   | true =>
     by_cases hl:n<1∨1000000<n
     ·have HV:=Lib.hid (show issE h t o n=162 by unfold issE; rw [hb,hi,lease_no hl]; rfl)
      clear hb
      by_cases h1:n<1
      ·clear hl
       go_enter Tryz.func116,Tryz.ntmps116
       go_wp2_with fail
       refine HBR.out.mono ?_
       rintro e w1 ⟨rfl,hb1⟩
       have HB1:=Lib.hid hb1
       have D1:=HD.out.after hb1
       have c0:=D1.c0
       have HI:=D1.is o ho
       rw [hi] at HI
       have HI:=Lib.hid HI
       clear hb1 D1 HBR
       go_wp2_with fail
       refine HI.out.mono ?_
       rintro e w2 ⟨rfl,rfl⟩
       go_wp2_with fail
       go_ret2
       have B:=HBAD.out _ (by decide) HV.out
       exact⟨by rw [HV.out,B.2.2]; rfl,by rw [B.1,B.2.1]; exact HD.out.after HB1.out,.of_below HB1.out⟩
      ·have h2:1000000<n:=hl.resolve_left h1
       clear hl
       go_enter Tryz.func116,Tryz.ntmps116
       go_wp2_with fail
       refine HBR.out.mono ?_
       rintro e w1 ⟨rfl,hb1⟩
       have HB1:=Lib.hid hb1
       have D1:=HD.out.after hb1
       have c0:=D1.c0
       have HI:=D1.is o ho
       rw [hi] at HI
       have HI:=Lib.hid HI
       clear hb1 D1 HBR
       go_wp2_with fail
       refine HI.out.mono ?_
       rintro e w2 ⟨rfl,rfl⟩
       go_wp2_with fail
       go_ret2
       have B:=HBAD.out _ (by decide) HV.out
       exact⟨by rw [HV.out,B.2.2]; rfl,by rw [B.1,B.2.1]; exact HD.out.after HB1.out,.of_below HB1.out⟩
     ·have h1:¬ n<1:=fun hh=>hl (.inl hh)
      have h2:¬ 1000000<n:=fun hh=>hl (.inr hh)
      obtain⟨m,rfl⟩:=Int.eq_ofNat_of_zero_le (show 0≤n by omega)
      have HIE:=Lib.hid (iss_free hb hi (lease_yes (n:=(m:Int)) (by omega) (by omega)))
      have HM:=Lib.hid (show 1≤m∧m≤1000000 by omega)
      clear hb hl
      have a0:IntKind.i64.wrap ((t.cap:Int)-1)=(t.cap:Int)-1:=IntWalk.i64_in _ (by have:=HD.out.ok.hi; omega)
      go_enter Tryz.func116,Tryz.ntmps116
      go_wp2_with fail
      refine HBR.out.mono ?_
      rintro e w1 ⟨rfl,hb1⟩
      have HB1:=Lib.hid hb1
      have D1:=HD.out.after hb1
      have c0:=D1.c0
      have c1:=D1.c1
      have HI:=D1.is o ho
      rw [hi] at HI
      have HI:=Lib.hid HI
      have HD1:=Lib.hid D1
      clear hb1 D1 HBR hi
      go_wp2_with fail
      refine HI.out.mono ?_
      rintro e w2 ⟨rfl,rfl⟩
      go_wp2_with fail
      have HCH:=Lib.hid (show t.cap≤256 from HD.out.ok.hi)
      go_loopw [8,9] (fun av iv wr=>∃ (j:Nat) (a x:Int),iv = .int .i64 x∧x+1=(j:Int)∧av = .int .i64 a∧j≤t.cap∧Hid (FreeAt t j a)∧Hid (Below w.heap.size w wr)) (fun _ iv _=>(intOf iv+1).toNat)
      case atStart=>exact⟨t.cap,-1,(t.cap:Int)-1,rfl,by omega,rfl,Nat.le_refl _,Lib.hid (.inl ⟨rfl,fun j h3 h4=>by omega⟩),HB1⟩
      case round=>
       clear c0 c1 a0
       obtain⟨j,a,x,rfl,hx,rfl,hj,HFr,HBr⟩:=hrel
       have HDr:=Lib.hid (HD.out.after HBr.out)
       have c1:=HDr.out.c1
       cases j with
       | succ j=>
         obtain rfl:x=(j:Int):=by omega
         have x0:=(HDr.out.cell (i:=j) (by omega)).1
         have a1:IntKind.i64.wrap ((j:Int)-1)=(j:Int)-1:=IntWalk.i64_in _ (by have:=HCH.out; omega)
         have hlt:(j:Int)<(t.cap:Int):=by omega
         cases hu:usedB (t.at j) with
         | true=>
           have HF2:=Lib.hid (HFr.out.used hu)
           rw [hu] at x0
           clear hu hx
           go_wp2_with fail
           go_roundw
           case rel=>exact⟨j,a,(j:Int)-1,rfl,by omega,rfl,by omega,HF2,HBr⟩
           case measure=>simp [intOf]
         | false=>
           have HF2:=Lib.hid (FreeAt.free (a:=a) (show j<t.cap by omega) hu)
           rw [hu] at x0
           clear hu hx
           go_wp2_with fail
           go_roundw
           case rel=>exact⟨j,(j:Int),(j:Int)-1,rfl,by omega,rfl,by omega,HF2,HBr⟩
           case measure=>simp [intOf]
       | zero=>
         obtain rfl:x = -1:=by omega
         clear hx
         rcases HFr.out with ⟨rfl,hno⟩ | ⟨b,rfl,-,hbc,hb0,hbl⟩
         ·have HV:=Lib.hid (show issE h t o m=161 by rw [HIE.out,if_pos (ht_free_none HDr.out.ok (fun j hj=>hno j (Nat.zero_le _) hj))])
          clear HFr hno
          go_wp2_with fail
          go_ret2
          have B:=HBAD.out _ (by decide) HV.out
          exact⟨by rw [HV.out,B.2.2]; rfl,by rw [B.1,B.2.1]; exact HDr.out,.of_below HBr.out⟩
         ·have hfr:=free_is HDr.out.ok hbc hb0 (fun j hj=>hbl j (Nat.zero_le _) hj)
          have HFE:=Lib.hid hfr
          have HIE2:=Lib.hid (HIE.out.trans (by rw [hfr,if_neg (not_not_intro hbc)]))
          have c3:=HDr.out.c3
          clear HFr hfr hbl
          by_cases hnx:t.next=0
          ·have HV:=Lib.hid (show issE h t o m=163 by rw [HIE2.out,if_pos hnx])
           rw [hnx] at c3
           simp only [Int.natCast_zero] at c3
           clear hnx hbc hb0
           go_wp2_with fail
           go_ret2
           have B:=HBAD.out _ (by decide) HV.out
           exact⟨by rw [HV.out,B.2.2]; rfl,by rw [B.1,B.2.1]; exact HDr.out,.of_below HBr.out⟩
          ·have he:issE h t o m=0:=by rw [HIE2.out,if_neg hnx]
           have HV:=Lib.hid (show issT h t o m=t.issue b m∧issH h t o m=h.putH h.arr b o∧issV h t o m=t.next∧issE h t o m=0 from
            ⟨by unfold issT; rw [if_pos he,HFE.out]; rfl,by unfold issH; rw [if_pos he,HFE.out],by unfold issV; rw [if_pos he],he⟩)
           have O1:=HDr.out.ok.bump hnx
           have O2:=HDr.out.ok.issue (n:=m) hbc hb0 hnx HM.out.1 HM.out.2
           have D3:=HDr.out.setNext _ O1
           have D4:=(D3.slot (i:=b) (t.next,t.now+m) O2).drew
           have K3:DKeep q kt kb w (wr.setCell ⟨kt,3,none⟩ (.int .u64 ((if t.next=18446744073709551615 then 0 else t.next+1:Nat):Int))):=(DKeep.of_below HBr.out).tab _ _
           have K4:=(((K3.row (b*3) (.bool true)).row (b*3+1) (.int .u64 (t.next:Int))).row (b*3+2) (.int .i64 ((t.now+m:Nat):Int))).drew
           rw [show usedB (t.next,t.now+m)=true from (usedB_iff _).2 (by intro hh; exact hnx (by injection hh))] at D4
           have a1:IntKind.u64.wrap ((t.next:Int)+1)=((if t.next=18446744073709551615 then 0 else t.next+1:Nat):Int):=by
            have:=HDr.out.ok.n64
            have hb:IntKind.u64.bits=64:=rfl
            unfold IntKind.wrap
            simp [hb,IntKind.signed]
            split <;> omega
           have a2:IntKind.i64.wrap ((t.now:Int)+(m:Int))=(t.now:Int)+(m:Int):=IntWalk.i64_in _ (by have:=HDr.out.ok.nw; have:=HM.out; omega)
           have HPT:=Lib.hid (D4.drew.put1 b (by have:=HCH.out; omega) o ho)
           have hd0:=D4.drew.c0
           have hda:=D4.drew.arrs
           have HK4:=Lib.hid K4.drew
           obtain⟨x0,x1,x2⟩:=D3.cell (i:=b) hbc
           have y1:=D3.c1
           have y2:=D3.c2
           have fz:=D3.row.fz
           have fzt:=HDr.out.tab.fz
           have hlt:(b:Int)<(t.cap:Int):=by omega
           have hnx2:((t.next:Int) == 0)=false:=by simp; omega
           have HV2:=Lib.hid HV.out.1
           clear O1 O2 D3 D4 K3 K4 he HIE2 HIE hnx hb0 HFE
           unfold TM.issue at HV2
           simp only at HPT HK4 x0 x1 x2 y1 y2
           simp only [Int.natCast_add] at HPT HK4 hd0 hda
           generalize (if t.next=18446744073709551615 then 0 else t.next+1)=N at *
           have x0:(wr.setCell ⟨kt,3,none⟩ (.int .u64 (N:Nat))).cell? ⟨kb,b*3,none⟩=some (.bool (usedB (t.at b))):=x0
           have x1:(wr.setCell ⟨kt,3,none⟩ (.int .u64 (N:Nat))).cell? ⟨kb,b*3+1,none⟩=some (.int .u64 ((t.at b).1:Int)):=x1
           have x2:(wr.setCell ⟨kt,3,none⟩ (.int .u64 (N:Nat))).cell? ⟨kb,b*3+2,none⟩=some (.int .i64 ((t.at b).2:Int)):=x2
           generalize usedB (t.at b)=ub at *
           generalize (t.at b).1=b1 at *
           generalize (t.at b).2=b2 at *
           generalize h.putH h.arr b o=hX at *
           generalize h.arr=ar at *
           generalize h.roots.getD 0 0=nl at *
           obtain⟨d0,d1,d2⟩:=hda
           clear HCH hj h1 h2 HI HBAD
           go_wp2_with fail
           go_region
           all_goals go_upto_region 20 with fail
           all_goals clear x0 x1 x2 y1 y2 fz fzt c1 c3
           all_goals
            go_region_held3 (fun w'=>w'.cell? ⟨kt,0,none⟩=some (.pointer (some ⟨k,0,none⟩))∧w'.cell? ⟨k,2,none⟩=some (.slice (some ⟨q.gr,0,none⟩) 64 q.cr)∧w'.cell? ⟨q.gr,40,none⟩=some (.int .u32 (ar:Nat))∧w'.cell? ⟨q.gr,0,none⟩=some (.int .u32 (nl:Nat)))
             (first | with_reducible exact⟨e0,e1,e2,e3⟩ | exact⟨hd0,d0,d1,d2⟩ | go_keep)
             (first
               | (go_at_call 124; (refine HPT.out.mono ?_); rintro e w3 ⟨rfl,HD3,HK3,e0,e1,e2,e3⟩))
           all_goals go_wp2_with fail
           all_goals go_ret2
           all_goals exact⟨by rw [HV.out.2.2.1,HV.out.2.2.2]; rfl,by rw [HV.out.2.1,HV2.out]; exact HD3.out,HK4.out.trans HK3.out⟩
end
end
section
open Go.RowKit Go.BigFrame
attribute [local go_sem] Oper.semAt_some
section
variable {W w:World} {q:HP} {k kt kb:Nat} {h:HM} {t:TM} (D:DT W w q k kt kb h t)
include D
theorem DT.at1 {w0:World} (hb:Below w0.heap.size w0 w) {j:Nat} (hj:j<t.cap):
 Calls Tryz.prog 126 #[.pointer (some ⟨kt,0,none⟩),.int .i64 (j:Int)] w fun e w2=>e = .returned (.int .u32 (h.objK j:Nat))∧Hid (DT W w2 q k kt kb h t)∧Hid (Below w.heap.size w w2)∧w2.cell? ⟨kt,1,none⟩=some (.slice (some ⟨kb,0,none⟩) t.cap t.cap)∧w2.cell? ⟨kb,j*3+1,none⟩=some (.int .u64 ((t.at j).1:Int))∧w2.cell? ⟨kb,j*3+2,none⟩=some (.int .i64 ((t.at j).2:Int)):=
 (dAt_any D j (by have:=D.ok.hi; omega)).mono fun e w2 hh=>⟨hh.1,Lib.hid (D.after hh.2),Lib.hid hh.2,(D.after hh.2).c1,((D.after hh.2).cell hj).2.1,((D.after hh.2).cell hj).2.2⟩
set_option maxRecDepth 100000 in
set_option maxHeartbeats 8000000 in
theorem dlive_any:Calls Tryz.prog 50 #[.pointer (some ⟨kt,0,none⟩)] w (fun e w'=>∃ v,e = .returned v∧w'.ownsRow w.heap.size 99 3 v (livL h t).length (hdsC (livL h t))∧Below w.heap.size w w'):=by
 have HBR:=Lib.hid (dbroken_any D)
 have HD:=Lib.hid D
 clear D
 cases hbr:brkB h t with
 | true=>
   have HV:=Lib.hid (show livL h t=[] by unfold livL; rw [if_pos hbr])
   rw [hbr] at HBR
   go_enter Tryz.func50,Tryz.ntmps50
   go_wp2_with fail
   refine HBR.out.mono ?_
   rintro e w1 ⟨rfl,hb1⟩
   have HB1:=Lib.hid hb1
   clear hb1
   go_wp2_with fail
   go_ret
   exact⟨_,rfl,by rw [HV.out]; exact own_none,HB1.out⟩
 | false=>
   have HV:=Lib.hid (show livL h t=t.liveK.map (hd3 h t) by unfold livL; rw [if_neg (by rw [hbr]; decide)])
   rw [hbr] at HBR
   clear hbr
   go_enter Tryz.func50,Tryz.ntmps50
   go_wp2_with fail
   refine HBR.out.mono ?_
   rintro e w1 ⟨rfl,hb1⟩
   have HD1:=Lib.hid (HD.out.after hb1)
   have HB1:=Lib.hid hb1
   have hcap:t.cap≤256:=HD.out.ok.hi
   have HOK:=Lib.hid HD.out.ok
   clear hb1 HBR HD
   go_wp2_with fail
   obtain⟨i0,hi0,hz0,hz1,hz2⟩:=info_parts info_hd
   go_loopw [3,4] (fun gv iv wr=>∃ (j:Nat) (ys:List H3),iv = .int .i64 (j:Int)∧j≤t.cap∧Hid (wr.ownsRow w1.heap.size 99 3 gv ys.length (hdsC ys))∧Hid (Below w1.heap.size w1 wr)∧Hid (ys.Perm ((t.usedK j).map (hd3 h t)))∧Hid (SortedH ys)) (fun _ iv _=>t.cap-(intOf iv).toNat)
   case atStart=>exact⟨0,[],rfl,Nat.zero_le _,Lib.hid own_none,Lib.hid (Below.refl _ _),Lib.hid (List.Perm.refl _),Lib.hid List.Pairwise.nil⟩
   case round=>
    obtain⟨j,ys,rfl,hj,HOr,HBr,HPr,HSr⟩:=hrel
    have HDr:=Lib.hid (HD1.out.after HBr.out)
    have c1:=HDr.out.c1
    have HSU:=Lib.hid (t.usedK_succ j)
    have hyl:ys.length≤256:=by
     have h1:=HPr.out.length_eq
     rw [List.length_map] at h1
     have:=t.usedK_len j
     omega
    by_cases hlt:j<t.cap
    ·obtain ⟨x0,x1,x2⟩:=HDr.out.cell hlt
     cases hu:usedB (t.at j) with
     | false=>
       have HS2:=Lib.hid (show t.usedK (j+1)=t.usedK j by rw [HSU.out,hu]; rfl)
       rw [hu] at x0
       clear x1 x2 hu
       go_wp2_with fail
       go_roundw
       case rel=>exact⟨j+1,ys,by go_num,by omega,HOr,HBr,by rw [HS2.out]; exact HPr,HSr⟩
       case measure=>simp [intOf]; omega
     | true =>
       have HS2:=Lib.hid (show t.usedK (j+1)=t.usedK j++[j] by rw [HSU.out,hu]; rfl)
       have HXX:=Lib.hid (show hd3 h t j=((t.at j).1,h.objK j,(t.at j).2) from rfl)
       rw [hu] at x0
       clear hu HSU
       go_upto_region 8 with fail
       refine wp_region_U 22 (fun w'=>w'.cell? ⟨kt,1,none⟩=some (.slice (some ⟨kb,0,none⟩) t.cap t.cap)∧w'.cell? ⟨kb,j*3+1,none⟩=some (.int .u64 ((t.at j).1:Int))∧w'.cell? ⟨kb,j*3+2,none⟩=some (.int .i64 ((t.at j).2:Int))) (by kernel_rfl) ?_
       have hbd:Below wr.heap.size wr wr.drew:=below_drew (Below.refl _ _)
       have HDq:=Lib.hid (HDr.out.after hbd)
       have HOq:=Lib.hid (own_below HOr.out hbd)
       have HBq:=Lib.hid (below_top HBr.out hbd)
       have hS:wr.drew.cell? ⟨kt,1,none⟩=some (.slice (some ⟨kb,0,none⟩) t.cap t.cap)∧wr.drew.cell? ⟨kb,j*3+1,none⟩=some (.int .u64 ((t.at j).1:Int))∧wr.drew.cell? ⟨kb,j*3+2,none⟩=some (.int .i64 ((t.at j).2:Int)):=⟨c1,x1,x2⟩
       clear hbd HDr HOr HBr x0 x1 x2 c1
       generalize wr.drew=wq at *
       have HOB:=Lib.hid (DT.at1 (w0:=wq) HDq.out (Below.refl _ _) hlt)
       have hlti:(j:Int)<(t.cap:Int):=by omega
       generalize (t.at j).1=a at *
       generalize (t.at j).2=b at *
       generalize h.objK j=ob at *
       refine U_read 0 (v:=u3) rfl (by kernel_rfl) (fun _ _ _ h=>h) hS (by kernel_rfl) (fun w' hw'=>by obtain⟨h0,h1,h2⟩:=hw'; go_simp) ?_
       try simp only [Act.put,List.setIfInBounds_toArray,List.set_cons_zero,List.set_cons_succ]
       refine U_readC 1 [2,3,4,6,7,8,20,21,22] (v:=(.pointer (some ⟨kt,0,none⟩))) rfl (by kernel_rfl) (fun _ _ _ h=>h) hS (by kernel_rfl) (fun w' hw'=>by obtain⟨h0,h1,h2⟩:=hw'; go_simp) ?_
       try simp only [Act.put,List.setIfInBounds_toArray,List.set_cons_zero,List.set_cons_succ]
       refine U_readC 2 [3,4,6,7,8,20,21,22] (v:=(.pointer (some ⟨kt,0,none⟩))) rfl (by kernel_rfl) (fun _ _ _ h=>h) hS (by kernel_rfl) (fun w' hw'=>by obtain⟨h0,h1,h2⟩:=hw'; go_simp) ?_
       try simp only [Act.put,List.setIfInBounds_toArray,List.set_cons_zero,List.set_cons_succ]
       refine U_readC 3 [4,6,7,8,20,21,22] (v:=(.pointer (some ⟨kt,1,none⟩))) rfl (by kernel_rfl) (fun _ _ _ h=>h) hS (by kernel_rfl) (fun w' hw'=>by obtain⟨h0,h1,h2⟩:=hw'; go_simp) ?_
       try simp only [Act.put,List.setIfInBounds_toArray,List.set_cons_zero,List.set_cons_succ]
       refine U_readC 4 [6,7,8,20,21,22] (v:=(.slice (some ⟨kb,0,none⟩) t.cap t.cap)) rfl (by kernel_rfl) (fun _ _ _ h=>h) hS (by kernel_rfl) (fun w' hw'=>by obtain⟨h0,h1,h2⟩:=hw'; go_simp) ?_
       try simp only [Act.put,List.setIfInBounds_toArray,List.set_cons_zero,List.set_cons_succ]
       refine U_readC 5 [6,7,8,20,21,22] (v:=(.int .i64 (j:Int))) rfl (by kernel_rfl) (fun _ _ _ h=>h) hS (by kernel_rfl) (fun w' hw'=>by obtain⟨h0,h1,h2⟩:=hw'; go_simp) ?_
       try simp only [Act.put,List.setIfInBounds_toArray,List.set_cons_zero,List.set_cons_succ]
       refine U_readC 6 [7,8,20,21,22] (v:=(.pointer (some ⟨kb,j*3,none⟩))) rfl (by kernel_rfl) (fun _ _ _ h=>h) hS (by kernel_rfl) (fun w' hw'=>by obtain⟨h0,h1,h2⟩:=hw'; go_simp) ?_
       try simp only [Act.put,List.setIfInBounds_toArray,List.set_cons_zero,List.set_cons_succ]
       refine U_readC 7 [8,20,21,22] (v:=(.pointer (some ⟨kb,j*3+1,none⟩))) rfl (by kernel_rfl) (fun _ _ _ h=>h) hS (by kernel_rfl) (fun w' hw'=>by obtain⟨h0,h1,h2⟩:=hw'; go_simp) ?_
       try simp only [Act.put,List.setIfInBounds_toArray,List.set_cons_zero,List.set_cons_succ]
       refine U_readC 8 [20,21,22] (v:=(.int .u64 (a:Int))) rfl (by kernel_rfl) (fun _ _ _ h=>h) hS (by kernel_rfl) (fun w' hw'=>by obtain⟨h0,h1,h2⟩:=hw'; go_simp) ?_
       try simp only [Act.put,List.setIfInBounds_toArray,List.set_cons_zero,List.set_cons_succ]
       refine U_readC 9 [11,20,21,22] (v:=(.pointer (some ⟨kt,0,none⟩))) rfl (by kernel_rfl) (fun _ _ _ h=>h) hS (by kernel_rfl) (fun w' hw'=>by obtain⟨h0,h1,h2⟩:=hw'; go_simp) ?_
       try simp only [Act.put,List.setIfInBounds_toArray,List.set_cons_zero,List.set_cons_succ]
       refine U_readC 10 [11,20,21,22] (v:=(.int .i64 (j:Int))) rfl (by kernel_rfl) (fun _ _ _ h=>h) hS (by kernel_rfl) (fun w' hw'=>by obtain⟨h0,h1,h2⟩:=hw'; go_simp) ?_
       try simp only [Act.put,List.setIfInBounds_toArray,List.set_cons_zero,List.set_cons_succ]
       refine U_readC 12 [13,14,15,17,18,19,20,21,22] (v:=(.pointer (some ⟨kt,0,none⟩))) rfl (by kernel_rfl) (fun _ _ _ h=>h) hS (by kernel_rfl) (fun w' hw'=>by obtain⟨h0,h1,h2⟩:=hw'; go_simp) ?_
       try simp only [Act.put,List.setIfInBounds_toArray,List.set_cons_zero,List.set_cons_succ]
       refine U_readC 13 [14,15,17,18,19,20,21,22] (v:=(.pointer (some ⟨kt,0,none⟩))) rfl (by kernel_rfl) (fun _ _ _ h=>h) hS (by kernel_rfl) (fun w' hw'=>by obtain⟨h0,h1,h2⟩:=hw'; go_simp) ?_
       try simp only [Act.put,List.setIfInBounds_toArray,List.set_cons_zero,List.set_cons_succ]
       refine U_readC 14 [15,17,18,19,20,21,22] (v:=(.pointer (some ⟨kt,1,none⟩))) rfl (by kernel_rfl) (fun _ _ _ h=>h) hS (by kernel_rfl) (fun w' hw'=>by obtain⟨h0,h1,h2⟩:=hw'; go_simp) ?_
       try simp only [Act.put,List.setIfInBounds_toArray,List.set_cons_zero,List.set_cons_succ]
       refine U_readC 15 [17,18,19,20,21,22] (v:=(.slice (some ⟨kb,0,none⟩) t.cap t.cap)) rfl (by kernel_rfl) (fun _ _ _ h=>h) hS (by kernel_rfl) (fun w' hw'=>by obtain⟨h0,h1,h2⟩:=hw'; go_simp) ?_
       try simp only [Act.put,List.setIfInBounds_toArray,List.set_cons_zero,List.set_cons_succ]
       refine U_readC 16 [17,18,19,20,21,22] (v:=(.int .i64 (j:Int))) rfl (by kernel_rfl) (fun _ _ _ h=>h) hS (by kernel_rfl) (fun w' hw'=>by obtain⟨h0,h1,h2⟩:=hw'; go_simp) ?_
       try simp only [Act.put,List.setIfInBounds_toArray,List.set_cons_zero,List.set_cons_succ]
       refine U_readC 17 [18,19,20,21,22] (v:=(.pointer (some ⟨kb,j*3,none⟩))) rfl (by kernel_rfl) (fun _ _ _ h=>h) hS (by kernel_rfl) (fun w' hw'=>by obtain⟨h0,h1,h2⟩:=hw'; go_simp) ?_
       try simp only [Act.put,List.setIfInBounds_toArray,List.set_cons_zero,List.set_cons_succ]
       refine U_readC 18 [19,20,21,22] (v:=(.pointer (some ⟨kb,j*3+2,none⟩))) rfl (by kernel_rfl) (fun _ _ _ h=>h) hS (by kernel_rfl) (fun w' hw'=>by obtain⟨h0,h1,h2⟩:=hw'; go_simp) ?_
       try simp only [Act.put,List.setIfInBounds_toArray,List.set_cons_zero,List.set_cons_succ]
       refine U_readC 19 [20,21,22] (v:=(.int .i64 (b:Int))) rfl (by kernel_rfl) (fun _ _ _ h=>h) hS (by kernel_rfl) (fun w' hw'=>by obtain⟨h0,h1,h2⟩:=hw'; go_simp) ?_
       try simp only [Act.put,List.setIfInBounds_toArray,List.set_cons_zero,List.set_cons_succ]
       refine U_one 11 (by kernel_rfl) rfl rfl (fun K hK=>?_)
       go_simp
       refine HOB.out.mono ?_
       rintro e w6 ⟨rfl,HD6,HB6,y0,y1,y2⟩
       try dsimp only
       refine hK _ _ (fun _=>⟨y0,y1,y2⟩) ?_
       clear hK K
       try simp only [Act.put,List.setIfInBounds_toArray,List.set_cons_zero,List.set_cons_succ]
       refine U_one 20 (by kernel_rfl) rfl rfl (fun K hK=>?_)
       go_simp
       refine hK _ _ (fun _=>⟨y0,y1,y2⟩) ?_
       clear hK K
       try simp only [Act.put,List.setIfInBounds_toArray,List.set_cons_zero,List.set_cons_succ]
       have hal:=(Below.refl w6.heap.size w6).alloc (Nat.le_refl _) (.cells #[.int .u64 (a:Int),.int .u32 (ob:Nat),.int .i64 (b:Int)] 99)
       refine U_one 21 (by kernel_rfl) rfl rfl (fun K hK=>?_)
       go_simp
       refine hK _ _ (fun _=>⟨(hal.cell (p:=⟨kt,1,none⟩) (World.block_lt_of_cell? _ _ y0)).trans y0,(hal.cell (p:=⟨kb,j*3+1,none⟩) (World.block_lt_of_cell? _ _ y1)).trans y1,(hal.cell (p:=⟨kb,j*3+2,none⟩) (World.block_lt_of_cell? _ _ y2)).trans y2⟩) ?_
       clear hK K
       try simp only [Act.put,List.setIfInBounds_toArray,List.set_cons_zero,List.set_cons_succ]
       have HO6:=Lib.hid (own_below HOq.out HB6.out)
       have HB7:=Lib.hid (below_top HBq.out HB6.out)
       have hZ:w1.heap.size≤w6.heap.size:=HB7.out.size
       refine U_one 22 (by kernel_rfl) rfl rfl (fun K hK=>?_)
       refine wp_append_any _ (.tmp 26) (.tmp 47) _ rfl w1.heap.size 99 i0 _ 3 24 Tryz.underlying87 hi0 hz0 hz1 hz2 rfl (by omega) u3 ys.length _ rfl (own_keep HO6.out (fun q hq=>Below.heap_alloc w6 (.cells #[.int .u64 (a:Int),.int .u32 (ob:Nat),.int .i64 (b:Int)] 99) q (HO6.out.lt q hq).2)) (w6.heap.size+1) (some ⟨w6.heap.size,0,none⟩) 1 1 [.int .u64 (a:Int),.int .u32 (ob:Nat),.int .i64 (b:Int)] rfl (hreads_three w6 _ _ _ _) (fun u hu=>by simp at hu; rcases hu with rfl | rfl | rfl <;> rfl) (by simp only [maxLen]; omega) (by omega) (by simp; omega) ?_
       intro v3 w3 hown3 hgrow3 hat3
       have HB3:=Lib.hid (below_grown (Nat.le_refl _) (HB7.out.alloc HB7.out.size (.cells #[.int .u64 (a:Int),.int .u32 (ob:Nat),.int .i64 (b:Int)] 99)) hgrow3 (fun q hq=>(HO6.out.lt q hq).1))
       have HO3:=Lib.hid hown3
       clear hown3 hgrow3 hat3
       refine hK _ _ (fun h=>absurd h (by decide)) ?_
       clear hK K
       try simp only [Act.put,List.setIfInBounds_toArray,List.set_cons_zero,List.set_cons_succ]
       refine U_one 23 (by kernel_rfl) rfl rfl (fun K hK=>?_)
       go_simp
       refine hK _ _ (fun h=>absurd h (by decide)) ?_
       clear hK K
       try simp only [Act.put,List.setIfInBounds_toArray,List.set_cons_zero,List.set_cons_succ]
       refine U_done (by kernel_rfl) ?_ _
       simp only [Calm,Exit.then]
       clear hS hal HOB y0 y1 y2
       obtain⟨g3,c3,rfl,hb3,-⟩:=HO3.out.form (by omega)
       have HO4:=Lib.hid (show w3.ownsRow w1.heap.size 99 3 (.slice (some ⟨g3,0,none⟩) (ys.length+1) c3) (ys.length+1) (hdsC (insAt ys (a,ob,b) ys.length)) from by rw [insAt_last,hdsC_snoc]; exact HO3.out)
       have HG3:=Lib.hid hb3
       have HDE:=Lib.hid (show ∀ y∈ys.drop ys.length,a<y.1 from by rw [List.drop_length]; intro y hy; cases hy)
       have HNP:=Lib.hid (show ∀ i,(insAt ys (a,ob,b) i).Perm ((t.usedK (j+1)).map (hd3 h t)) from fun i=>by
        refine (insAt_perm ys (a,ob,b) i).trans ?_
        rw [HS2.out,List.map_append,List.map_cons,List.map_nil,HXX.out]
        exact HPr.out.append_right _)
       clear HO3 HO6 HB7 HDq HOq HBq HD6 HB6 hb3 hZ HPr HS2 HXX
       generalize hmm:ys.length=m at *
       have HM:=Lib.hid hmm
       clear hmm
       go_wp2_with fail
       go_loopw [5] (fun s5 wx=>∃ i:Nat,s5 = .int .i64 (i:Int)∧i≤m∧Hid (wx.ownsRow w1.heap.size 99 3 (.slice (some ⟨g3,0,none⟩) (m+1) c3) (m+1) (hdsC (insAt ys (a,ob,b) i)))∧Hid (Below w1.heap.size w1 wx)∧Hid (∀ y∈ys.drop i,a<y.1)) (fun s5 _=>(intOf s5).toNat)
       case atStart=>exact⟨m,rfl,Nat.le_refl _,HO4,HB3,HDE⟩
       case round=>
        clear HO4 HB3 HDE
        obtain⟨i,rfl,hi,HOi,HBi,HDi⟩:=hrel
        cases i with
        | zero=>
          have HS3:=Lib.hid (insAt_sorted (x:=(a,ob,b)) HSr.out (Nat.zero_le _) HDi.out (fun y hy=>by simp at hy))
          have HLI:=Lib.hid (show (insAt ys (a,ob,b) 0).length=m+1 from by rw [insAt_len _ _ (Nat.zero_le _),HM.out])
          go_upto_region 10 with fail
          go_quiet (fail)
          go_wp2_with fail
          go_roundw
          case rel=>exact⟨j+1,insAt ys (a,ob,b) 0,by go_num,by omega,by rw [HLI.out]; exact Lib.hid (own_below HOi.out (below_drewN (Below.refl _ _) _)),Lib.hid (below_drewN HBi.out _),Lib.hid (HNP.out 0),HS3⟩
          case measure=>simp [intOf]; omega
        | succ i=>
          obtain⟨y,hy⟩ :∃ y,ys[i]? = some y:=⟨_,List.getElem?_eq_getElem (by rw [HM.out]; omega)⟩
          have gy:=hdsC_get ((insAt_y ys (a,ob,b) (by rw [HM.out]; omega)).trans hy)
          have gx:=hdsC_get (insAt_x ys (a,ob,b) (i:=i+1) (by rw [HM.out]; omega))
          have y0:=(HOi.out.cellAt (i*3) (by omega)).trans gy.1
          have y1:=(HOi.out.cellAt (i*3+1) (by omega)).trans gy.2.1
          have y2:=(HOi.out.cellAt (i*3+2) (by omega)).trans gy.2.2
          have x0:=(HOi.out.cellAt ((i+1)*3) (by omega)).trans gx.1
          have x1:=(HOi.out.cellAt ((i+1)*3+1) (by omega)).trans gx.2.1
          have x2:=(HOi.out.cellAt ((i+1)*3+2) (by omega)).trans gx.2.2
          have HY:=Lib.hid hy
          have hi2:i<m+1:=by omega
          have hi3:i+1<m+1:=by omega
          rcases y with ⟨ya,yb,yc⟩
          dsimp only at x0 x1 x2 y0 y1 y2
          clear gy gx hy
          by_cases hyx:a<ya
          ·have hd:decide (a<ya)=true:=decide_eq_true hyx
           have HD2:=Lib.hid (drop_more (x:=(a,ob,b)) HY.out hyx HDi.out)
           have fz:=fun k=>HOi.out.frozenAt k
           have HON:=Lib.hid (show (((((wr.setCell ⟨g3,i*3,none⟩ (.int .u64 (a:Int))).setCell ⟨g3,i*3+1,none⟩ (.int .u32 (ob:Nat))).setCell ⟨g3,i*3+2,none⟩ (.int .i64 (b:Int))).setCell ⟨g3,(i+1)*3,none⟩ (.int .u64 (ya:Int))).setCell ⟨g3,(i+1)*3+1,none⟩ (.int .u32 (yb:Nat))).setCell ⟨g3,(i+1)*3+2,none⟩ (.int .i64 (yc:Int)) |>.ownsRow w1.heap.size 99 3 (.slice (some ⟨g3,0,none⟩) (m+1) c3) (m+1) (hdsC (insAt ys (a,ob,b) i)) from by
            have h6:=((((((HOi.out.stored (i*3) (.int .u64 (a:Int))).1.stored (i*3+1) (.int .u32 (ob:Nat))).1.stored (i*3+2) (.int .i64 (b:Int))).1.stored ((i+1)*3) (.int .u64 (ya:Int))).1.stored ((i+1)*3+1) (.int .u32 (yb:Nat))).1.stored ((i+1)*3+2) (.int .i64 (yc:Int))).1
            rw [← insAt_swap ys (a,ob,b) (ya,yb,yc) (by rw [HM.out]; omega) HY.out,hdsC_set,hdsC_set]
            exact h6)
           have HBN:=Lib.hid ((((((HBi.out.setCell (p:=⟨g3,i*3,none⟩) HG3.out (.int .u64 (a:Int))).setCell (p:=⟨g3,i*3+1,none⟩) HG3.out (.int .u32 (ob:Nat))).setCell (p:=⟨g3,i*3+2,none⟩) HG3.out (.int .i64 (b:Int))).setCell (p:=⟨g3,(i+1)*3,none⟩) HG3.out (.int .u64 (ya:Int))).setCell (p:=⟨g3,(i+1)*3+1,none⟩) HG3.out (.int .u32 (yb:Nat))).setCell (p:=⟨g3,(i+1)*3+2,none⟩) HG3.out (.int .i64 (yc:Int)))
           go_upto_region 10 with fail
           go_quiet (fail)
           go_upto_region 12 with fail
           go_region
           all_goals go_wp2_with fail
           all_goals go_roundw
           case rel=>exact⟨i,rfl,by omega,HON,Lib.hid ⟨HBN.out.os,HBN.out.tape,HBN.out.output,HBN.out.size,HBN.out.block⟩,HD2⟩
           case measure=>simp [intOf]
          ·have hd:decide (a<ya)=false:=decide_eq_false hyx
           have HS3:=Lib.hid (insAt_sorted (x:=(a,ob,b)) (i:=i+1) HSr.out (by rw [HM.out]; omega) HDi.out (take_le HSr.out HY.out (by omega)))
           have HLI:=Lib.hid (show (insAt ys (a,ob,b) (i+1)).length=m+1 from by rw [insAt_len _ _ (by rw [HM.out]; omega),HM.out])
           go_upto_region 10 with fail
           go_quiet (fail)
           go_wp2_with fail
           go_roundw
           case rel=>exact⟨j+1,insAt ys (a,ob,b) (i+1),by go_num,by omega,by rw [HLI.out]; exact Lib.hid (own_below HOi.out (below_drewN (Below.refl _ _) _)),Lib.hid (below_drewN HBi.out _),Lib.hid (HNP.out (i+1)),HS3⟩
           case measure=>simp [intOf]; omega
    ·obtain rfl:j=t.cap:=by omega
     have hpf:=HPr.out
     rw [← used_off HOK.out 256 hcap] at hpf
     have HYS:=Lib.hid (live_sorted (h:=h) HOK.out hpf (show ys.Pairwise (fun x y=>x.1≤y.1) from HSr.out))
     have HB5:=Lib.hid (HB1.out.trans (HBr.out.mono HB1.out.size))
     clear hpf
     go_wp2_with fail
     go_ret
     refine⟨u3,rfl,?_,HB5.out⟩
     rw [HV.out,← HYS.out]
     exact own_base HOr.out HB1.out.size
end
end
section
open Go.RowKit Go.BigFrame
attribute [local go_sem] Oper.semAt_some
section
variable {W w w0 w':World} {q:HP} {k kt kb:Nat} {h:HM} {t:TM}
theorem DT.grew (D:DT W w q k kt kb h t) {b:Option Nat} (hg:w.grownBy w' b) (hb:∀ x,b=some x→W.heap.size≤x∧¬ q.has x∧x≠kt∧x≠kb):DT W w' q k kt kb h t:=
 D.same (fun j hj=>hg.block j (D.lt j hj) (fun e=>by
  obtain⟨-,h2,h3,h4⟩:=hb j e.symm
  rcases hj with hj | hj | hj
  ·exact h2 hj
  ·exact h3 hj
  ·exact h4 hj)) ⟨hg.os.trans D.low.os,hg.tape.trans D.low.tape,hg.output.trans D.low.output,Nat.le_trans D.low.size hg.size,fun j hj=>(hg.block j (Nat.lt_of_lt_of_le hj D.low.size) (fun e=>by have:=(hb j e.symm).1; omega)).trans (D.low.block j hj)⟩
theorem DKeep.grew (a:DKeep q kt kb w0 w) {b:Option Nat} (hg:w.grownBy w' b) (hb:∀ x,b=some x→w0.heap.size≤x):DKeep q kt kb w0 w':=
 ⟨hg.os.trans a.os,hg.tape.trans a.tape,hg.output.trans a.output,Nat.le_trans a.size hg.size,fun j hj h1 h2 h3=>(hg.block j (Nat.lt_of_lt_of_le hj a.size) (fun e=>by have:=hb j e.symm; omega)).trans (a.block j hj h1 h2 h3)⟩
end
def DTickP (W:World) (q:HP) (k kt kb:Nat) (h:HM) (t:TM) (n:Int) (w:World) (e:Ending) (w':World):Prop:=
 ∃ v,e = .returned (.tuple #[v,.int .i64 (tikE h t n:Nat)])∧w'.ownsRow w.heap.size 47 1 v (tikL h t n).length (u64s (tikL h t n))∧DT W w' q k kt kb (tikH h t n) (tikT h t n)∧DKeep q kt kb w w'
theorem cell_grown {w w':World} {b:Option Nat} {g i:Nat} {v:Value} (h:w.cell? ⟨g,i,none⟩=some v) (hg:w.grownBy w' b) (hne:some g≠b):w'.cell? ⟨g,i,none⟩=some v:=by
 rw [World.cell?_of_block (a:=⟨g,i,none⟩) (hg.block g (World.block_lt_of_cell? _ _ h) hne)]
 exact h
theorem liv_at {h:HM} {t:TM} {i x:Nat} (hx:t.liveK[i]? = some x):(t.liveK.map (hd3 h t))[i]? = some ((t.at x).1,h.objK x,(t.at x).2):=by
 rw [List.getElem?_map,hx]
 rfl
section
variable {W w:World} {q:HP} {k kt kb:Nat} {h:HM} {t:TM} (D:DT W w q k kt kb h t)
include D
set_option maxRecDepth 100000 in
set_option maxHeartbeats 8000000 in
theorem dtick_any (n:Int) (hn1: -9223372036854775808≤n) (hn2:n≤9223372036854775807):Calls Tryz.prog 120 #[.pointer (some ⟨kt,0,none⟩),.int .i64 n] w (DTickP W q k kt kb h t n w):=by
 have HBR:=Lib.hid (dbroken_any D)
 have HD:=Lib.hid D
 have hnw:=D.ok.nw
 have HTE:=Lib.hid (show tikE h t n=if brkB h t then 164 else if n<0∨(1099511627776-t.now:Int)<n then 1 else 0 from rfl)
 have HBAD:=Lib.hid (show ∀ e,e≠0→tikE h t n=e→tikH h t n=h∧tikT h t n=t∧tikL h t n=[] from fun e h1 h2=>⟨by unfold tikH; rw [if_neg (by omega)],by unfold tikT; rw [if_neg (by omega)],by unfold tikL; rw [if_neg (by omega)]⟩)
 clear D
 cases hbr:brkB h t with
 | true=>
   have HV:=Lib.hid (show tikE h t n=164 by rw [HTE.out,hbr,if_pos rfl])
   rw [hbr] at HBR
   go_enter Tryz.func120,Tryz.ntmps120
   go_wp2_with fail
   refine HBR.out.mono ?_
   rintro e w1 ⟨rfl,hb1⟩
   have HB1:=Lib.hid hb1
   clear hb1
   go_wp2_with fail
   go_ret2
   have B:=HBAD.out _ (by decide) HV.out
   exact⟨_,by rw [HV.out]; rfl,by rw [B.2.2]; exact own_none,by rw [B.1,B.2.1]; exact HD.out.after HB1.out,.of_below HB1.out⟩
 | false=>
   have HTE2:=Lib.hid (HTE.out.trans (by rw [hbr,if_neg (by decide)]))
   have HLV:=Lib.hid (show ∀ m,livL h (t.pass m)=(t.pass m).liveK.map (hd3 h (t.pass m)) from fun m=>by unfold livL; rw [pass_brk,hbr,if_neg (by decide)])
   rw [hbr] at HBR
   clear HTE hbr
   by_cases hr:n<0∨(1099511627776-t.now:Int)<n
   ·have HV:=Lib.hid (show tikE h t n=1 by rw [HTE2.out,if_pos hr])
    clear HTE2 HLV
    by_cases h0:n<0
    ·clear hr
     go_enter Tryz.func120,Tryz.ntmps120
     go_wp2_with fail
     refine HBR.out.mono ?_
     rintro e w1 ⟨rfl,hb1⟩
     have HB1:=Lib.hid hb1
     clear hb1
     go_wp2_with fail
     go_ret2
     have B:=HBAD.out _ (by decide) HV.out
     exact⟨_,by rw [HV.out]; rfl,by rw [B.2.2]; exact own_none,by rw [B.1,B.2.1]; exact HD.out.after HB1.out,.of_below HB1.out⟩
    ·by_cases h1:1099511627776<n
     ·clear hr
      go_enter Tryz.func120,Tryz.ntmps120
      go_wp2_with fail
      refine HBR.out.mono ?_
      rintro e w1 ⟨rfl,hb1⟩
      have HB1:=Lib.hid hb1
      clear hb1
      go_wp2_with fail
      go_ret2
      have B:=HBAD.out _ (by decide) HV.out
      exact⟨_,by rw [HV.out]; rfl,by rw [B.2.2]; exact own_none,by rw [B.1,B.2.1]; exact HD.out.after HB1.out,.of_below HB1.out⟩
     ·have a1:IntKind.i64.wrap ((t.now:Int)+n)=(t.now:Int)+n:=IntWalk.i64_in _ (by omega)
      have h2:1099511627776<(t.now:Int)+n:=by omega
      clear hr
      go_enter Tryz.func120,Tryz.ntmps120
      go_wp2_with fail
      refine HBR.out.mono ?_
      rintro e w1 ⟨rfl,hb1⟩
      have HB1:=Lib.hid hb1
      have c2:=(HD.out.after hb1).c2
      clear hb1
      go_wp2_with fail
      go_ret2
      have B:=HBAD.out _ (by decide) HV.out
      exact⟨_,by rw [HV.out]; rfl,by rw [B.2.2]; exact own_none,by rw [B.1,B.2.1]; exact HD.out.after HB1.out,.of_below HB1.out⟩
   ·have he:tikE h t n=0:=by rw [HTE2.out,if_neg hr]
    obtain⟨m,rfl⟩:=Int.eq_ofNat_of_zero_le (show 0≤n by omega)
    have hm:t.now+m≤1099511627776:=by omega
    have HV:=Lib.hid (show tikT h t m=(t.pass m).clears ((t.pass m).goneK 256)∧tikH h t m=h.clrs ((t.pass m).goneK 256)∧tikL h t m=sortN ((t.pass m).ids ((t.pass m).goneK 256))∧tikE h t m=0 from
     ⟨by unfold tikT; rw [if_pos he]; rfl,by unfold tikH; rw [if_pos he]; rfl,by unfold tikL; rw [if_pos he]; rfl,he⟩)
    have a1:IntKind.i64.wrap ((t.now:Int)+(m:Int))=(t.now:Int)+(m:Int):=IntWalk.i64_in _ (by omega)
    have h1:¬ 1099511627776<(m:Int):=by omega
    have h3:¬ 1099511627776<(t.now:Int)+(m:Int):=by omega
    have HLM:=Lib.hid (HLV.out m)
    clear he hr HTE2 HBAD HLV
    go_enter Tryz.func120,Tryz.ntmps120
    go_wp2_with fail
    refine HBR.out.mono ?_
    rintro e w1 ⟨rfl,hb1⟩
    have D1:=HD.out.after hb1
    have c2:=D1.c2
    have fz:=D1.tab.fz
    have D2:=D1.setNow (t.now+m) (D1.ok.pass hm)
    have HK2:=Lib.hid (show DKeep q kt kb w (w1.setCell ⟨kt,2,none⟩ (.int .i64 ((t.now+m:Nat):Int))) from (DKeep.of_below hb1).tab _ _)
    rw [Int.natCast_add] at D2 HK2
    have D2:DT W (w1.setCell ⟨kt,2,none⟩ (.int .i64 ((t.now:Int)+(m:Int)))) q k kt kb h (t.pass m):=D2
    have HD2:=Lib.hid D2
    clear D1 D2 hb1 HBR HD
    go_wp2_with fail
    generalize w1.setCell ⟨kt,2,none⟩ (.int .i64 ((t.now:Int)+(m:Int)))=w2 at *
    have HLI:=dlive_any HD2.out
    rw [HLM.out] at HLI
    have HLI:=Lib.hid HLI
    clear c2 fz HLM
    generalize t.pass m=t2 at *
    refine HLI.out.mono ?_
    rintro e w3 ⟨vl,rfl,hown3,hb3⟩
    rw [List.length_map] at hown3
    obtain⟨Al,cl,rfl⟩:=own_val hown3
    have HO3:=Lib.hid hown3
    have HD3:=Lib.hid (HD2.out.after hb3)
    have HK3:=Lib.hid (HK2.out.after hb3)
    have HLL:=Lib.hid (show t2.liveK.length≤256 from by rw [(liveK_perm t2).length_eq]; exact t2.usedK_len 256)
    have HPL:=Lib.hid (show ∀ b,w3.heap.size≤b→W.heap.size≤b∧¬ q.has b∧b≠kt∧b≠kb from fun b hb=>⟨Nat.le_trans HD3.out.low.size hb,fun hh=>by have:=HD3.out.lt b (.inl hh); omega,fun e=>by have:=HD3.out.lt b (.inr (.inl e)); omega,fun e=>by have:=HD3.out.lt b (.inr (.inr e)); omega⟩)
    have HPM:=Lib.hid (show ∀ b,(Value.slice Al t2.liveK.length cl).ownBlock=some b→b<w3.heap.size∧¬ q.has b∧b≠kt∧b≠kb from fun b hb=>⟨(hown3.lt b hb).2,fun hh=>by have:=HD2.out.lt b (.inl hh); have:=(hown3.lt b hb).1; omega,fun e=>by have:=HD2.out.lt b (.inr (.inl e)); have:=(hown3.lt b hb).1; omega,fun e=>by have:=HD2.out.lt b (.inr (.inr e)); have:=(hown3.lt b hb).1; omega⟩)
    have HWS:=Lib.hid HK3.out.size
    have HOK:=Lib.hid HD2.out.ok
    clear hown3 hb3 HLI HD2 HK2
    go_wp2_with fail
    obtain⟨i0,hi0,hz0,hz1,hz2⟩:=info_parts info_u64
    go_loopw [7,8] (fun gv iv wr=>∃ i:Nat,iv = .int .i64 (i:Int)∧i≤t2.liveK.length∧Hid (wr.ownsRow w3.heap.size 47 1 gv (clL t2 i).length (u64s (t2.ids (clL t2 i))))∧Hid (DT W wr q k kt kb (h.clrs (clL t2 i)) (t2.clears (clL t2 i)))∧Hid (DKeep q kt kb w wr)∧Hid (wr.ownsRow w2.heap.size 99 3 (.slice Al t2.liveK.length cl) t2.liveK.length (hdsC (t2.liveK.map (hd3 h t2))))∧Hid (w3.heap.size≤wr.heap.size)) (fun _ iv _=>t2.liveK.length-(intOf iv).toNat)
    case atStart=>exact⟨0,rfl,Nat.zero_le _,Lib.hid own_none,HD3,HK3,HO3,Lib.hid (Nat.le_refl _)⟩
    case round=>
     clear HD3 HK3 HO3
     obtain⟨i,rfl,hi,HOr,HDr,HKr,HLr,HZr⟩:=hrel
     have hll:t2.liveK.length≤256:=HLL.out
     by_cases hlt:i<t2.liveK.length
     ·obtain⟨x,hx⟩ :∃ x,t2.liveK[i]? = some x:=⟨_,List.getElem?_eq_getElem hlt⟩
      have hxm:=mem_liveK.1 (List.mem_of_getElem? hx)
      obtain⟨gl,cl2,hv,hgb,-⟩:=HLr.out.form (by omega)
      injection hv with hv1 hv2 hv3
      subst hv1 hv3
      have gx:=hdsC_get (liv_at (h:=h) hx)
      dsimp only at gx
      have y0:=(HLr.out.cellAt (i*3) (by omega)).trans gx.1
      have y2:=(HLr.out.cellAt (i*3+2) (by omega)).trans gx.2.2
      have c2:wr.cell? ⟨kt,2,none⟩=some (.int .i64 (t2.now:Int)):=by rw [HDr.out.c2,TM.clears_same' t2]
      have HSU:=Lib.hid (clL_succ hx)
      have HGN:=Lib.hid (show t2.goneB x=decide ((t2.at x).2≤t2.now) from by unfold TM.goneB; rw [(usedB_iff _).2 hxm.2,Bool.true_and])
      have HCF:=Lib.hid (clL_find HOK.out hx)
      have HXC:=Lib.hid (show x<t2.cap from used_lt HOK.out ((usedB_iff _).2 hxm.2))
      have HCL:=Lib.hid (show (clL t2 i).length≤256 from by
       unfold clL
       refine Nat.le_trans (List.length_filter_le _ _) ?_
       rw [List.length_take]
       have:=HLL.out
       omega)
      have HID:=Lib.hid (HOK.out.id64 x)
      have HIX:=Lib.hid (show t2.ids [x]=[(t2.at x).1] from rfl)
      clear hx hxm gx
      generalize (t2.at x).1=a at *
      generalize (t2.at x).2=b at *
      by_cases hex:b≤t2.now
      ·have HS2:=Lib.hid (show clL t2 (i+1)=clL t2 i++[x] by rw [HSU.out,HGN.out,decide_eq_true hex]; rfl)
       have HS3:=Lib.hid (show h.clrs (clL t2 (i+1))=(h.clrs (clL t2 i)).clrK x∧t2.clears (clL t2 (i+1))=(t2.clears (clL t2 i)).clear x∧(clL t2 (i+1)).length=(clL t2 i).length+1∧u64s (t2.ids (clL t2 (i+1)))=u64s (t2.ids (clL t2 i))++[.int .u64 (a:Int)] by
        rw [HS2.out]; exact⟨clrs_snoc _ _ _,TM.clears_snoc _ _ _,by simp,by rw [show t2.ids (clL t2 i++[x])=t2.ids (clL t2 i)++t2.ids [x] from List.map_append,HIX.out,u64s_snoc]⟩)
       have hd:decide (b≤t2.now)=true:=decide_eq_true hex
       clear HS2 HSU HGN
       go_upto_region 11 with fail
       go_quiet (fail)
       have HBX2:=Lib.hid (below_drewN (Below.refl wr.heap.size wr) nq)
       have HOQ:=Lib.hid (own_below HOr.out HBX2.out)
       have HDQ:=Lib.hid (HDr.out.after HBX2.out)
       have HKQ:=Lib.hid (HKr.out.after HBX2.out)
       have HLQ:=Lib.hid (own_below HLr.out HBX2.out)
       have HZQ:=Lib.hid (Nat.le_trans HZr.out HBX2.out.size)
       have y0:(wr.drewN nq).cell? ⟨gl,i*3,none⟩=some (.int .u64 (a:Int)):=y0
       clear y2 c2
       generalize wr.drewN nq=wq at *
       have hZ:=HZQ.out
       have hcl:=HCL.out
       have hal:=(Below.refl wq.heap.size wq).alloc (Nat.le_refl _) (.cells #[.int .u64 (a:Int)] 47)
       have HYA:=Lib.hid ((hal.cell (p:=⟨gl,i*3,none⟩) (World.block_lt_of_cell? _ _ y0)).trans y0)
       have HNG:=Lib.hid (show some gl≠u7.ownBlock from fun e=>by have h5:=(HOQ.out.lt gl e.symm).1; have h6:=(HPM.out gl rfl).1; omega)
       have HAL:=Lib.hid hal
       clear hal
       go_wp2_with (at_builtin; refine wpList_append_any _ rfl (.tmp 52) (.tmp 58) _ rfl w3.heap.size 47 i0 _ 1 8 Tryz.underlying58 hi0 hz0 hz1 hz2 rfl (by omega) u7 (clL t2 i).length _ rfl (own_keep HOQ.out (fun z hz=>Below.heap_alloc wq (.cells #[.int .u64 (a:Int)] 47) z (HOQ.out.lt z hz).2)) (wq.heap.size+1) (some ⟨wq.heap.size,0,none⟩) 1 1 [.int .u64 (a:Int)] rfl (hreads_one wq _ _) (fun u hu=>by simp at hu; subst hu; rfl) (by simp only [maxLen]; omega) (by omega) (by simp; omega) ?_; intro v4 w4 hown4 hgrow4 hat4; have HO4:=Lib.hid hown4; have HG4:=Lib.hid hgrow4; have y4:=cell_grown HYA.out hgrow4 HNG.out; clear hown4 hgrow4 hat4)
       have hal:=HAL.out
       have HL4:=Lib.hid (own_keep (own_below HLQ.out hal) (fun z hz=>HG4.out.block z (own_below HLQ.out hal |>.lt z hz).2 (fun e=>by have h5:=(HOQ.out.lt z e.symm).1; have h6:=(HPM.out z hz).1; omega)))
       have HD4:=Lib.hid ((HDQ.out.after hal).grew HG4.out (fun z hz=>HPL.out z (HOQ.out.lt z hz).1))
       have HK4:=Lib.hid ((HKQ.out.after hal).grew HG4.out (fun z hz=>Nat.le_trans HWS.out (HOQ.out.lt z hz).1))
       have HZ4:=Lib.hid (Nat.le_trans HZQ.out (Nat.le_trans hal.size HG4.out.size))
       have HFI:=dfind_any HD4.out a HID.out
       rw [HCF.out.1] at HFI
       have HFI:=Lib.hid HFI
       clear hal hZ hcl
       refine HFI.out.mono ?_
       rintro e w5 ⟨rfl,hb5⟩
       have HO5:=Lib.hid (own_below HO4.out hb5)
       have HL5:=Lib.hid (own_below HL4.out hb5)
       have HD5:=Lib.hid (HD4.out.after hb5)
       have HK5:=Lib.hid (HK4.out.after hb5)
       have HZ5:=Lib.hid (Nat.le_trans HZ4.out hb5.size)
       have HFR:=Lib.hid (dfree_any HD5.out x (by rw [(TM.clears_same _ t2).1]; exact HXC.out))
       clear hb5 HFI
       go_wp2_with fail
       refine HFR.out.mono ?_
       rintro e w6 ⟨rfl,D6,K6⟩
       have HO6:=Lib.hid (own_keep HO5.out (fun z hz=>K6.block z (HO5.out.lt z hz).2 (HPL.out z (HO5.out.lt z hz).1).2.1 (HPL.out z (HO5.out.lt z hz).1).2.2.1 (HPL.out z (HO5.out.lt z hz).1).2.2.2))
       have HL6:=Lib.hid (own_keep HL5.out (fun z hz=>K6.block z (HL5.out.lt z hz).2 (HPM.out z hz).2.1 (HPM.out z hz).2.2.1 (HPM.out z hz).2.2.2))
       have HD6:=Lib.hid D6
       have HK6:=Lib.hid (HK5.out.trans K6)
       have HZ6:=Lib.hid (Nat.le_trans HZ5.out K6.size)
       clear D6 K6
       go_wp2_with fail
       go_roundw
       case rel=>exact⟨i+1,by go_num,by omega,by rw [HS3.out.2.2.1,HS3.out.2.2.2]; exact HO6,by rw [HS3.out.1,HS3.out.2.1]; exact HD6,HK6,HL6,HZ6⟩
       case measure=>simp [intOf]; omega
      ·have HS2:=Lib.hid (show clL t2 (i+1)=clL t2 i by rw [HSU.out,HGN.out,decide_eq_false hex]; rfl)
       have hd:decide (b≤t2.now)=false:=decide_eq_false hex
       clear HSU HGN
       go_upto_region 11 with fail
       go_quiet (fail)
       go_wp2_with fail
       go_roundw
       case rel=>exact⟨i+1,by go_num,by omega,by rw [HS2.out]; exact Lib.hid (own_below HOr.out (below_drewN (Below.refl _ _) _)),by rw [HS2.out]; exact Lib.hid (HDr.out.after (below_drewN (Below.refl _ _) _)),Lib.hid (HKr.out.after (below_drewN (Below.refl _ _) _)),Lib.hid (own_below HLr.out (below_drewN (Below.refl _ _) _)),Lib.hid (Nat.le_trans HZr.out (below_drewN (Below.refl wr.heap.size wr) nq).size)⟩
       case measure=>simp [intOf]; omega
     ·obtain rfl:i=t2.liveK.length:=by omega
      have HCE:=Lib.hid (clL_end t2 h)
      have hlq:(clL t2 t2.liveK.length).length=(sortN (t2.ids (t2.goneK 256))).length:=by
       rw [← HCE.out.2.2]
       exact (List.length_map _).symm
      have HLQ:=Lib.hid hlq
      clear hlq
      go_wp2_with fail
      go_ret2
      refine⟨u7,by rw [HV.out.2.2.2]; rfl,?_,by rw [HV.out.1,HV.out.2.1,← HCE.out.1,← HCE.out.2.1]; exact HDr.out,HKr.out⟩
      rw [HV.out.2.2.1,← HLQ.out,← HCE.out.2.2]
      exact own_base HOr.out HWS.out
end
end
section
open Go.RowKit
attribute [local go_sem] Oper.semAt_some
set_option maxHeartbeats 1000000 in
theorem sameIDs_any (A A':Option Addr) (n n' c c':Nat) (xs ys:List Nat) (w:World) (hn:n≤9223372036854775807) (hn':n'≤9223372036854775807) (hr:Reads w w.heap.size 1 A n (u64s xs)) (hr':Reads w w.heap.size 1 A' n' (u64s ys)):
 Calls Tryz.prog 121 #[.slice A n c,.slice A' n' c'] w (Told (.bool (sameL xs ys)) w):=by
 have hl:xs.length=n:=by have:=hr.1; rw [u64s_len] at this; omega
 have hl':ys.length=n':=by have:=hr'.1; rw [u64s_len] at this; omega
 have HL:=Lib.hid hl; have HL':=Lib.hid hl'
 clear hl hl'
 have HR:=Lib.hid hr; have HR':=Lib.hid hr'
 clear hr hr'
 by_cases hnn:n=n'
 ·subst hnn
  go_enter Tryz.func121,Tryz.ntmps121
  go_wp2_with fail
  go_loopw [5] (fun i wr=>∃ k:Nat,k≤n∧i = .int .i64 k∧xs.take k=ys.take k∧Below w.heap.size w wr) (fun i _=>n-(intOf i).toNat)
  case atStart=>exact⟨0,by omega,rfl,rfl,Below.refl _ _⟩
  case round=>
   obtain⟨k,hk,rfl,ht,hb⟩:=hrel
   have HT:=Lib.hid ht; clear ht
   by_cases hlt:k<n
   ·have hx:k<xs.length:=by rw [HL.out]; exact hlt
    have hy:k<ys.length:=by rw [HL'.out]; exact hlt
    obtain⟨ad,u,rfl,hbl,hu,hc⟩:=(HR.out.below hb).at_ hlt
    obtain⟨ad',u',rfl,hbl',hu',hc'⟩:=(HR'.out.below hb).at_ hlt
    rw [u64s_get hx] at hu
    rw [u64s_get hy] at hu'
    injection hu with hu
    injection hu' with hu'
    subst hu hu'
    have HX:=Lib.hid hx; have HY:=Lib.hid hy
    clear hx hy
    by_cases he:xs.getD k 0=ys.getD k 0
    ·have HE:=Lib.hid (take_eq_succ HX.out HY.out he HT.out)
     have hv:((xs.getD k 0:Int) != (ys.getD k 0:Int))=false:=by rw [he]; simp
     clear he
     generalize xs.getD k 0=x at *
     generalize ys.getD k 0=y at *
     go_wp2_with fail
     go_region
     all_goals go_wp2_with fail
     all_goals go_roundw
     case rel=>exact⟨k+1,by omega,by go_num,HE.out,below_drew hb⟩
     case measure=>simp [intOf]; omega
    ·have HE:=Lib.hid (sameL_at HX.out HY.out he)
     have hv:((xs.getD k 0:Int) != (ys.getD k 0:Int))=true:=by rw [bne_iff_ne]; omega
     clear he
     generalize xs.getD k 0=x at *
     generalize ys.getD k 0=y at *
     go_wp2_with fail
     go_region
     all_goals go_wp2_with fail
     all_goals go_ret
     all_goals exact⟨by rw [HE.out]; rfl,below_drew hb⟩
   ·obtain rfl:k=n:=by omega
    have HA:=Lib.hid (sameL_all HL.out HL'.out HT.out)
    go_wp2_with fail
    go_ret
    exact⟨by rw [HA.out]; rfl,hb⟩
 ·have HF:=Lib.hid (sameL_len (xs:=xs) (ys:=ys) (by rw [HL.out,HL'.out]; exact hnn))
  have hv:((n:Int) != (n':Int))=true:=by simp; omega
  clear hnn
  go_enter Tryz.func121,Tryz.ntmps121
  go_wp2_with fail
  go_ret
  exact⟨by rw [HF.out]; rfl,Below.refl _ _⟩
end
section
open Go.RowKit
attribute [local go_sem] Oper.semAt_some
section
variable {w:World} {v:Value}
end
end
end Go.Proofs.YtlkahgagmfhdaaaGreatDoor
