import Derived.Test.YtlkahgagmfhdaaaGreatDoorQLive
import Derived.Test.YtlkahgagmfhdaaaGreatDoorQMem
import Derived.Test.YtlkahgagmfhdaaaGreatDoorQOop
import Derived.Test.YtlkahgagmfhdaaaGreatDoorQLook
import Derived.Test.YtlkahgagmfhdaaaGreatDoorQAlloc
import Derived.Test.YtlkahgagmfhdaaaGreatDoorQMapOk
import Derived.Test.YtlkahgagmfhdaaaGreatDoorQText
import Derived.RegionTactic
import Derived.Deep.RegionHeld3
import Derived.Laws.BitsAllLaws
import Derived.Laws.Bits128
set_option linter.unusedVariables false
set_option linter.unusedSimpArgs false
set_option linter.unusedSectionVars false
namespace Go.Proofs.YtlkahgagmfhdaaaGreatDoor
section
open Go.RowKit
attribute [local go_sem] Oper.semAt_some
theorem fnd_ok {h:HM} {t:TM} (O:t.Ok) {id:Nat} (he:fndE h t id=0):fndK h t id=t.find id∧t.find id<256∧t.at (t.find id)≠(0,0)∧(t.at (t.find id)).1=id:=by
 have h1:fndK h t id=t.find id:=by unfold fndK; rw [if_pos he]
 unfold fndE at he
 split at he
 ·cases he
 ·split at he
  ·cases he
  ·rename_i hz
   have hlt:t.find id<256:=Classical.byContradiction fun e=>hz (.inr e)
   have hf:=TM.find_lt O (fun e=>hz (.inl e)) hlt
   exact⟨h1,hlt,hf.2,hf.1⟩
theorem TM.Ok.bump {t:TM} (O:t.Ok) (h0:t.next≠0):({ t with next:=if t.next=18446744073709551615 then 0 else t.next+1 }:TM).Ok:=by
 have hn:=O.n64
 refine⟨O.len,O.lo,O.hi,O.off,O.used,O.id64,O.exp,?_,O.nw,O.uniq,fun h1 k=>?_⟩
 ·show (if t.next=18446744073709551615 then 0 else t.next+1)<_
  split <;> omega
 ·have h2:=O.rise h0 k
  have h1:(if t.next=18446744073709551615 then 0 else t.next+1)≠0:=h1
  show (t.at k).1<(if t.next=18446744073709551615 then 0 else t.next+1)
  split at h1
  ·exact absurd rfl h1
  ·rename_i hh
   rw [if_neg hh]
   omega
section
variable {W w:World} {p:HP} {g gt:Nat} {h:HM} {t:TM} (T:HT W w p g gt h t)
include T
theorem tfind_any (id:Nat) (h0:id<18446744073709551616):Calls Tryz.prog 95 #[.pointer (some ⟨gt,0,none⟩),.int .u64 (id:Int)] w (Told (.tuple #[.int .i64 (fndK h t id:Nat),.int .i64 (fndE h t id:Nat)]) w):=by
 have HBR:=tbroken_any T
 have HT0:=Lib.hid T
 clear T
 by_cases hb:brkB h t=true
 ·have HF:=Lib.hid (show fndE h t id=164∧fndK h t id=0 by
   have h1:fndE h t id=164:=by unfold fndE; rw [if_pos hb]
   exact⟨h1,by unfold fndK; rw [h1,if_neg (by decide)]⟩)
  rw [hb] at HBR
  have HBR:=Lib.hid HBR
  go_enter Tryz.func95,Tryz.ntmps95
  go_wp2_with fail
  refine HBR.out.mono ?_
  rintro e w1 ⟨rfl,hb1⟩
  have HB1:=Lib.hid hb1
  clear hb1
  go_wp2_with fail
  go_ret2
  exact⟨by rw [HF.out.1,HF.out.2]; rfl,HB1.out⟩
 ·have hb':brkB h t=false:=by simpa using hb
  rw [hb'] at HBR
  have HBR:=Lib.hid HBR
  have HPL:=Lib.hid (fun w1 (hb1:Below w.heap.size w w1)=>tplace_any (HT0.out.after hb1) id h0)
  have HE:=Lib.hid (show fndE h t id=if id=0∨¬ t.find id<256 then 160 else 0 by unfold fndE; rw [if_neg hb])
  clear hb hb'
  by_cases hz:id=0∨¬ t.find id<256
  ·have HF:=Lib.hid (show fndE h t id=160∧fndK h t id=0 by
    have h1:fndE h t id=160:=by rw [HE.out,if_pos hz]
    exact⟨h1,by unfold fndK; rw [h1,if_neg (by decide)]⟩)
   have HV:=Lib.hid (show (if id=0 then -1 else t.findI id) = -1 by
    by_cases h1:id=0
    ·rw [if_pos h1]
    ·rw [if_neg h1]; unfold TM.findI; rw [if_neg (hz.resolve_left h1)])
   rw [HV.out] at HPL
   clear hz HE
   go_enter Tryz.func95,Tryz.ntmps95
   go_wp2_with fail
   refine HBR.out.mono ?_
   rintro e w1 ⟨rfl,hb1⟩
   have HB1:=Lib.hid hb1
   clear hb1
   go_wp2_with fail
   refine (HPL.out _ HB1.out).mono ?_
   rintro e w2 ⟨rfl,hb2⟩
   have HB2:=Lib.hid (below_top HB1.out hb2)
   clear hb2
   go_wp2_with fail
   go_ret2
   exact⟨by rw [HF.out.1,HF.out.2]; rfl,HB2.out⟩
  ·have HF:=Lib.hid (show fndE h t id=0∧fndK h t id=t.find id by
    have h1:fndE h t id=0:=by rw [HE.out,if_neg hz]
    exact⟨h1,by unfold fndK; rw [h1,if_pos rfl]⟩)
   have HV:=Lib.hid (show (if id=0 then -1 else t.findI id)=(t.find id:Int) by
    rw [if_neg (fun e=>hz (.inl e))]
    unfold TM.findI
    rw [if_pos (Classical.byContradiction fun e=>hz (.inr e))])
   rw [HV.out] at HPL
   generalize t.find id=k at *
   clear hz HE HV
   go_enter Tryz.func95,Tryz.ntmps95
   go_wp2_with fail
   refine HBR.out.mono ?_
   rintro e w1 ⟨rfl,hb1⟩
   have HB1:=Lib.hid hb1
   clear hb1
   go_wp2_with fail
   refine (HPL.out _ HB1.out).mono ?_
   rintro e w2 ⟨rfl,hb2⟩
   have HB2:=Lib.hid (below_top HB1.out hb2)
   clear hb2
   go_wp2_with fail
   go_ret2
   exact⟨by rw [HF.out.1,HF.out.2]; rfl,HB2.out⟩
theorem tget_any (id:Nat) (h0:id<18446744073709551616):Calls Tryz.prog 30 #[.pointer (some ⟨gt,0,none⟩),.int .u64 (id:Int)] w (Told (.tuple #[.int .u32 (gotV h t id:Nat),.int .i64 (fndE h t id:Nat)]) w):=by
 have HFD:=Lib.hid (tfind_any T id h0)
 have HT0:=Lib.hid T
 clear T
 by_cases he:fndE h t id=0
 ·obtain⟨h1,h2,h3,h4⟩:=fnd_ok HT0.out.ok he
  have HG:=Lib.hid (show gotV h t id=h.objK (t.find id) by unfold gotV; rw [if_pos he])
  have HO:=Lib.hid (fun w1 (hb1:Below w.heap.size w w1)=>hobj_any (HT0.out.after hb1) (t.find id) (by omega))
  rw [he,h1] at HFD
  clear h1 h3 h4
  rw [he]
  generalize t.find id=k at *
  simp only [Int.natCast_zero] at HFD ⊢
  go_enter Tryz.func30,Tryz.ntmps30
  go_wp2_with fail
  refine HFD.out.mono ?_
  rintro e w1 ⟨rfl,hb1⟩
  have HB1:=Lib.hid hb1
  clear hb1
  go_wp2_with fail
  refine (HO.out _ HB1.out).mono ?_
  rintro e w2 ⟨rfl,hb2⟩
  have HB2:=Lib.hid (below_top HB1.out hb2)
  clear hb2
  go_wp2_with fail
  go_ret2
  exact⟨by rw [HG.out]; rfl,HB2.out⟩
 ·have HG:=Lib.hid (show gotV h t id=0 by unfold gotV; rw [if_neg he])
  have hne:((fndE h t id:Int) != 0)=true:=by simp; omega
  generalize fndE h t id=E at *
  go_enter Tryz.func30,Tryz.ntmps30
  go_wp2_with fail
  refine HFD.out.mono ?_
  rintro e w1 ⟨rfl,hb1⟩
  have HB1:=Lib.hid hb1
  clear hb1
  go_wp2_with fail
  go_ret2
  exact⟨by rw [HG.out]; rfl,HB1.out⟩
set_option maxHeartbeats 1000000 in
theorem trenew_any (id:Nat) (h0:id<18446744073709551616) (n:Int):Calls Tryz.prog 29 #[.pointer (some ⟨gt,0,none⟩),.int .u64 (id:Int),.int .i64 n] w (HDone W p g gt h (rnwT h t id n) (.int .i64 (rnwE h t id n:Nat)) w):=by
 have HFD:=Lib.hid (tfind_any T id h0)
 have HT0:=Lib.hid T
 have HLE:=Lib.hid (fun w1=>hlease_any n w1)
 clear T
 by_cases he:fndE h t id=0
 ·obtain⟨h1,h2,h3,h4⟩:=fnd_ok HT0.out.ok he
  rw [he,h1] at HFD
  by_cases hl:leaseB n=true
  ·have HV:=Lib.hid (show rnwE h t id n=0∧rnwT h t id n=t.renew (t.find id) n.toNat by
    have e1:rnwE h t id n=0:=by unfold rnwE; rw [if_pos he,if_pos hl]
    exact⟨e1,by unfold rnwT; rw [e1,if_pos rfl]⟩)
   rw [hl] at HLE
   have hn:1≤n∧n≤1000000:=by unfold leaseB at hl; simpa using hl
   obtain⟨m,rfl⟩:=Int.eq_ofNat_of_zero_le (show 0≤n by omega)
   have hm1:1≤m:=by omega
   have hm2:m≤1000000:=by omega
   have O2:=HT0.out.ok.renew h3 hm1 hm2
   have hnw:=HT0.out.ok.nw
   generalize t.find id=k at *
   have HST:=Lib.hid (show ∀ w1,Below w.heap.size w w1→HT W (w1.setCell ⟨gt,1+k*2+1,none⟩ (.int .i64 ((t.now:Int)+(m:Int)))) p g gt h (t.renew k m)∧HKeep p gt w (w1.setCell ⟨gt,1+k*2+1,none⟩ (.int .i64 ((t.now:Int)+(m:Int)))) from fun w1 hb1=>by
    have T2:=(HT0.out.after hb1).expiry h2 (t.now+m) O2
    rw [Int.natCast_add] at T2
    exact⟨T2,(HKeep.of_below hb1).setCell _ _⟩)
   have a1:IntKind.i64.wrap ((t.now:Int)+(m:Int))=(t.now:Int)+(m:Int):=IntWalk.i64_in _ (by omega)
   clear h1 h3 h4 he hl O2 hnw hn hm1 hm2
   simp only [Int.natCast_zero] at HFD
   have hk3:(k:Int)<256:=by omega
   go_enter Tryz.func29,Tryz.ntmps29
   go_wp2_with fail
   refine HFD.out.mono ?_
   rintro e w1 ⟨rfl,hb1⟩
   have T1:=HT0.out.after hb1
   have c5:=T1.cNow
   have x1:=T1.cExp h2
   have fz:=T1.tab.fz
   have HS1:=Lib.hid (HST.out _ hb1)
   clear T1 hb1
   go_wp2_with fail
   refine (HLE.out _).mono ?_
   rintro e w2 ⟨rfl,rfl⟩
   go_wp2_with fail
   go_region
   all_goals go_wp2_with fail
   all_goals go_ret
   all_goals exact⟨by rw [HV.out.1]; rfl,by rw [HV.out.2]; exact HS1.out.1.drew,HS1.out.2.drew⟩
  ·have hl':leaseB n=false:=by simpa using hl
   have HV:=Lib.hid (show rnwE h t id n=162∧rnwT h t id n=t by
    have e1:rnwE h t id n=162:=by unfold rnwE; rw [if_pos he,if_neg hl]
    exact⟨e1,by unfold rnwT; rw [e1,if_neg (by decide)]⟩)
   rw [hl'] at HLE
   generalize t.find id=k at *
   clear h1 h3 h4 he hl
   simp only [Int.natCast_zero] at HFD
   go_enter Tryz.func29,Tryz.ntmps29
   go_wp2_with fail
   refine HFD.out.mono ?_
   rintro e w1 ⟨rfl,hb1⟩
   have HB1:=Lib.hid hb1
   clear hb1
   go_wp2_with fail
   refine (HLE.out _).mono ?_
   rintro e w2 ⟨rfl,rfl⟩
   go_wp2_with fail
   go_ret
   exact⟨by rw [HV.out.1]; rfl,by rw [HV.out.2]; exact HT0.out.after HB1.out,HKeep.of_below HB1.out⟩
 ·have HV:=Lib.hid (show rnwE h t id n=fndE h t id∧rnwT h t id n=t by
   have e1:rnwE h t id n=fndE h t id:=by unfold rnwE; rw [if_neg he]
   exact⟨e1,by unfold rnwT; rw [e1,if_neg he]⟩)
  have hne:((fndE h t id:Int) != 0)=true:=by simp; omega
  generalize fndE h t id=E at *
  go_enter Tryz.func29,Tryz.ntmps29
  go_wp2_with fail
  refine HFD.out.mono ?_
  rintro e w1 ⟨rfl,hb1⟩
  have HB1:=Lib.hid hb1
  clear hb1
  go_wp2_with fail
  go_ret
  exact⟨by rw [HV.out.1]; rfl,by rw [HV.out.2]; exact HT0.out.after HB1.out,HKeep.of_below HB1.out⟩
theorem trelease_any (id:Nat) (h0:id<18446744073709551616):Calls Tryz.prog 33 #[.pointer (some ⟨gt,0,none⟩),.int .u64 (id:Int)] w (HDone W p g gt (relH h t id) (relT h t id) (.int .i64 (fndE h t id:Nat)) w):=by
 have HFD:=Lib.hid (tfind_any T id h0)
 have HT0:=Lib.hid T
 clear T
 by_cases he:fndE h t id=0
 ·obtain⟨h1,h2,h3,h4⟩:=fnd_ok HT0.out.ok he
  have HV:=Lib.hid (show relH h t id=h.clrK (t.find id)∧relT h t id=t.clear (t.find id) from⟨by unfold relH; rw [if_pos he],by unfold relT; rw [if_pos he]⟩)
  rw [he,h1] at HFD
  rw [he]
  generalize t.find id=k at *
  have HC:=Lib.hid (fun w1 (hb1:Below w.heap.size w w1)=>tclear_any (HT0.out.after hb1) k h2)
  clear h1 h3 h4 he
  simp only [Int.natCast_zero] at HFD ⊢
  go_enter Tryz.func33,Tryz.ntmps33
  go_wp2_with fail
  refine HFD.out.mono ?_
  rintro e w1 ⟨rfl,hb1⟩
  have HB1:=Lib.hid hb1
  clear hb1
  go_wp2_with fail
  refine (HC.out _ HB1.out).mono ?_
  rintro e w2 ⟨rfl,T2,K2⟩
  have HT2:=Lib.hid T2
  have HK2:=Lib.hid ((HKeep.of_below HB1.out).trans K2)
  clear T2 K2
  go_wp2_with fail
  go_ret
  exact⟨rfl,by rw [HV.out.1,HV.out.2]; exact HT2.out,HK2.out⟩
 ·have HV:=Lib.hid (show relH h t id=h∧relT h t id=t from⟨by unfold relH; rw [if_neg he],by unfold relT; rw [if_neg he]⟩)
  have hne:((fndE h t id:Int) == 0)=false:=by simp; omega
  generalize fndE h t id=E at *
  go_enter Tryz.func33,Tryz.ntmps33
  go_wp2_with fail
  refine HFD.out.mono ?_
  rintro e w1 ⟨rfl,hb1⟩
  have HB1:=Lib.hid hb1
  clear hb1
  go_wp2_with fail
  go_ret
  exact⟨rfl,by rw [HV.out.1,HV.out.2]; exact HT0.out.after HB1.out,HKeep.of_below HB1.out⟩
end
end
section
open Go.RowKit
attribute [local go_sem] Oper.semAt_some
theorem issE_bad {h:HM} {t:TM} {o:Nat} {n:Int} {E:Nat} (he:issE h t o n=E) (h0:E≠0):issT h t o n=t∧issH h t o n=h∧issV h t o n=0:=by
 subst he
 exact⟨by unfold issT; rw [if_neg h0],by unfold issH; rw [if_neg h0],by unfold issV; rw [if_neg h0]⟩
section
variable {W w:World} {p:HP} {g gt:Nat} {h:HM} {t:TM} (T:HT W w p g gt h t)
include T
theorem HT.idx1 {w0:World} (hb:Below w0.heap.size w0 w):
 Calls Tryz.prog 87 #[.slice (some ⟨gt,1,none⟩) t.cap 256,.agg #[.int .u64 0,.int .i64 0]] w fun e w2=>e = .returned (.int .i64 t.freeI)∧Hid (HT W w2 p g gt h t)∧Hid (Below w0.heap.size w0 w2)∧w2.cell? ⟨gt,513,none⟩=some (.int .i64 (t.cap:Int)):=
 (tindex_any T).mono fun e w2 hh=>⟨hh.1,Lib.hid (T.after hh.2),Lib.hid (below_top hb hh.2),(T.after hh.2).cCap⟩
set_option maxRecDepth 100000 in
set_option maxHeartbeats 4000000 in
theorem tissue_any (o:Nat) (ho:o<4294967296) (n:Int):Calls Tryz.prog 26 #[.pointer (some ⟨gt,0,none⟩),.int .u32 (o:Nat),.int .i64 n] w (HDone W p g gt (issH h t o n) (issT h t o n) (.tuple #[.int .u64 (issV h t o n:Nat),.int .i64 (issE h t o n:Nat)]) w):=by
 have HBR:=Lib.hid (tbroken_any T)
 have HT0:=Lib.hid T
 have HLE:=Lib.hid (fun w1=>hlease_any n w1)
 have HIS:=Lib.hid (fun w1 (hb1:Below w.heap.size w w1)=>(HT0.out.after hb1).live.is o ho)
 have HIE:=Lib.hid (show issE h t o n=if brkB h t then 164 else if h.isB o=false then 3 else if leaseB n=false then 162 else if ¬ t.free<t.cap then 161 else if t.next=0 then 163 else 0 from rfl)
 have hlo:=T.ok.lo
 have hhi:=T.ok.hi
 clear T
 cases hbr:brkB h t with
 | true=>
   have he:issE h t o n=164:=by rw [HIE.out,hbr,if_pos rfl]
   obtain⟨e1,e2,e3⟩:=issE_bad he (by decide)
   have HV:=Lib.hid (And.intro e1 (And.intro e2 (And.intro e3 he)))
   rw [hbr] at HBR
   clear he e1 e2 e3
   go_enter Tryz.func26,Tryz.ntmps26
   go_wp2_with fail
   refine HBR.out.mono ?_
   rintro e w1 ⟨rfl,hb1⟩
   have HB1:=Lib.hid hb1
   clear hb1
   go_wp2_with fail
   go_ret2
   exact⟨by rw [HV.out.2.2.1,HV.out.2.2.2]; rfl,by rw [HV.out.1,HV.out.2.1]; exact HT0.out.after HB1.out,HKeep.of_below HB1.out⟩
 | false =>
   have HIE2:=Lib.hid (HIE.out.trans (by rw [hbr,if_neg (by decide)]))
   rw [hbr] at HBR
   clear HIE
   cases hib:h.isB o with
   | false=>
     have he:issE h t o n=3:=by rw [HIE2.out,hib,if_pos rfl]
     obtain⟨e1,e2,e3⟩:=issE_bad he (by decide)
     have HV:=Lib.hid (And.intro e1 (And.intro e2 (And.intro e3 he)))
     rw [hib] at HIS
     clear he e1 e2 e3 HIE2
     go_enter Tryz.func26,Tryz.ntmps26
     go_wp2_with fail
     refine HBR.out.mono ?_
     rintro e w1 ⟨rfl,hb1⟩
     have HB1:=Lib.hid hb1
     have c0:=(HT0.out.after hb1).c0
     clear hb1
     go_wp2_with fail
     refine (HIS.out _ HB1.out).mono ?_
     rintro e w2 ⟨rfl,rfl⟩
     go_wp2_with fail
     go_ret2
     exact⟨by rw [HV.out.2.2.1,HV.out.2.2.2]; rfl,by rw [HV.out.1,HV.out.2.1]; exact HT0.out.after HB1.out,HKeep.of_below HB1.out⟩
   | true =>
     have HIE3:=Lib.hid (HIE2.out.trans (by rw [hib,if_neg (by decide)]))
     rw [hib] at HIS
     clear HIE2
     cases hle:leaseB n with
     | false=>
       have he:issE h t o n=162:=by rw [HIE3.out,hle,if_pos rfl]
       obtain⟨e1,e2,e3⟩:=issE_bad he (by decide)
       have HV:=Lib.hid (And.intro e1 (And.intro e2 (And.intro e3 he)))
       rw [hle] at HLE
       clear he e1 e2 e3 HIE3
       go_enter Tryz.func26,Tryz.ntmps26
       go_wp2_with fail
       refine HBR.out.mono ?_
       rintro e w1 ⟨rfl,hb1⟩
       have HB1:=Lib.hid hb1
       have c0:=(HT0.out.after hb1).c0
       clear hb1
       go_wp2_with fail
       refine (HIS.out _ HB1.out).mono ?_
       rintro e w2 ⟨rfl,rfl⟩
       go_wp2_with fail
       refine (HLE.out _).mono ?_
       rintro e w2 ⟨rfl,rfl⟩
       go_wp2_with fail
       go_ret2
       exact⟨by rw [HV.out.2.2.1,HV.out.2.2.2]; rfl,by rw [HV.out.1,HV.out.2.1]; exact HT0.out.after HB1.out,HKeep.of_below HB1.out⟩
     | true=>
       have HIE4:=Lib.hid (HIE3.out.trans (by rw [hle,if_neg (by decide)]))
       rw [hle] at HLE
       have hn:1≤n∧n≤1000000:=by unfold leaseB at hle; simpa using hle
       obtain⟨m,rfl⟩:=Int.eq_ofNat_of_zero_le (show 0≤n by omega)
       have hm1:1≤m:=by omega
       have hm2:m≤1000000:=by omega
       clear HIE3 hle hib hbr hn
       have hcap3:(0:Int)≤(t.cap:Int):=by omega
       have hcap4:(t.cap:Int)≤256:=by omega
       go_enter Tryz.func26,Tryz.ntmps26
       go_wp2_with fail
       refine HBR.out.mono ?_
       rintro e w1 ⟨rfl,hb1⟩
       have HB1:=Lib.hid hb1
       have c0:=(HT0.out.after hb1).c0
       have c5:=(HT0.out.after hb1).drew.cCap
       have HIX:=Lib.hid ((HT0.out.after hb1).drew.idx1 (w0:=w) (below_drew hb1))
       clear hb1
       go_wp2_with fail
       refine (HIS.out _ HB1.out).mono ?_
       rintro e w2 ⟨rfl,rfl⟩
       go_wp2_with fail
       refine (HLE.out _).mono ?_
       rintro e w2 ⟨rfl,rfl⟩
       go_upto_region 7 with fail
       go_cut [8] from 22 to 31 (fun s8 wx=>s8 = .int .i64 t.freeI∧Hid (HT W wx p g gt h t)∧Hid (Below w.heap.size w wx))
       case first=>
        go_region_held3 (fun w'=>w'.cell? ⟨gt,513,none⟩=some (.int .i64 (t.cap:Int)))
         (first | with_reducible exact c5 | with_reducible exact c1 | go_keep)
         (first
           | (go_at_call 87; (with_reducible refine HIX.out.mono ?_); rintro e w2 ⟨rfl,HT2,HB2,c1⟩))
        all_goals go_wp2_with fail
        all_goals go_meet
        all_goals exact⟨rfl,HT2,HB2⟩
       case rest=>
        obtain⟨rfl,HT2,HB2⟩:=hcut
        clear HIX c5 c0 HB1 HIS HBR HLE
        have c4:=HT2.out.cNext
        by_cases hfr:t.free<t.cap
        ·have hfi:t.freeI=(t.free:Int):=by unfold TM.freeI; rw [if_pos hfr]
         have HIE5:=Lib.hid (HIE4.out.trans (by rw [if_neg (not_not_intro hfr)]))
         rw [hfi]
         clear hfi
         by_cases hnx:t.next=0
         ·have he:issE h t o m=163:=by rw [HIE5.out,if_pos hnx]
          obtain⟨e1,e2,e3⟩:=issE_bad he (by decide)
          have HV:=Lib.hid (And.intro e1 (And.intro e2 (And.intro e3 he)))
          rw [hnx] at c4
          simp only [Int.natCast_zero] at c4
          clear he e1 e2 e3 HIE5 HIE4 hnx
          go_wp2_with fail
          go_ret2
          exact⟨by rw [HV.out.2.2.1,HV.out.2.2.2]; rfl,by rw [HV.out.1,HV.out.2.1]; exact HT2.out,HKeep.of_below HB2.out⟩
         ·have he:issE h t o m=0:=by rw [HIE5.out,if_neg hnx]
          have HV:=Lib.hid (show issT h t o m=t.issue t.free m∧issH h t o m=h.putH h.arr t.free o∧issV h t o m=t.next∧issE h t o m=0 from
           ⟨by unfold issT; rw [if_pos he]; rfl,by unfold issH; rw [if_pos he],by unfold issV; rw [if_pos he],he⟩)
          have h256:t.free<256:=by omega
          have O1:=HT2.out.ok.bump hnx
          have O2:=HT2.out.ok.issue (n:=m) hfr (TM.free_lt HT2.out.ok hfr) hnx hm1 hm2
          have T3:=HT2.out.setNext _ O1
          have T4:=(T3.slot h256 (t.next,t.now+m) O2).drew
          have K3:HKeep p gt w (wc.setCell ⟨gt,514,none⟩ (.int .u64 ((if t.next=18446744073709551615 then 0 else t.next+1:Nat):Int))):=(HKeep.of_below HB2.out).setCell _ _
          have K4:=((K3.setCell (1+t.free*2) (.int .u64 (t.next:Int))).setCell (1+t.free*2+1) (.int .i64 ((t.now+m:Nat):Int))).drew
          have a1:IntKind.u64.wrap ((t.next:Int)+1)=((if t.next=18446744073709551615 then 0 else t.next+1:Nat):Int):=by
           have:=HT2.out.ok.n64
           have hb:IntKind.u64.bits=64:=rfl
           unfold IntKind.wrap
           simp [hb,IntKind.signed]
           split <;> omega
          have a2:IntKind.i64.wrap ((t.now:Int)+(m:Int))=(t.now:Int)+(m:Int):=IntWalk.i64_in _ (by have:=HT2.out.ok.nw; omega)
          have HPT:=Lib.hid (htput_any T4 t.free (by omega) o ho)
          have HK4:=Lib.hid K4
          have x0:=HT2.out.cId h256
          have x1:=HT2.out.cExp h256
          have c6:=HT2.out.cNow
          have fz:=HT2.out.tab.fz
          have hk3:(t.free:Int)<256:=by omega
          have hnx2:((t.next:Int) == 0)=false:=by simp; omega
          have HV2:=Lib.hid HV.out.1
          clear O1 O2 T3 T4 K3 K4 he hfr HIE5 HIE4 hnx
          unfold TM.issue at HV2
          simp only at HPT HK4
          rw [Int.natCast_add] at HPT HK4
          generalize (if t.next=18446744073709551615 then 0 else t.next+1)=N at *
          generalize t.free=k at *
          go_wp2_with fail
          go_region
          all_goals go_wp2_with fail
          all_goals refine HPT.out.mono ?_
          all_goals rintro e w3 ⟨rfl,T5,K5⟩
          all_goals have HT5:=Lib.hid T5
          all_goals have HK5:=Lib.hid (HK4.out.trans K5)
          all_goals clear T5 K5
          all_goals go_wp2_with fail
          all_goals go_ret2
          all_goals exact⟨by rw [HV.out.2.2.1,HV.out.2.2.2]; rfl,by rw [HV.out.2.1,HV2.out]; exact HT5.out,HK5.out⟩
        ·have hfi:t.freeI = -1:=by unfold TM.freeI; rw [if_neg hfr]
         have he:issE h t o m=161:=by rw [HIE4.out,if_pos hfr]
         obtain⟨e1,e2,e3⟩:=issE_bad he (by decide)
         have HV:=Lib.hid (And.intro e1 (And.intro e2 (And.intro e3 he)))
         rw [hfi]
         clear he e1 e2 e3 HIE4 hfi
         go_wp2_with fail
         go_ret2
         exact⟨by rw [HV.out.2.2.1,HV.out.2.2.2]; rfl,by rw [HV.out.1,HV.out.2.1]; exact HT2.out,HKeep.of_below HB2.out⟩
end
end
section
open Go.RowKit
attribute [local go_sem] Oper.semAt_some
section
variable {W w:World} {p:HP} {g gt:Nat} {h:HM} {t:TM} (T:HT W w p g gt h t)
include T
set_option maxRecDepth 100000 in
set_option maxHeartbeats 4000000 in
theorem tclearAll_any:Calls Tryz.prog 40 #[.pointer (some ⟨gt,0,none⟩)] w (HDone W p g gt (cleH h t) (cleT h t) (.int .i64 (cleN h t:Nat)) w):=by
 have HBR:=Lib.hid (tbroken_any T)
 have HT0:=Lib.hid T
 clear T
 cases hbr:brkB h t with
 | true=>
   have HV:=Lib.hid (show cleH h t=h∧cleT h t=t∧cleN h t=0 from⟨by unfold cleH; rw [if_pos hbr],by unfold cleT; rw [if_pos hbr],by unfold cleN; rw [if_pos hbr]⟩)
   rw [hbr] at HBR
   go_enter Tryz.func40,Tryz.ntmps40
   go_wp2_with fail
   refine HBR.out.mono ?_
   rintro e w1 ⟨rfl,hb1⟩
   have HB1:=Lib.hid hb1
   clear hb1
   go_wp2_with fail
   go_ret
   exact⟨by rw [HV.out.2.2]; rfl,by rw [HV.out.1,HV.out.2.1]; exact HT0.out.after HB1.out,HKeep.of_below HB1.out⟩
 | false=>
   have hbn:¬ brkB h t=true:=by rw [hbr]; decide
   have HV:=Lib.hid (show cleH h t=h.clrs (t.usedK 256)∧cleT h t=t.clears (t.usedK 256)∧cleN h t=(t.usedK 256).length from⟨by unfold cleH; rw [if_neg hbn],by unfold cleT; rw [if_neg hbn],by unfold cleN; rw [if_neg hbn]⟩)
   rw [hbr] at HBR
   clear hbn
   go_enter Tryz.func40,Tryz.ntmps40
   go_wp2_with fail
   refine HBR.out.mono ?_
   rintro e w1 ⟨rfl,hb1⟩
   have T1:=HT0.out.after hb1
   have hld:=T1.loadAt
   have HIX:=Lib.hid (fun (k:Nat) (hk:k<256) (w:World)=>index_slot T1.ok.len hk w)
   have HT1:=Lib.hid T1
   have HK1:=Lib.hid (HKeep.of_below (p:=p) (gt:=gt) hb1)
   clear T1 hb1 HBR
   generalize Value.agg (slC t.slots).toArray=vs at hld HIX
   go_wp2_with fail
   refine oper_load (v:=vs) hld ?_
   go_wp2_with fail
   go_loopw [3,12] (fun cn i wr=>∃ k:Nat,k≤256∧i = .int .i64 (k:Int)∧cn = .int .i64 (((t.usedK k).length:Nat):Int)∧Hid (HT W wr p g gt (h.clrs (t.usedK k)) (t.clears (t.usedK k)))∧Hid (HKeep p gt w wr)) (fun _ i _=>256-(intOf i).toNat)
   case atStart=>exact⟨0,by omega,rfl,rfl,HT1,HK1⟩
   case round=>
    clear HT1 HK1 hld
    obtain⟨k,hk,rfl,rfl,HTr,HKr⟩:=hrel
    by_cases hlt:k<256
    ·have hi:=HIX.out k hlt wr
     have HUS:=Lib.hid (show t.slots.getD k (0,0)≠(0,0)→¬ (t.slots.getD k (0,0)).1=0 from fun hu e=>by have:=(HT0.out.ok.used k hu).1; have e:(t.at k).1=0:=e; omega)
     have HSU:=Lib.hid (show t.usedK (k+1)=if usedB (t.slots.getD k (0,0)) then t.usedK k++[k] else t.usedK k from t.usedK_succ k)
     generalize t.slots.getD k (0,0)=s at hi HUS HSU
     clear HIX
     rcases s with ⟨a,b⟩
     have hlt2:(k:Int)<256:=by omega
     have HLN:=Lib.hid (t.usedK_len k)
     by_cases hu:((a,b):Nat × Nat)=(0,0)
     ·obtain⟨rfl,rfl⟩ :a=0∧b=0:=by simpa using hu
      have HS2:=Lib.hid (show t.usedK (k+1)=t.usedK k by rw [HSU.out]; rfl)
      have hbx:=(Below.refl wr.heap.size wr).alloc (Nat.le_refl _) (.cells #[.int .u64 0,.int .i64 0] 93)
      have HT5:=Lib.hid (HTr.out.after hbx)
      have HK5:=Lib.hid (HKr.out.after hbx)
      simp only [Int.natCast_zero] at hi
      clear hbx
      go_wp2_with fail
      go_roundw
      case rel=>exact⟨k+1,by omega,by go_num,by rw [HS2.out],by rw [HS2.out]; exact HT5,HK5⟩
      case measure=>simp [intOf]; omega
     ·have ha0:¬ a=0:=HUS.out hu
      have ha1:((a:Int) == 0)=false:=by simpa using ha0
      have HS2:=Lib.hid (show t.usedK (k+1)=t.usedK k++[k] by rw [HSU.out,(usedB_iff (a,b)).2 hu]; rfl)
      have HS3:=Lib.hid (show h.clrs (t.usedK (k+1))=(h.clrs (t.usedK k)).clrK k∧t.clears (t.usedK (k+1))=(t.clears (t.usedK k)).clear k∧(t.usedK (k+1)).length=(t.usedK k).length+1 by
       rw [HS2.out]; exact⟨clrs_snoc _ _ _,TM.clears_snoc _ _ _,by simp⟩)
      have hbx:=(Below.refl wr.heap.size wr).alloc (Nat.le_refl _) (.cells #[.int .u64 (a:Int),.int .i64 (b:Int)] 93)
      have HCL:=Lib.hid (tclear_any (HTr.out.after hbx) k hlt)
      have HK5:=Lib.hid (HKr.out.after hbx)
      have hln:(t.usedK k).length≤256:=by have:=HLN.out; omega
      clear hbx HS2 HSU
      generalize hlq:(t.usedK k).length=q at *
      have a1:IntKind.i64.wrap ((q:Int)+1)=(q:Int)+1:=IntWalk.i64_in _ (by omega)
      have HQ:=Lib.hid hlq
      clear hlq
      go_wp2_with fail
      refine HCL.out.mono ?_
      rintro e w5 ⟨rfl,T5,K5⟩
      have HT6:=Lib.hid T5
      have HK6:=Lib.hid (HK5.out.trans K5)
      clear T5 K5
      go_wp2_with fail
      go_roundw
      case rel=>exact⟨k+1,by omega,by go_num,by rw [HS3.out.2.2]; rfl,by rw [HS3.out.1,HS3.out.2.1]; exact HT6,HK6⟩
      case measure=>simp [intOf]; omega
    ·obtain rfl:k=256:=by omega
     go_wp2_with fail
     go_ret
     exact⟨by rw [HV.out.2.2]; rfl,by rw [HV.out.1,HV.out.2.1]; exact HTr.out,HKr.out⟩
end
end
section
open Go.RowKit
set_option maxHeartbeats 1000000 in
theorem sameWords_any (A A':Option Addr) (n n' c c':Nat) (xs ys:List Nat) (w:World) (hn:n≤9223372036854775807) (hn':n'≤9223372036854775807) (hr:Reads w w.heap.size 1 A n (u32s xs)) (hr':Reads w w.heap.size 1 A' n' (u32s ys)):
 Calls Tryz.prog 38 #[.slice A n c,.slice A' n' c'] w (Told (.bool (sameL xs ys)) w):=by
 have hl:xs.length=n:=by have:=hr.1; rw [u32s_len] at this; omega
 have hl':ys.length=n':=by have:=hr'.1; rw [u32s_len] at this; omega
 have HL:=Lib.hid hl; have HL':=Lib.hid hl'
 clear hl hl'
 have HR:=Lib.hid hr; have HR':=Lib.hid hr'
 clear hr hr'
 by_cases hnn:n=n'
 ·subst hnn
  go_enter Tryz.func38,Tryz.ntmps38
  go_wp2_with fail
  go_loopw [5] (fun i wr=>∃ k:Nat,k≤n∧i = .int .i64 k∧xs.take k=ys.take k∧Below w.heap.size w wr) (fun i _=>n-(intOf i).toNat)
  case atStart=>exact⟨0,by omega,rfl,rfl,Below.refl _ _⟩
  case round=>
   obtain⟨k,hk,rfl,ht,hb⟩:=hrel
   have HT:=Lib.hid ht; clear ht
   by_cases hlt:k<n
   ·have hx:k<xs.length:=by rw [HL.out]; exact hlt
    have hy:k<ys.length:=by rw [HL'.out]; exact hlt
    obtain⟨ad,u,rfl,hbl,hu,hc⟩:=(HR.out.below hb).at_ hlt
    obtain⟨ad',u',rfl,hbl',hu',hc'⟩:=(HR'.out.below hb).at_ hlt
    rw [u32s_get hx] at hu
    rw [u32s_get hy] at hu'
    injection hu with hu
    injection hu' with hu'
    subst hu hu'
    have HX:=Lib.hid hx; have HY:=Lib.hid hy
    clear hx hy
    by_cases he:xs.getD k 0=ys.getD k 0
    ·have HE:=Lib.hid (take_eq_succ HX.out HY.out he HT.out)
     have hv:((xs.getD k 0:Int) != (ys.getD k 0:Int))=false:=by rw [he]; simp
     clear he
     generalize xs.getD k 0=x at *
     generalize ys.getD k 0=y at *
     go_wp2_with fail
     go_region
     all_goals go_wp2_with fail
     all_goals go_roundw
     case rel=>exact⟨k+1,by omega,by go_num,HE.out,below_drew hb⟩
     case measure=>simp [intOf]; omega
    ·have HE:=Lib.hid (sameL_at HX.out HY.out he)
     have hv:((xs.getD k 0:Int) != (ys.getD k 0:Int))=true:=by rw [bne_iff_ne]; omega
     clear he
     generalize xs.getD k 0=x at *
     generalize ys.getD k 0=y at *
     go_wp2_with fail
     go_region
     all_goals go_wp2_with fail
     all_goals go_ret
     all_goals exact⟨by rw [HE.out]; rfl,below_drew hb⟩
   ·obtain rfl:k=n:=by omega
    have HA:=Lib.hid (sameL_all HL.out HL'.out HT.out)
    go_wp2_with fail
    go_ret
    exact⟨by rw [HA.out]; rfl,hb⟩
 ·have HF:=Lib.hid (sameL_len (xs:=xs) (ys:=ys) (by rw [HL.out,HL'.out]; exact hnn))
  have hv:((n:Int) != (n':Int))=true:=by simp; omega
  clear hnn
  go_enter Tryz.func38,Tryz.ntmps38
  go_wp2_with fail
  go_ret
  exact⟨by rw [HF.out]; rfl,Below.refl _ _⟩
set_option maxHeartbeats 1000000 in
theorem sameOops_any (A A':Option Addr) (n n' c c':Nat) (xs ys:List Nat) (w:World) (hn:n≤9223372036854775807) (hn':n'≤9223372036854775807) (hr:Reads w w.heap.size 1 A n (u32s xs)) (hr':Reads w w.heap.size 1 A' n' (u32s ys)):
 Calls Tryz.prog 63 #[.slice A n c,.slice A' n' c'] w (Told (.bool (sameL xs ys)) w):=by
 have hl:xs.length=n:=by have:=hr.1; rw [u32s_len] at this; omega
 have hl':ys.length=n':=by have:=hr'.1; rw [u32s_len] at this; omega
 have HL:=Lib.hid hl; have HL':=Lib.hid hl'
 clear hl hl'
 have HR:=Lib.hid hr; have HR':=Lib.hid hr'
 clear hr hr'
 by_cases hnn:n=n'
 ·subst hnn
  go_enter Tryz.func63,Tryz.ntmps63
  go_wp2_with fail
  go_loopw [5] (fun i wr=>∃ k:Nat,k≤n∧i = .int .i64 k∧xs.take k=ys.take k∧Below w.heap.size w wr) (fun i _=>n-(intOf i).toNat)
  case atStart=>exact⟨0,by omega,rfl,rfl,Below.refl _ _⟩
  case round=>
   obtain⟨k,hk,rfl,ht,hb⟩:=hrel
   have HT:=Lib.hid ht; clear ht
   by_cases hlt:k<n
   ·have hx:k<xs.length:=by rw [HL.out]; exact hlt
    have hy:k<ys.length:=by rw [HL'.out]; exact hlt
    obtain⟨ad,u,rfl,hbl,hu,hc⟩:=(HR.out.below hb).at_ hlt
    obtain⟨ad',u',rfl,hbl',hu',hc'⟩:=(HR'.out.below hb).at_ hlt
    rw [u32s_get hx] at hu
    rw [u32s_get hy] at hu'
    injection hu with hu
    injection hu' with hu'
    subst hu hu'
    have HX:=Lib.hid hx; have HY:=Lib.hid hy
    clear hx hy
    by_cases he:xs.getD k 0=ys.getD k 0
    ·have HE:=Lib.hid (take_eq_succ HX.out HY.out he HT.out)
     have hv:((xs.getD k 0:Int) != (ys.getD k 0:Int))=false:=by rw [he]; simp
     clear he
     generalize xs.getD k 0=x at *
     generalize ys.getD k 0=y at *
     go_wp2_with fail
     go_region
     all_goals go_wp2_with fail
     all_goals go_roundw
     case rel=>exact⟨k+1,by omega,by go_num,HE.out,below_drew hb⟩
     case measure=>simp [intOf]; omega
    ·have HE:=Lib.hid (sameL_at HX.out HY.out he)
     have hv:((xs.getD k 0:Int) != (ys.getD k 0:Int))=true:=by rw [bne_iff_ne]; omega
     clear he
     generalize xs.getD k 0=x at *
     generalize ys.getD k 0=y at *
     go_wp2_with fail
     go_region
     all_goals go_wp2_with fail
     all_goals go_ret
     all_goals exact⟨by rw [HE.out]; rfl,below_drew hb⟩
   ·obtain rfl:k=n:=by omega
    have HA:=Lib.hid (sameL_all HL.out HL'.out HT.out)
    go_wp2_with fail
    go_ret
    exact⟨by rw [HA.out]; rfl,hb⟩
 ·have HF:=Lib.hid (sameL_len (xs:=xs) (ys:=ys) (by rw [HL.out,HL'.out]; exact hnn))
  have hv:((n:Int) != (n':Int))=true:=by simp; omega
  clear hnn
  go_enter Tryz.func63,Tryz.ntmps63
  go_wp2_with fail
  go_ret
  exact⟨by rw [HF.out]; rfl,Below.refl _ _⟩
end
section
open Go.RowKit
theorem rtop_any {w:World} {q:HP} {h:HM} (R:RAt w q h) (hl:h.words.length≤1048576):Calls Tryz.prog 61 #[.pointer (some ⟨q.g,0,none⟩)] w (Said (.int .i64 (h.words.length:Nat)) w):=by
 have c1:=R.c1
 go_enter Tryz.func61,Tryz.ntmps61
 go_wp2_with fail
 go_ret
 exact⟨rfl,rfl⟩
set_option maxRecDepth 100000 in
set_option maxHeartbeats 4000000 in
theorem like_any {W w:World} {p q:HP} {g:Nat} {h:HM} (L:Live W w p g h) (R:RAt w q h):
 Calls Tryz.prog 15 #[.pointer (some ⟨g,0,none⟩),.pointer (some ⟨q.g,0,none⟩)] w (Told (.bool true) w):=by
 have hf:=L.fit
 have r1:=hf.room
 have r2:=hf.hi
 have hrl:=hf.roots
 have HSZ:=Lib.hid (fun (w1:World) (hb:Below w.heap.size w w1)=>(L.after hb).size)
 have HTP:=Lib.hid (fun (w1:World) (hb:Below w.heap.size w w1)=>(L.after hb).top)
 have HLS:=Lib.hid (fun (w1:World) (hb:Below w.heap.size w w1)=>(L.after hb).last)
 have HWD:=Lib.hid (fun (w1:World) (hb:Below w.heap.size w w1)=>(L.after hb).words)
 have HRT:=Lib.hid (fun (w1:World) (hb:Below w.heap.size w w1)=>(L.after hb).roots)
 have HTQ:=Lib.hid (fun (w1:World) (hb:Below w.heap.size w w1)=>rtop_any (R.below hb) (by omega))
 have HSW:=Lib.hid (fun (w1 w2:World) (hb:Below w.heap.size w w2) (g1 c1:Nat) (r:Row w2 g1 32 c1 (u32s h.words))=>sameWords_any (some ⟨g1,0,none⟩) (some ⟨q.gw,0,none⟩) h.words.length h.words.length c1 q.cw h.words h.words w2 (by omega) (by omega)
  (by have:=r.reads r.lt; rw [u32s_len] at this; exact this) (by have:=(R.below hb).2.1.reads (R.below hb).2.1.lt; rw [u32s_len] at this; exact this))
 have HSO:=Lib.hid (fun (w1 w2:World) (hb:Below w.heap.size w w2) (g1 c1:Nat) (r:Row w2 g1 54 c1 (u32s h.roots))=>sameOops_any (some ⟨g1,0,none⟩) (some ⟨q.gr,0,none⟩) h.roots.length h.roots.length c1 q.cr h.roots h.roots w2 (by omega) (by omega)
  (by have:=r.reads r.lt; rw [u32s_len] at this; exact this) (by have:=(R.below hb).2.2.2.reads (R.below hb).2.2.2.lt; rw [u32s_len] at this; exact this))
 rw [sameL_self] at HSW HSO
 have HC:=Lib.hid (fun (w1:World) (hb:Below w.heap.size w w1)=>(R.below hb).1.cells5)
 obtain⟨c0,c1,c2,c3,c4⟩:=R.1.cells5
 have HL1:=Lib.hid (u32s_len h.words)
 have HL2:=Lib.hid (u32s_len h.roots)
 have hB0:Below w.heap.size w w.drew:=below_drew (Below.refl _ _)
 clear L R hf hrl
 go_enter Tryz.func15,Tryz.ntmps15
 go_wp2_with fail
 go_region_held3 (fun w'=>w'.cell? ⟨q.g,0,none⟩=some (.int .i64 h.size)∧w'.cell? ⟨q.g,1,none⟩=some (.slice (some ⟨q.gw,0,none⟩) h.words.length q.cw)∧w'.cell? ⟨q.g,2,none⟩=some (.slice (some ⟨q.gr,0,none⟩) h.roots.length q.cr)∧w'.cell? ⟨q.g,3,none⟩=some (.int .u32 h.last)∧w'.cell? ⟨q.g,4,none⟩=some (.slice (some ⟨q.gs,0,none⟩) h.starts.length q.cs))
  (first | exact⟨c0,c1,c2,c3,c4⟩ | exact HC.out _ (by assumption) | go_keep)
  (first
    | (go_at_call 59; refine (HSZ.out _ (by assumption)).mono ?_; rintro e w' ⟨rfl,rfl⟩)
    | (go_at_call 60; refine (HTP.out _ (by assumption)).mono ?_; rintro e w' ⟨rfl,rfl⟩)
    | (go_at_call 62; refine (HLS.out _ (by assumption)).mono ?_; rintro e w' ⟨rfl,rfl⟩)
    | (go_at_call 61; refine (HTQ.out _ (by assumption)).mono ?_; rintro e w' ⟨rfl,rfl⟩)
    | (go_at_call 35; refine (HWD.out _ (by assumption)).mono ?_; rintro e w1 ⟨g1,k1,rfl,rw1,-,hb1⟩; rw [HL1.out]; have hB1:=below_top (by assumption) hb1)
    | (go_at_call 54; refine (HRT.out _ (by assumption)).mono ?_; rintro e w3 ⟨g3,k3,rfl,rw3,-,hb3⟩; rw [HL2.out]; have hB3:=below_top (by assumption) hb3)
    | (go_at_call 38; refine (HSW.out w _ (by assumption) _ _ (by assumption)).mono ?_; rintro e w2 ⟨rfl,hb2⟩; have hB2:=below_top (by assumption) hb2)
    | (go_at_call 63; refine (HSO.out w _ (by assumption) _ _ (by assumption)).mono ?_; rintro e w4 ⟨rfl,hb4⟩; have hB4:=below_top (by assumption) hb4))
 all_goals go_wp2_with fail
 all_goals go_ret
 all_goals exact⟨rfl,by assumption⟩
end
section
open Go.RowKit
attribute [local go_sem] Oper.semAt_some
end
section
open Go.RowKit Go.Maps
attribute [local go_sem] Oper.semAt_some
end
section
open Go.RowKit
attribute [local go_sem] Oper.semAt_some
end
section
open Go.RowKit Go.Maps
attribute [local go_sem] Oper.semAt_some
end
end Go.Proofs.YtlkahgagmfhdaaaGreatDoor
