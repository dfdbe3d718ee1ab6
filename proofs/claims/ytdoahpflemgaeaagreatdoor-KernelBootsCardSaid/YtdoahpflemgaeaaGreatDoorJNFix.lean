import Derived.Test.YtdoahpflemgaeaaGreatDoorJNPln
import Derived.Test.YtdoahpflemgaeaaGreatDoorJNSgl
import Derived.Test.YtdoahpflemgaeaaGreatDoorJNPrF
import Derived.Test.YtdoahpflemgaeaaGreatDoorJNAwB
import Derived.Test.YtdoahpflemgaeaaGreatDoorJNTxt
import Derived.Test.YtdoahpflemgaeaaGreatDoorJMapIs
import Derived.Laws.ResultCell
set_option linter.unusedVariables false
set_option linter.unusedSimpArgs false
set_option linter.unusedSectionVars false
namespace Go.Proofs.YtdoahpflemgaeaaGreatDoor
section
open Go.RowKit
attribute [local go_sem] Oper.semAt_some
def depK (i:Nat):Nat:=if (kRow i).sup=0 then 0 else if (kRow i).sup=10 then 1 else 2
theorem kRow_sup:∀ i,i<22→(kRow i).sup=0∨(10≤(kRow i).sup∧(kRow i).sup<32∧depK ((kRow i).sup-10)<depK i):=by decide +kernel
theorem kRow_fix:∀ i,i<22→fixK (10+i) 30=(kRow i).fields.length+(if (kRow i).sup=0 then 0 else fixK (10+((kRow i).sup-10)) 30):=by decide +kernel
theorem kRow_few:∀ i,i<22→(kRow i).fields.length≤7∧fixK (10+i) 30≤30∧(kRow i).fmt≤4:=by decide +kernel
theorem kwritten_any (w:World) (f n:Nat) (x:Bool) (hf:f≤4) (hn:n≤1000):Calls Tryz.prog 42 #[.agg #[.int .i64 f,.int .i64 n,.bool x]] w (Told (.int .i64 ((f+8*n+(if x then 65536 else 0):Nat))) w):=by
 have hb:Below w.heap.size w (w.alloc (.cells #[.int .i64 f,.int .i64 n,.bool x] 88)):=(Below.refl _ _).alloc (Nat.le_refl _) _
 have k:=Blk.new w 88 #[.int .i64 f,.int .i64 n,.bool x]
 have c0:=k.cell 0
 have c1:=k.cell 1
 have c2:=k.cell 2
 have HB:=Lib.hid hb
 clear hb k
 cases x with
 | true=>
   have HE:=Lib.hid (show ((f:Int)+8*(n:Int)+65536)=((f+8*n+65536:Nat):Int) by omega)
   go_enter Tryz.func42,Tryz.ntmps42
   go_wp2_with fail
   go_ret
   exact⟨rfl,HB.out⟩
 | false=>
   have HE:=Lib.hid (show ((f:Int)+8*(n:Int))=((f+8*n+0:Nat):Int) by omega)
   go_enter Tryz.func42,Tryz.ntmps42
   go_wp2_with fail
   go_ret
   exact⟨rfl,HB.out⟩
theorem kfixed_any {p:HP} {b:Nat} {w:World} {bp:Nat} (P:PlansAt p b w bp):∀ (d i:Nat),i<22→depK i<d→Calls Tryz.prog 43 #[.slice (some ⟨bp,0,none⟩) 22 22,.int .i64 i] w (Said (.int .i64 (fixK (10+i) 30:Nat)) w)
 | 0,i,hi,hd=>by omega
 | d+1,i,hi,hd=>by
   have IH:=Lib.hid (fun j (hj:j<22) (hdj:depK j<d)=>kfixed_any P d j hj hdj)
   obtain⟨A,n,-,h1,-,-,h4,h5,-,-⟩:=P.at_ i hi
   have HF:=Lib.hid (kRow_fix i hi)
   have hfew:=kRow_few i hi
   have HSUP:=Lib.hid (kRow_sup i hi)
   rw [← h5] at HF hfew
   have hn7:=hfew.1
   clear h5 P hfew
   have HSI:=Lib.hid (show supI i=if (kRow i).sup=0 then -1 else ((kRow i).sup:Int) from rfl)
   generalize supI i=su at *
   by_cases hs:(kRow i).sup=0
   ·have hsu:=HSI.out.trans (if_pos hs)
    have HF2:=Lib.hid (show fixK (10+i) 30=n by rw [HF.out,if_pos hs]; rfl)
    subst hsu
    rw [HF2.out]
    clear HF HF2 HSUP HSI IH hd hs
    go_enter Tryz.func43,Tryz.ntmps43
    go_wp2_with fail
    go_ret
    exact⟨rfl,rfl⟩
   ·have hsu:=HSI.out.trans (if_neg hs)
    obtain⟨s1,s2,s3⟩:=HSUP.out.resolve_left hs
    have hj:(kRow i).sup-10<22:=by omega
    have HC:=Lib.hid (IH.out _ hj (by omega))
    have hf2:=(kRow_few _ hj).2.1
    have HF2:=Lib.hid (HF.out.trans (by rw [if_neg hs]))
    rw [HF2.out]
    clear HF HF2 HSUP HSI IH hd hs s3
    generalize hf:fixK (10+((kRow i).sup-10)) 30=fx at *
    clear hf
    obtain⟨s,hss⟩ :∃ s,s=(kRow i).sup-10:=⟨_,rfl⟩
    have hsu2:su=10+(s:Int):=by omega
    rw [← hss] at HC hj
    clear hsu hss s1 s2
    subst hsu2
    have HE:=Lib.hid (show (10+(s:Int))-10=(s:Int) by omega)
    rw [← HE.out] at HC
    go_enter Tryz.func43,Tryz.ntmps43
    go_wp2_with fail
    refine HC.out.mono ?_
    rintro e w1 ⟨rfl,rfl⟩
    go_wp2_with fail
    go_ret
    exact⟨rfl,rfl⟩
theorem kor1 (x:Nat) (hx:2*x<4294967296):bits .or .u32 ((2*x:Nat):Int) 1=((2*x+1:Nat):Int):=by
 have h:=u32_or_nat (2*x) 1 hx (by omega)
 rw [show 2*x ||| 1=2*x+1 from by
  have h2:=Nat.shiftLeft_add_eq_or_of_lt (i:=1) (b:=1) (by omega) x
  rw [Nat.shiftLeft_eq] at h2
  rw [show 2*x=x*2 ^ 1 by omega]
  exact h2.symm] at h
 exact h
theorem kfits_any (n:Nat) (hn:n≤1000000) (w:World):Calls Tryz.prog 86 #[.int .i64 n] w (Said (.bool true) w):=by
 go_enter Tryz.func86,Tryz.ntmps86
 go_wp2_with fail
 go_ret
 exact⟨by simp; omega,rfl⟩
theorem ksmall_any (n:Nat) (hn:n≤1000000) (w:World):Calls Tryz.prog 41 #[.int .i64 n] w (Said (.tuple #[.int .u32 (smN n:Nat),.int .i64 0]) w):=by
 have HF:=Lib.hid (kfits_any n hn w)
 have hor:=Lib.hid (show bits .or .u32 ((n:Int)*2) 1=((2*n+1:Nat):Int) by
  rw [show (n:Int)*2=((2*n:Nat):Int) by omega]; exact kor1 n (by omega))
 have HV:=Lib.hid (show smN n=2*n+1 from rfl)
 go_enter Tryz.func41,Tryz.ntmps41
 go_wp2_with fail
 refine HF.out.mono ?_
 rintro e w1 ⟨rfl,rfl⟩
 go_wp2_with fail
 go_ret2
 refine⟨?_,rfl⟩
 rw [HV.out,← hor.out]
 rfl
end
section
open Go.RowKit
attribute [local go_sem] Oper.semAt_some
structure OffB (p:HP) (w:World) (b:Nat) (t:TypeId) (cs:Array Value):Prop where
 blk:Blk w b t cs
 out:¬ p.has b
theorem OffB.step {p p':HP} {w w':World} {b:Nat} {t:TypeId} {cs:Array Value} (K:OffB p w b t cs) (s:Step p p' w w'):OffB p' w' b t cs:=
 ⟨K.blk.same (s.block b K.blk.lt K.out),fun q=>by rcases s.rows b q with r | r; exact K.out r; have:=K.blk.lt; omega⟩
theorem OffB.below {p:HP} {w w':World} {b:Nat} {t:TypeId} {cs:Array Value} (K:OffB p w b t cs) (s:Below w.heap.size w w'):OffB p w' b t cs:=K.step (Step.of_below s)
theorem OffB.new {p:HP} {w:World} (hp:∀ q,p.has q→q<w.heap.size) (t:TypeId) (cs:Array Value):OffB p (w.alloc (.cells cs t)) w.heap.size t cs:=
 ⟨Blk.new w t cs,fun q=>by have:=hp _ q; omega⟩
theorem RowU.new {p:HP} {w:World} (hp:∀ q,p.has q→q<w.heap.size) (xs:List Nat):RowU p (w.alloc (.cells (u32s xs).toArray 38)) (some ⟨w.heap.size,0,none⟩) xs:=⟨fun i hi=>by
 refine⟨_,rfl,by simp,fun q=>by have:=hp _ q; simp at this,?_⟩
 rw [WideShapes.add_plain,Nat.zero_add]
 refine ((Blk.new w 38 (u32s xs).toArray).cell i).trans ?_
 unfold u32s
 simp [List.getD_eq_getElem?_getD,List.getElem?_eq_getElem hi]⟩
theorem list6_lt {a b c d e f:Nat} (ha:a<4294967296) (hb:b<4294967296) (hc:c<4294967296) (hd:d<4294967296) (he:e<4294967296) (hf:f<4294967296):∀ x∈[a,b,c,d,e,f],x<4294967296:=by
 intro x hx
 simp only [List.mem_cons,List.not_mem_nil,or_false] at hx
 rcases hx with rfl | rfl | rfl | rfl | rfl | rfl <;> assumption
section
variable {W w:World} {p:HP} {g:Nat} {h:HM} (L:Live W w p g h)
include L
set_option maxRecDepth 100000 in
set_option maxHeartbeats 16000000 in
theorem kdefine_any (sup:Nat) (hsup:sup<4294967296) (t:List Nat) (h8:∀ x∈t,x<256) (hlen:t.length≤9223372036854775807) (A:Option Addr) (cap:Nat) (fs:List (List Nat)) (R:RowT p w A fs) (h8s:∀ t∈fs,∀ x∈t,x<256) (hls:∀ t∈fs,t.length≤9223372036854775807) (hfn:fs.length≤1000) (f n wd:Nat) (x:Bool) (hf:f≤4) (hn:n≤1000) (hwd:wd=f+8*n+(if x then 65536 else 0)):
 Calls Tryz.prog 72 #[.pointer (some ⟨g,0,none⟩),.int .u32 sup,.string (txS t),.slice A fs.length cap,.agg #[.int .i64 f,.int .i64 n,.bool x]] w (Done W p g (h.defK sup t fs (smN wd)).1 (.tuple #[.int .u32 ((h.defK sup t fs (smN wd)).2.1:Nat),.int .i64 ((h.defK sup t fs (smN wd)).2.2:Nat)]) w):=by
 have hwd2:wd≤100000:=by rw [hwd]; split <;> omega
 have hb0:Below w.heap.size w (w.alloc (.cells #[.int .i64 f,.int .i64 n,.bool x] 88)):=(Below.refl _ _).alloc (Nat.le_refl _) _
 have HK0:=Lib.hid (OffB.new (fun q hq=>L.at_.lt hq) 88 #[.int .i64 f,.int .i64 n,.bool x]:OffB p (w.alloc (.cells #[.int .i64 f,.int .i64 n,.bool x] 88)) w.heap.size 88 #[.int .i64 f,.int .i64 n,.bool x])
 have HS0:=Lib.hid (Step.of_below hb0:Step p p w _)
 have HR0:=Lib.hid (R.below hb0)
 have HIN:=Lib.hid (kintern_any (L.after hb0) t h8 hlen)
 have HSU:=Lib.hid hsup; have H8:=Lib.hid h8; have HLN:=Lib.hid hlen; have H8S:=Lib.hid h8s; have HLS:=Lib.hid hls; have HFN:=Lib.hid hfn
 have HWR:=Lib.hid (fun w1=>kwritten_any w1 f n x hf hn)
 rw [← hwd] at HWR
 have HSM:=Lib.hid (fun w1=>ksmall_any wd (by omega) w1)
 have HV32:=Lib.hid (show smN wd<4294967296 by unfold smN; omega)
 have HI:=Lib.hid (show h.defK sup t fs (smN wd)=if (h.internK t).2.2≠0 then ((h.internK t).1,0,(h.internK t).2.2) else (h.internK t).1.def2 sup (h.internK t).2.1 (smN wd) t fs from rfl)
 have hi32:(h.internK t).2.1<4294967296:=by obtain⟨l,G⟩:=L.good; exact intern_lt G t
 clear L R h8 hlen h8s hls hf hn hwd hwd2 hb0 hsup hfn
 generalize h.internK t=q at *
 obtain⟨h1,sym,E1⟩:=q
 simp only at HIN HI hi32
 generalize smN wd=v at *
 have HY32:=Lib.hid hi32
 clear hi32
 go_enter Tryz.func72,Tryz.ntmps72
 go_upto_region 1 with fail
 generalize w.alloc (.cells #[.int .i64 f,.int .i64 n,.bool x] 88)=w0 at *
 go_wp2_with fail
 refine HIN.out.mono ?_
 rintro e w1 ⟨p1,rfl,L1,s1⟩
 have HL1:=Lib.hid L1; have HS1:=Lib.hid (HS0.out.trans s1); have HR1:=Lib.hid (HR0.out.step s1); have HK1:=Lib.hid (HK0.out.step s1)
 clear L1 s1 HIN HS0 HR0 HK0
 by_cases hE:E1=0
 rotate_left
 ·have hne:((E1:Int) != 0)=true:=by simp; omega
  have hnei:¬ ((E1:Int)=0):=by omega
  have HIE:=Lib.hid (HI.out.trans (if_pos hE))
  clear HI HR1 HK1 HWR HSM hE
  go_wp2_with fail
  go_ret2
  rw [HIE.out]
  exact⟨p1,rfl,HL1.out,HS1.out⟩
 subst hE
 have HI1:=Lib.hid (HI.out.trans (if_neg (fun q=>q rfl)))
 clear HI
 have HI2:=Lib.hid (HI1.out.trans (show h1.def2 sup sym v t fs=if h1.AllocE 0 1 6≠0 then (h1,0,h1.AllocE 0 1 6) else (h1.AllocH 0 1 6).def3 (h1.AllocO 0 1 6) sup sym v t fs from rfl))
 clear HI1
 have hz:(0:Nat)<4294967296:=by omega
 have HAL:=Lib.hid (HL1.out.alloc 0 hz 1 6)
 have HAH:=Lib.hid (fun h0:h1.AllocE 0 1 6≠0=>show h1.AllocH 0 1 6=h1 from by rw [HM.AllocH_eq,if_neg h0])
 have HO1:=Lib.hid (AllocO_lt HL1.out.fit 0 1 6)
 have hE4:=AllocE_lt h1 0 1 6
 generalize hhA:h1.AllocH 0 1 6=h2 at *
 generalize h1.AllocE 0 1 6=E at *
 generalize h1.AllocO 0 1 6=c at *
 clear hhA
 go_wp2_with fail
 refine HAL.out.mono ?_
 rintro e w2 ⟨p2,rfl,L2,s2⟩
 have HL2:=Lib.hid L2; have HS2:=Lib.hid (HS1.out.trans s2); have HR2:=Lib.hid (HR1.out.step s2); have HK2:=Lib.hid (HK1.out.step s2)
 clear L2 s2 HAL HS1 HR1 HK1 HL1
 by_cases hE:E=0
 rotate_left
 ·have hne:((E:Int) != 0)=true:=by simp; omega
  have hnei:¬ ((E:Int)=0):=by omega
  have HIE:=Lib.hid (HI2.out.trans (if_pos hE))
  have HL3:=Lib.hid (show Live W w2 p2 g h1 by have:=HL2.out; rw [HAH.out hE] at this; exact this)
  clear HI2 HR2 HK2 HWR HSM HAH hE
  go_wp2_with fail
  go_ret2
  rw [HIE.out]
  exact⟨p2,rfl,HL3.out,HS2.out⟩
 subst hE
 have HI3:=Lib.hid (HI2.out.trans (if_neg (fun q=>q rfl)))
 clear HI2 HAH hE4
 have HI4:=Lib.hid (HI3.out.trans (show h2.def3 c sup sym v t fs=if h2.AllocE (h2.rt 12) 1 6≠0 then (h2,0,h2.AllocE (h2.rt 12) 1 6) else (((h2.AllocH (h2.rt 12) 1 6).setClassH c (h2.AllocO (h2.rt 12) 1 6)).def5 c (h2.AllocO (h2.rt 12) 1 6) sup sym v).def6 c t fs from rfl))
 clear HI3
 have HRT:=Lib.hid (kroot_any HL2.out 12)
 rw [show h2.rootN 12=h2.rt 12 from rootN_rt h2 (i:=12) (by omega)] at HRT
 have hz2:h2.rt 12<4294967296:=HL2.out.fit.root 12
 have HAL:=Lib.hid (HL2.out.alloc (h2.rt 12) hz2 1 6)
 have HAH:=Lib.hid (fun h0:h2.AllocE (h2.rt 12) 1 6≠0=>show h2.AllocH (h2.rt 12) 1 6=h2 from by rw [HM.AllocH_eq,if_neg h0])
 have HO2:=Lib.hid (AllocO_lt HL2.out.fit (h2.rt 12) 1 6)
 have hE4:=AllocE_lt h2 (h2.rt 12) 1 6
 clear hz hz2
 generalize h2.AllocH (h2.rt 12) 1 6=h3 at *
 generalize h2.AllocE (h2.rt 12) 1 6=E at *
 generalize h2.AllocO (h2.rt 12) 1 6=m at *
 generalize h2.rt 12=r12 at *
 go_wp2_with fail
 refine HRT.out.mono ?_
 rintro e w3 ⟨rfl,rfl⟩
 go_wp2_with fail
 refine HAL.out.mono ?_
 rintro e w3 ⟨p3,rfl,L3,s3⟩
 have HL3:=Lib.hid L3; have HS3:=Lib.hid (HS2.out.trans s3); have HR3:=Lib.hid (HR2.out.step s3); have HK3:=Lib.hid (HK2.out.step s3)
 clear L3 s3 HAL HRT HS2 HR2 HK2
 by_cases hE:E=0
 rotate_left
 ·have hne:((E:Int) != 0)=true:=by simp; omega
  have hnei:¬ ((E:Int)=0):=by omega
  have HIE:=Lib.hid (HI4.out.trans (if_pos hE))
  have HL4:=Lib.hid (show Live W w3 p3 g h2 by have:=HL3.out; rw [HAH.out hE] at this; exact this)
  clear HI4 HR3 HK3 HWR HSM HAH HL2 hE
  go_wp2_with fail
  go_ret2
  rw [HIE.out]
  exact⟨p3,rfl,HL4.out,HS3.out⟩
 subst hE
 have HI5:=Lib.hid (HI4.out.trans (if_neg (fun q=>q rfl)))
 clear HI4 HAH HL2 hE4
 have HSC:=Lib.hid (HL3.out.setClass c HO1.out m HO2.out)
 generalize h3.setClassH c m=h4 at *
 generalize h3.setClassE c m=E5 at *
 go_wp2_with fail
 refine HSC.out.mono ?_
 rintro e w4 ⟨p4,rfl,L4,s4⟩
 have HL4:=Lib.hid L4; have HS4:=Lib.hid (HS3.out.trans s4); have HR4:=Lib.hid (HR3.out.step s4); have HK4:=Lib.hid (HK3.out.step s4)
 clear L4 s4 HSC HS3 HR3 HK3 HL3
 have c0:=HK4.out.blk.cell 0; have c1:=HK4.out.blk.cell 1; have c2:=HK4.out.blk.cell 2
 go_wp2_with fail
 refine (HWR.out w4).mono ?_
 rintro e w5 ⟨rfl,hb5⟩
 have HB5:=Lib.hid hb5
 clear hb5 c0 c1 c2 HWR
 go_wp2_with fail
 refine (HSM.out w5).mono ?_
 rintro e w6 ⟨rfl,rfl⟩
 clear HSM
 go_wp2_with fail
 refine (kwritten_any w5 1 6 false (by omega) (by omega)).mono ?_
 rintro e w6 ⟨rfl,hb6⟩
 have HB6:=Lib.hid (below_top HB5.out hb6)
 clear hb6 HB5
 go_wp2_with fail
 refine (ksmall_any 49 (by omega) w6).mono ?_
 rintro e w7 ⟨rfl,rfl⟩
 have HL6:=Lib.hid (HL4.out.after HB6.out); have HS6:=Lib.hid (HS4.out.trans (Step.of_below HB6.out)); have HR6:=Lib.hid (HR4.out.below HB6.out)
 clear HL4 HS4 HR4 HK4 HB6
 have HHD:=Lib.hid (HL6.out.header sup HSU.out)
 obtain⟨cls,hcls⟩ :∃ y,y=(h4.hdO sup).cls:=⟨_,rfl⟩
 have HC32:=Lib.hid (show cls<4294967296 from by rw [hcls]; exact cls_lt HL6.out.fit sup)
 have HI6:=Lib.hid (HI5.out.trans (show (h4.def5 c m sup sym v).def6 c t fs=(((h4.copyK c (fun i=>[sym,sup,h4.rt 0,h4.rt 0,v,h4.rt 0].getD i 0) 6).copyK m (fun i=>[h4.rt 0,cls,h4.rt 0,h4.rt 0,smN 49,c].getD i 0) 6)).def6 c t fs from by rw [hcls]; rfl))
 clear HI5
 generalize hxx:h4.hdO sup=xx at *
 obtain⟨sz,fm,sp,cl,se⟩:=xx
 simp only at hcls
 subst hcls
 generalize h4.isE sup=E6 at *
 clear hxx
 go_wp2_with fail
 refine HHD.out.mono ?_
 rintro e w7 ⟨rfl,hb7⟩
 unfold Hd.val
 have HL7:=Lib.hid (HL6.out.after hb7); have HS7:=Lib.hid (HS6.out.trans (Step.of_below hb7)); have HR7:=Lib.hid (HR6.out.below hb7)
 clear hb7 HHD HL6 HS6 HR6
 have hb8:Below w7.heap.size w7 (w7.alloc (.cells #[.int .i64 sz,.int .i64 fm,.int .i64 sp,.int .u32 cls,.int .u32 se] 137)):=(Below.refl _ _).alloc (Nat.le_refl _) _
 have HK8:=Lib.hid (OffB.new (fun q hq=>HL7.out.at_.lt hq) 137 #[.int .i64 sz,.int .i64 fm,.int .i64 sp,.int .u32 cls,.int .u32 se]:OffB p4 (w7.alloc (.cells #[.int .i64 sz,.int .i64 fm,.int .i64 sp,.int .u32 cls,.int .u32 se] 137)) w7.heap.size 137 #[.int .i64 sz,.int .i64 fm,.int .i64 sp,.int .u32 cls,.int .u32 se])
 have HL8:=Lib.hid (HL7.out.after hb8); have HS8:=Lib.hid (HS7.out.trans (Step.of_below hb8)); have HR8:=Lib.hid (HR7.out.below hb8)
 clear hb8 HL7 HS7 HR7
 go_upto_region 14 with fail
 generalize w7.alloc (.cells #[.int .i64 sz,.int .i64 fm,.int .i64 sp,.int .u32 cls,.int .u32 se] 137)=w8 at *
 generalize w7.heap.size=bh at *
 have HRT:=Lib.hid (kroot_any HL8.out 0)
 rw [show h4.rootN 0=h4.rt 0 from rootN_rt h4 (i:=0) (by omega)] at HRT
 have HZ32:=Lib.hid (show h4.rt 0<4294967296 from HL8.out.fit.root 0)
 have HR00:=Lib.hid (show ∀ j,(h4.copyK c (fun i=>[sym,sup,h4.rt 0,h4.rt 0,v,h4.rt 0].getD i 0) j).rt 0=h4.rt 0 from fun j=>copy_rt _ _ _ _ _)
 generalize h4.rt 0=r0 at *
 have HV6:=Lib.hid (list6_lt HY32.out HSU.out HZ32.out HZ32.out HV32.out HZ32.out)
 have hb9:Below w8.heap.size w8 (w8.alloc (.cells (u32s [sym,sup,r0,r0,v,r0]).toArray 38)):=(Below.refl _ _).alloc (Nat.le_refl _) _
 have HU9:=Lib.hid (RowU.new (fun q hq=>HL8.out.at_.lt hq) [sym,sup,r0,r0,v,r0])
 have HL9:=Lib.hid (HL8.out.after hb9); have HS9:=Lib.hid (HS8.out.trans (Step.of_below hb9)); have HR9:=Lib.hid (HR8.out.below hb9); have HK9:=Lib.hid (HK8.out.below hb9)
 clear hb9 HS8 HR8 HK8
 go_wp2_with fail
 refine HRT.out.mono ?_
 rintro e w9 ⟨rfl,rfl⟩
 go_wp2_with fail
 refine HRT.out.mono ?_
 rintro e w9 ⟨rfl,rfl⟩
 go_wp2_with fail
 refine HRT.out.mono ?_
 rintro e w9 ⟨rfl,rfl⟩
 clear HRT HL8
 go_upto_region 15 with fail
 have hcs:w8.alloc (.cells #[.int .u32 sym,.int .u32 sup,.int .u32 r0,.int .u32 r0,.int .u32 v,.int .u32 r0] 38)=w8.alloc (.cells (u32s [sym,sup,r0,r0,v,r0]).toArray 38):=rfl
 rw [hcs]
 clear hcs
 generalize w8.alloc (.cells (u32s [sym,sup,r0,r0,v,r0]).toArray 38)=w9 at *
 generalize (⟨w8.heap.size,0,none⟩ :Addr)=au at *
 go_loopw [89] (fun i wr=>∃ (j:Nat) (p':HP),i = .int .i64 j∧j≤6∧Live W wr p' g (h4.copyK c (fun i=>[sym,sup,r0,r0,v,r0].getD i 0) j)∧RowU p' wr (some au) [sym,sup,r0,r0,v,r0]∧Step p p' w wr∧RowT p' wr A fs∧OffB p' wr bh 137 #[.int .i64 sz,.int .i64 fm,.int .i64 sp,.int .u32 cls,.int .u32 se]) (fun i _=>6-(intOf i).toNat)
 case atStart=>exact⟨0,p4,rfl,Nat.zero_le _,HL9.out,HU9.out,HS9.out,HR9.out,HK9.out⟩
 case round=>
  clear HL9 HU9 HS9 HR9 HK9
  obtain⟨j,p5,rfl,hj,L5,U5,s5,R5,K5⟩:=hrel
  by_cases hjn:j<6
  ·have hdj:decide ((j:Int)<6)=true:=by simp; omega
   obtain⟨ad,hA,-,-,hc⟩:=U5.at_ j hjn
   injection hA with hA
   subst hA
   have HPT:=Lib.hid (L5.put c HO1.out (j:Int) ([sym,sup,r0,r0,v,r0].getD j 0) (getA_lt HV6.out j))
   rw [show (h4.copyK c (fun i=>[sym,sup,r0,r0,v,r0].getD i 0) j).putH c (j:Int) ([sym,sup,r0,r0,v,r0].getD j 0)=h4.copyK c (fun i=>[sym,sup,r0,r0,v,r0].getD i 0) (j+1) from (copy_succ h4 c (fun i=>[sym,sup,r0,r0,v,r0].getD i 0) j).symm] at HPT
   have HSj:=Lib.hid s5; have HUj:=Lib.hid U5; have HRj:=Lib.hid R5; have HKj:=Lib.hid K5
   clear L5 s5 U5 R5 K5
   generalize [sym,sup,r0,r0,v,r0].getD j 0=y at *
   go_wp2_with fail
   refine HPT.out.mono ?_
   rintro e w10 ⟨p6,rfl,L6,s6⟩
   have HLk:=Lib.hid L6; have HSk:=Lib.hid (HSj.out.trans s6); have HUk:=Lib.hid (HUj.out.step s6); have HRk:=Lib.hid (HRj.out.step s6); have HKk:=Lib.hid (HKj.out.step s6)
   clear L6 s6 HPT HSj HUj HRj HKj
   go_wp2_with fail
   go_roundw
   case rel=>exact⟨j+1,p6,by go_num,by omega,HLk.out,HUk.out,HSk.out,HRk.out,HKk.out⟩
   case measure=>simp [intOf]; omega
  obtain rfl:j=6:=by omega
  rw [show ((6:Nat):Int)=6 from rfl]
  have hdj:decide ((6:Int)<6)=false:=by decide
  clear U5 hjn hj
  have HL5:=Lib.hid L5; have HS5:=Lib.hid s5; have HR5:=Lib.hid R5; have HK5:=Lib.hid K5
  clear L5 s5 R5 K5
  have HRE:=Lib.hid (HR00.out 6)
  clear HR00
  have HRT:=Lib.hid (fun (w1:World) (hb:Below wr.heap.size wr w1)=>kroot_any (HL5.out.after hb) 0)
  rw [show (h4.copyK c (fun i=>[sym,sup,r0,r0,v,r0].getD i 0) 6).rootN 0=(h4.copyK c (fun i=>[sym,sup,r0,r0,v,r0].getD i 0) 6).rt 0 from rootN_rt _ (i:=0) (by omega),HRE.out] at HRT
  generalize h4.copyK c (fun i=>[sym,sup,r0,r0,v,r0].getD i 0) 6=h5 at *
  have HM6:=Lib.hid (list6_lt HZ32.out HC32.out HZ32.out HZ32.out (show smN 49<4294967296 by decide) HO1.out)
  generalize smN 49=v49 at *
  clear HRE
  go_upto_region 19 with fail
  have hbd:Below wr.heap.size wr wr.drew:=below_drew (Below.refl _ _)
  have HRT:=Lib.hid (HRT.out _ hbd)
  have HKd:=Lib.hid (HK5.out.below hbd)
  have HLd:=Lib.hid (HL5.out.after hbd); have HSd:=Lib.hid (HS5.out.trans (Step.of_below hbd)); have HRd:=Lib.hid (HR5.out.below hbd)
  have d3:=HKd.out.blk.cell 3
  clear hbd HL5 HS5 HR5 HK5
  go_cut [110,111,112] (fun v110 v111 v112 wx=>v110 = .slice (some ⟨wr.drew.heap.size,0,none⟩) 6 6∧v111 = .int .i64 6∧v112 = .int .i64 0∧wx=wr.drew.alloc (.cells (u32s [r0,cls,r0,r0,v49,c]).toArray 38))
  case first=>
   go_region_with (first | (go_at_call 12; refine HRT.out.mono ?_; rintro e w20 ⟨rfl,rfl⟩))
   all_goals
    go_wp2_with fail
    go_meet
    exact⟨rfl,rfl,rfl,rfl⟩
  case rest=>
   obtain⟨rfl,rfl,rfl,hwx⟩:=hcut
   have hb10:Below wr.drew.heap.size wr.drew (wr.drew.alloc (.cells (u32s [r0,cls,r0,r0,v49,c]).toArray 38)):=(Below.refl _ _).alloc (Nat.le_refl _) _
   have HUm:=Lib.hid (RowU.new (fun q hq=>HLd.out.at_.lt hq) [r0,cls,r0,r0,v49,c])
   rw [← hwx] at hb10 HUm
   have HLm:=Lib.hid (HLd.out.after hb10); have HSm:=Lib.hid (HSd.out.trans (Step.of_below hb10)); have HRm:=Lib.hid (HRd.out.below hb10)
   clear hb10 hwx HLd HSd HRd HKd d3 HRT
   generalize (⟨wr.drew.heap.size,0,none⟩ :Addr)=au at *
   go_wp2_with fail
   go_loopw [112] (fun i wr=>∃ (j:Nat) (p':HP),i = .int .i64 j∧j≤6∧Live W wr p' g (h5.copyK m (fun i=>[r0,cls,r0,r0,v49,c].getD i 0) j)∧RowU p' wr (some au) [r0,cls,r0,r0,v49,c]∧Step p p' w wr∧RowT p' wr A fs) (fun i _=>6-(intOf i).toNat)
   case atStart=>exact⟨0,p5,rfl,Nat.zero_le _,HLm.out,HUm.out,HSm.out,HRm.out⟩
   case round=>
    clear HLm HUm HSm HRm
    obtain⟨j,p5,rfl,hj,L5,U5,s5,R5⟩:=hrel
    by_cases hjn:j<6
    ·have hdj:decide ((j:Int)<6)=true:=by simp; omega
     obtain⟨ad,hA,-,-,hc⟩:=U5.at_ j hjn
     injection hA with hA
     subst hA
     have HPT:=Lib.hid (L5.put m HO2.out (j:Int) ([r0,cls,r0,r0,v49,c].getD j 0) (getA_lt HM6.out j))
     rw [show (h5.copyK m (fun i=>[r0,cls,r0,r0,v49,c].getD i 0) j).putH m (j:Int) ([r0,cls,r0,r0,v49,c].getD j 0)=h5.copyK m (fun i=>[r0,cls,r0,r0,v49,c].getD i 0) (j+1) from (copy_succ h5 m (fun i=>[r0,cls,r0,r0,v49,c].getD i 0) j).symm] at HPT
     have HSj:=Lib.hid s5; have HUj:=Lib.hid U5; have HRj:=Lib.hid R5
     clear L5 s5 U5 R5
     generalize [r0,cls,r0,r0,v49,c].getD j 0=y at *
     go_wp2_with fail
     refine HPT.out.mono ?_
     rintro e w10 ⟨p6,rfl,L6,s6⟩
     have HLk:=Lib.hid L6; have HSk:=Lib.hid (HSj.out.trans s6); have HUk:=Lib.hid (HUj.out.step s6); have HRk:=Lib.hid (HRj.out.step s6)
     clear L6 s6 HPT HSj HUj HRj
     go_wp2_with fail
     go_roundw
     case rel=>exact⟨j+1,p6,by go_num,by omega,HLk.out,HUk.out,HSk.out,HRk.out⟩
     case measure=>simp [intOf]; omega
    obtain rfl:j=6:=by omega
    rw [show ((6:Nat):Int)=6 from rfl]
    have hdj:decide ((6:Int)<6)=false:=by decide
    clear U5 hjn hj
    have HL5:=Lib.hid L5; have HS5:=Lib.hid s5; have HR5:=Lib.hid R5
    clear L5 s5 R5
    generalize h5.copyK m (fun i=>[r0,cls,r0,r0,v49,c].getD i 0) 6=h6 at *
    have HI7:=Lib.hid (HI6.out.trans (show h6.def6 c t fs=if (h6.setGloK t c).2.2≠0 then ((h6.setGloK t c).1,0,(h6.setGloK t c).2.2) else if fs=[] then ((h6.setGloK t c).1,c,0) else (h6.setGloK t c).1.def7 c fs from rfl))
    clear HI6
    have HSG:=Lib.hid (ksetGlobal_any HL5.out t c H8.out HLN.out HO1.out)
    generalize h6.setGloK t c=q at *
    obtain⟨h7,o7,E7⟩:=q
    simp only at HI7 HSG
    go_wp2_with fail
    refine HSG.out.mono ?_
    rintro e w11 ⟨p7,rfl,L7,s7⟩
    have HL7:=Lib.hid L7; have HS7:=Lib.hid (HS5.out.trans s7); have HR7:=Lib.hid (HR5.out.step s7)
    clear L7 s7 HSG HL5 HS5 HR5
    by_cases hE:E7=0
    rotate_left
    ·have hne:((E7:Int) != 0)=true:=by simp; omega
     have hnei:¬ ((E7:Int)=0):=by omega
     have HIE:=Lib.hid (HI7.out.trans (if_pos hE))
     clear HI7 HR7 hE
     go_wp2_with fail
     go_ret2
     rw [HIE.out]
     exact⟨p7,rfl,HL7.out,HS7.out⟩
    subst hE
    have HI8:=Lib.hid (HI7.out.trans (if_neg (fun q=>q rfl)))
    clear HI7
    by_cases hfs:fs=[]
    ·have HI9:=Lib.hid (HI8.out.trans (if_pos hfs))
     have hl0:fs.length=0:=by rw [hfs]; rfl
     rw [hl0]
     clear HI8 HR7 hfs hl0
     go_wp2_with fail
     go_ret2
     rw [HI9.out]
     exact⟨p7,rfl,HL7.out,HS7.out⟩
    have HI9:=Lib.hid (HI8.out.trans (if_neg hfs))
    have hlp:0<fs.length:=List.length_pos_iff.2 hfs
    have HOW:=Lib.hid (kownFields_any HL7.out c HO1.out A cap fs HR7.out H8S.out HLS.out HFN.out)
    have HI10:=Lib.hid (HI9.out.trans (show h7.def7 c fs=if (h7.ownK c fs).2≠0 then ((h7.ownK c fs).1,0,(h7.ownK c fs).2) else ((h7.ownK c fs).1,c,0) from rfl))
    clear HI8 HI9 HR7 hfs HL7
    generalize h7.ownK c fs=q at *
    obtain⟨h8,E8⟩:=q
    simp only at HI10 HOW
    obtain⟨nf,hnf⟩ :∃ nf,nf=fs.length:=⟨_,rfl⟩
    rw [← hnf] at HOW hlp ⊢
    have hgt:decide ((nf:Int)>0)=true:=by simp; omega
    clear hnf
    go_wp2_with fail
    refine HOW.out.mono ?_
    rintro e w12 ⟨p8,rfl,L8,s8⟩
    have HL8:=Lib.hid L8; have HS8:=Lib.hid (HS7.out.trans s8)
    clear L8 s8 HOW HS7
    by_cases hE:E8=0
    rotate_left
    ·have hne:((E8:Int) != 0)=true:=by simp; omega
     have hnei:¬ ((E8:Int)=0):=by omega
     have HIE:=Lib.hid (HI10.out.trans (if_pos hE))
     clear HI10 hE
     go_wp2_with fail
     go_ret2
     rw [HIE.out]
     exact⟨p8,rfl,HL8.out,HS8.out⟩
    subst hE
    have HI11:=Lib.hid (HI10.out.trans (if_neg (fun q=>q rfl)))
    clear HI10
    go_wp2_with fail
    go_ret2
    rw [HI11.out]
    exact⟨p8,rfl,HL8.out,HS8.out⟩
end
end
section
open Go.RowKit
attribute [local go_sem] Oper.semAt_some
theorem setClass_size (h:HM) (o c:Nat):(h.setClassH o c).size=h.size:=by unfold HM.setClassH; split <;> rfl
theorem setGlo_size (h:HM) (t:List Nat) (v:Nat):(h.setGloK t v).1.size=h.size:=by
 unfold HM.setGloK
 split
 ·rfl
 split
 ·rfl
 split
 ·exact put_size ..
 split
 ·rfl
 dsimp only
 split
 ·rfl
 split
 ·rfl
 split
 ·rfl
 ·simp only [add_size,put_size,Alloc_size,intern_size]
theorem arr_size (h:HM) (l:List Nat):(h.arrK l).1.size=h.size:=by
 unfold HM.arrK
 split
 ·rfl
 split
 ·rfl
 split
 ·rfl
 split
 ·rfl
 ·simp only [copy_size,Alloc_size]
theorem syms_size:∀ (ts:List (List Nat)) (h:HM),(h.symsK ts).1.size=h.size
 | [],h=>rfl
 | t :: ts,h=>by
   unfold HM.symsK
   split
   ·exact intern_size ..
   ·exact (syms_size ts _).trans (intern_size ..)
theorem own_size (h:HM) (c:Nat) (ts:List (List Nat)):(h.ownK c ts).1.size=h.size:=by
 unfold HM.ownK
 dsimp only
 split
 ·exact syms_size ..
 split
 ·exact (arr_size ..).trans (syms_size ..)
 ·exact (put_size ..).trans ((arr_size ..).trans (syms_size ..))
theorem def7_size (h:HM) (c:Nat) (fs:List (List Nat)):(h.def7 c fs).1.size=h.size:=by
 unfold HM.def7
 split <;> exact own_size ..
theorem def6_size (h:HM) (c:Nat) (t:List Nat) (fs:List (List Nat)):(h.def6 c t fs).1.size=h.size:=by
 unfold HM.def6
 split
 ·exact setGlo_size ..
 split
 ·exact setGlo_size ..
 ·exact (def7_size ..).trans (setGlo_size ..)
theorem def_size (h:HM) (sup:Nat) (t:List Nat) (fs:List (List Nat)) (v:Nat):(h.defK sup t fs v).1.size=h.size:=by
 unfold HM.defK
 split
 ·exact intern_size ..
 unfold HM.def2
 split
 ·exact intern_size ..
 unfold HM.def3
 split
 ·exact (Alloc_size ..).trans (intern_size ..)
 ·refine (def6_size ..).trans ?_
  unfold HM.def5
  rw [copy_size,copy_size,setClass_size,Alloc_size,Alloc_size]
  exact intern_size ..
structure Box6 (p:HP) (g:Nat) (w:World) (b1 b2 b3 b4 b5 b6:Nat) (sup:Nat) (t:List Nat) (A:Option Addr) (cap:Nat) (fs:List (List Nat)) (f n:Nat) (x:Bool) (o:Nat):Prop where
 k1:OffB p w b1 22 #[.pointer (some ⟨g,0,none⟩)]
 k2:OffB p w b2 38 #[.int .u32 sup]
 k3:OffB p w b3 9 #[.string (txS t)]
 k4:OffB p w b4 50 #[.slice A fs.length cap]
 k5:OffB p w b5 88 #[.int .i64 f,.int .i64 n,.bool x]
 k6:OffB p w b6 38 #[.int .u32 o]
def DefR (h:HM) (sup:Nat) (t:List Nat) (fs:List (List Nat)) (v b6:Nat) (E:Nat) (h1:HM) (w1:World):Prop:=
 E=(h.defK sup t fs v).2.2∧h1=(h.defK sup t fs v).1∧Blk w1 b6 38 #[.int .u32 ((h.defK sup t fs v).2.1:Nat)]
section
variable {W w:World} {p:HP} {g:Nat} {h:HM} (L:Live W w p g h)
include L
set_option maxRecDepth 100000 in
set_option maxHeartbeats 4000000 in
theorem kdefC_any (b1 b2 b3 b4 b5 b6 sup:Nat) (hsup:sup<4294967296) (t:List Nat) (h8:∀ x∈t,x<256) (hlen:t.length≤9223372036854775807) (A:Option Addr) (cap:Nat) (fs:List (List Nat)) (R:RowT p w A fs) (h8s:∀ t∈fs,∀ x∈t,x<256) (hls:∀ t∈fs,t.length≤9223372036854775807) (hfn:fs.length≤1000) (f n wd:Nat) (x:Bool) (hf:f≤4) (hn:n≤1000) (hwd:wd=f+8*n+(if x then 65536 else 0)) (o:Nat)
 (B:Box6 p g w b1 b2 b3 b4 b5 b6 sup t A cap fs f n x o) (hW:W.heap.size≤b6):
 Calls Tryz.prog 71 #[.pointer (some ⟨b1,0,none⟩),.pointer (some ⟨b2,0,none⟩),.pointer (some ⟨b3,0,none⟩),.pointer (some ⟨b4,0,none⟩),.pointer (some ⟨b5,0,none⟩),.pointer (some ⟨b6,0,none⟩)] w (fun e w'=>∃ (E:Nat) (h':HM) (p':HP),e = .returned (.int .i64 E)∧Live W w' p' g h'∧StepB p p' b6 w w'∧h'.size=h.size∧DefR h sup t fs (smN wd) b6 E h' w'):=by
 have HD:=Lib.hid (kdefine_any L sup hsup t h8 hlen A cap fs R h8s hls hfn f n wd x hf hn hwd)
 have HSZ:=Lib.hid (def_size h sup t fs (smN wd))
 have HR:=Lib.hid (fun (E:Nat) (h1:HM) (w1:World)=>show DefR h sup t fs (smN wd) b6 E h1 w1↔E=(h.defK sup t fs (smN wd)).2.2∧h1=(h.defK sup t fs (smN wd)).1∧Blk w1 b6 38 #[.int .u32 ((h.defK sup t fs (smN wd)).2.1:Nat)] from Iff.rfl)
 have c1:=B.k1.blk.cell 0
 have c2:=B.k2.blk.cell 0
 have c3:=B.k3.blk.cell 0
 have c4:=B.k4.blk.cell 0
 have c5:=B.k5.blk.cell 0
 have c6:=B.k5.blk.cell 1
 have c7:=B.k5.blk.cell 2
 have HK6:=Lib.hid B.k6
 clear L R h8 hlen h8s hls hf hn hwd hsup hfn B
 generalize h.defK sup t fs (smN wd)=q at *
 obtain⟨h1,c,E1⟩:=q
 simp only at HD HSZ HR
 generalize fs.length=nf at *
 go_enter Tryz.func71,Tryz.ntmps71
 go_wp2_with fail
 refine HD.out.mono ?_
 rintro e w1 ⟨p1,rfl,L1,s1⟩
 have K1:=HK6.out.step s1
 have d1:=K1.blk.cell 0
 have y1:=K1.blk.frozen 0
 have HL1:=Lib.hid (L1.far2 K1.out hW 0 (.int .u32 (c:Nat)))
 have HS1:=Lib.hid ((StepB.of_step s1:StepB p p1 b6 w w1).setBox 0 (.int .u32 (c:Nat)))
 have HKS:=Lib.hid (K1.blk.set_ 0 (.int .u32 (c:Nat)))
 clear L1 s1 K1 HD HK6 c1 c2 c3 c4 c5 c6 c7
 go_wp2_with fail
 go_ret
 exact⟨E1,h1,p1,rfl,HL1.out,HS1.out,HSZ.out,(HR.out _ _ _).2 ⟨rfl,rfl,HKS.out⟩⟩
end
end
section
open Go.RowKit
attribute [local go_sem] Oper.semAt_some
theorem kfitsF_any (w:World) (f:Int) (n:Nat) (x:Bool):Calls Tryz.prog 69 #[.agg #[.int .i64 f,.int .i64 n,.bool x]] w (Told (.bool (fitsK f n x)) w):=by
 have hb:Below w.heap.size w (w.alloc (.cells #[.int .i64 f,.int .i64 n,.bool x] 88)):=(Below.refl _ _).alloc (Nat.le_refl _) _
 have k:=Blk.new w 88 #[.int .i64 f,.int .i64 n,.bool x]
 have c0:=k.cell 0
 have c1:=k.cell 1
 have c2:=k.cell 2
 have HB:=Lib.hid hb
 clear hb k
 have q1:decide (f<1) = !decide (1≤f):=by rw [Bool.eq_iff_iff]; simp <;> omega
 have q2:decide (f>4) = !decide (f≤4):=by rw [Bool.eq_iff_iff]; simp <;> omega
 have q3:decide ((n:Int)<0)=false:=by simp
 have q4:decide ((n:Int)>255) = !decide (n≤255):=by rw [Bool.eq_iff_iff]; simp <;> omega
 have q5:(f == 1)=decide (f=1):=by rw [Bool.eq_iff_iff]; simp
 have q6:((n:Int) == 0)=decide (n=0):=by rw [Bool.eq_iff_iff]; simp
 unfold fitsK
 generalize decide (1≤f)=d1 at *
 generalize decide (f≤4)=d2 at *
 generalize decide (n≤255)=d3 at *
 generalize decide (f=1)=d4 at *
 generalize decide (n=0)=d5 at *
 cases d1 with
 | false=>
   simp only [Bool.not_true,Bool.not_false] at q1 q2 q4
   go_enter Tryz.func69,Tryz.ntmps69
   go_wp2_with fail
   go_ret
   exact⟨by simp,HB.out⟩
 | true=>
   cases d2 with
   | false=>
     simp only [Bool.not_true,Bool.not_false] at q1 q2 q4
     go_enter Tryz.func69,Tryz.ntmps69
     go_wp2_with fail
     go_ret
     exact⟨by simp,HB.out⟩
   | true=>
     cases d3 with
     | false=>
       simp only [Bool.not_true,Bool.not_false] at q1 q2 q4
       go_enter Tryz.func69,Tryz.ntmps69
       go_wp2_with fail
       go_ret
       exact⟨by simp,HB.out⟩
     | true=>
       cases d4 with
       | false=>
         cases d5 with
         | false=>
           simp only [Bool.not_true,Bool.not_false] at q1 q2 q4
           go_enter Tryz.func69,Tryz.ntmps69
           go_wp2_with fail
           go_ret
           exact⟨by simp,HB.out⟩
         | true=>
           simp only [Bool.not_true,Bool.not_false] at q1 q2 q4
           go_enter Tryz.func69,Tryz.ntmps69
           go_wp2_with fail
           go_ret
           exact⟨by simp,HB.out⟩
       | true=>
         simp only [Bool.not_true,Bool.not_false] at q1 q2 q4
         go_enter Tryz.func69,Tryz.ntmps69
         go_wp2_with fail
         go_ret
         exact⟨by simp,HB.out⟩
structure FmtOk (n f z:Nat) (x:Bool):Prop where
 ef:f=n%8
 ez:z=n / 8%8192
 ex:x=decide (n / 65536%2=1)
 fits:fitsK f z x=true
 word:f+8*z+(if x then 65536 else 0)=n
theorem i64_and_nat (a b:Nat) (ha:a<9223372036854775808) (hb:b<9223372036854775808):bits .and .i64 (a:Int) (b:Int)=((a &&& b:Nat):Int):=by
 have hx:a &&& b≤a:=Nat.and_le_left
 show IntKind.i64.wrap ((BitVec.ofInt 64 (a:Int) &&& BitVec.ofInt 64 (b:Int)).toNat:Int)=_
 have e:∀ c:Nat,c<9223372036854775808→(BitVec.ofInt 64 (c:Int)).toNat=c:=fun c hc=>by
  rw [BitVec.ofInt_natCast,BitVec.toNat_ofNat]; exact Nat.mod_eq_of_lt (by omega)
 rw [BitVec.toNat_and,e a ha,e b hb,IntKind.wrap_i64]
 omega
theorem and_pow_ne (n i:Nat):n &&& 2 ^ i≠0↔n.testBit i=true:=by
 constructor
 ·intro h
  refine Classical.byContradiction fun q=>h (Nat.eq_of_testBit_eq fun j=>?_)
  rw [Nat.testBit_and,Nat.testBit_two_pow,Nat.zero_testBit]
  by_cases e:i=j
  ·subst e; rw [Bool.eq_false_iff.2 q]; rfl
  ·rw [decide_eq_false e,Bool.and_false]
 ·intro h e
  have:=congrArg (fun m:Nat=>m.testBit i) e
  rw [Nat.testBit_and,Nat.testBit_two_pow,h,Nat.zero_testBit] at this
  simp at this
section
variable {W w:World} {p:HP} {g:Nat} {h:HM} (L:Live W w p g h)
include L
set_option maxHeartbeats 4000000 in
theorem kformat_any (c:Nat) (hc:c<4294967296) (n f z:Nat) (x:Bool) (hl:h.lookK c=0) (hv:h.fldK c 4=2*n+1) (hn:n<1073741824) (F:FmtOk n f z x):
 Calls Tryz.prog 65 #[.pointer (some ⟨g,0,none⟩),.int .u32 c] w (Told (.tuple #[.agg #[.int .i64 f,.int .i64 z,.bool x],.int .i64 0]) w):=by
 have HLK:=Lib.hid (fun (w1:World) (hb:Below w.heap.size w w1)=>klook_any (L.after hb) c hc)
 rw [hl] at HLK
 have HFD:=Lib.hid (fun (w1:World) (hb:Below w.heap.size w w1)=>kfield_any (L.after hb) c hc 4)
 rw [hv] at HFD
 have hsm:smallV (2*n+1)=(n:Int):=by unfold smallV; rw [if_pos (by omega)]; omega
 have HVA:=Lib.hid (fun w1=>Value_any (2*n+1) (by omega) (by omega) w1)
 rw [hsm] at HVA
 have e1:bits .and .i64 (n:Int) 7=(f:Int):=by
  rw [show (7:Int)=((2 ^ 3-1:Nat):Int) from rfl,i64_and_nat n _ (by omega) (by omega),Nat.and_two_pow_sub_one_eq_mod,F.ef]
 have e2:bits .and .i64 ((n:Int) / 8) 8191=(z:Int):=by
  rw [show (8191:Int)=((2 ^ 13-1:Nat):Int) from rfl,show (n:Int) / 8=((n / 8:Nat):Int) by omega,i64_and_nat _ _ (by omega) (by omega),Nat.and_two_pow_sub_one_eq_mod,F.ez]
 have e3:(bits .and .i64 (n:Int) 65536 != 0)=x:=by
  rw [show (65536:Int)=((2 ^ 16:Nat):Int) from rfl,i64_and_nat n _ (by omega) (by omega),F.ex,Bool.eq_iff_iff]
  have:=and_pow_ne n 16
  rw [Nat.testBit_eq_decide_div_mod_eq,decide_eq_true_eq] at this
  rw [decide_eq_true_eq,show n / 65536%2=n / 2 ^ 16%2 from rfl,← this]
  simp only [bne_iff_ne,ne_eq]
  omega
 have e4:decide ((n:Int)<0)=false:=by simp
 have HFT:=Lib.hid (fun w1=>kfitsF_any w1 (f:Int) z x)
 rw [F.fits] at HFT
 have hf4:f≤4∧z≤1000:=by
  have:=F.fits
  unfold fitsK at this
  simp only [Bool.and_eq_true,decide_eq_true_eq] at this
  omega
 have HWR:=Lib.hid (fun w1=>kwritten_any w1 f z x hf4.1 hf4.2)
 rw [F.word] at HWR
 clear L hl hv hsm F hf4
 have hb1:Below w.heap.size w (w.alloc (.cells #[.int .i64 0,.int .i64 0,.bool false] 88)):=(Below.refl _ _).alloc (Nat.le_refl _) _
 have HLK1:=Lib.hid (HLK.out _ hb1)
 have K1:=Lib.hid (Blk.new w 88 #[.int .i64 0,.int .i64 0,.bool false])
 have HB1:=Lib.hid hb1
 clear hb1 HLK
 go_enter Tryz.func65,Tryz.ntmps65
 go_upto_region 1 with fail
 generalize w.alloc (.cells #[.int .i64 0,.int .i64 0,.bool false] 88)=w1 at *
 go_wp2_with fail
 refine HLK1.out.mono ?_
 rintro e w2 ⟨rfl,hb2⟩
 have HB2:=Lib.hid (below_top HB1.out hb2)
 have K2:=Lib.hid (K1.out.below hb2 K1.out.lt)
 have HF2:=Lib.hid (HFD.out w2 HB2.out)
 clear hb2 HLK1 HB1 K1 HFD
 go_wp2_with fail
 refine HF2.out.mono ?_
 rintro e w3 ⟨rfl,hb3⟩
 have HB3:=Lib.hid (below_top HB2.out hb3)
 have K3:=Lib.hid (K2.out.below hb3 K2.out.lt)
 clear hb3 HF2 HB2 K2
 go_wp2_with fail
 refine (HVA.out w3).mono ?_
 rintro e w4 ⟨rfl,rfl⟩
 clear HVA
 have hb4:Below w3.heap.size w3 (w3.alloc (.cells #[.int .i64 f,.int .i64 z,.bool x] 88)):=(Below.refl _ _).alloc (Nat.le_refl _) _
 have KF4:=Lib.hid (Blk.new w3 88 #[.int .i64 f,.int .i64 z,.bool x])
 have K4:=Lib.hid (K3.out.below hb4 K3.out.lt)
 have HB4:=Lib.hid (below_top HB3.out hb4)
 have HWB:=Lib.hid (show w.heap.size≤w3.heap.size from HB3.out.size)
 have c0:=KF4.out.cell 0; have c1:=KF4.out.cell 1; have c2:=KF4.out.cell 2
 clear hb4 K3 HB3
 go_upto_region 6 with fail
 generalize w3.alloc (.cells #[.int .i64 f,.int .i64 z,.bool x] 88)=w4 at *
 generalize w3.heap.size=b3 at *
 go_wp2_with fail
 refine (HFT.out w4).mono ?_
 rintro e w5 ⟨rfl,hb5⟩
 have HB5:=Lib.hid (below_top HB4.out hb5)
 have K5:=Lib.hid (K4.out.below hb5 K4.out.lt); have KF5:=Lib.hid (KF4.out.below hb5 KF4.out.lt)
 clear hb5 HFT HB4 K4 KF4 c0 c1 c2
 have c0:=KF5.out.cell 0; have c1:=KF5.out.cell 1; have c2:=KF5.out.cell 2
 go_wp2_with fail
 refine (HWR.out w5).mono ?_
 rintro e w6 ⟨rfl,hb6⟩
 have HB6:=Lib.hid (below_top HB5.out hb6)
 have K6:=Lib.hid (K5.out.below hb6 K5.out.lt); have KF6:=Lib.hid (KF5.out.below hb6 KF5.out.lt)
 clear hb6 HWR HB5 K5 KF5 c0 c1 c2
 have c0:=KF6.out.cell 0; have c1:=KF6.out.cell 1; have c2:=KF6.out.cell 2
 have d0:=K6.out.cell 0; have d1:=K6.out.cell 1; have d2:=K6.out.cell 2
 have y0:=K6.out.frozen 0; have y1:=K6.out.frozen 1; have y2:=K6.out.frozen 2
 go_wp2_with fail
 have K7:=((K6.out.set_ 0 (.int .i64 f)).set_ 1 (.int .i64 z)).set_ 2 (.bool x)
 have e0:=K7.cell 0; have e1:=K7.cell 1; have e2:=K7.cell 2
 have hb7:Below w.heap.size w (((w6.setCell ⟨w.heap.size,0,none⟩ (.int .i64 f)).setCell ⟨w.heap.size,1,none⟩ (.int .i64 z)).setCell ⟨w.heap.size,2,none⟩ (.bool x)):=
  ((HB6.out.setCell (p:=⟨w.heap.size,0,none⟩) (Nat.le_refl _) _).setCell (p:=⟨w.heap.size,1,none⟩) (Nat.le_refl _) _).setCell (p:=⟨w.heap.size,2,none⟩) (Nat.le_refl _) _
 have HB7:=Lib.hid hb7
 clear hb7 c0 c1 c2 d0 d1 d2 y0 y1 y2 K7
 generalize ((w6.setCell ⟨w.heap.size,0,none⟩ (.int .i64 f)).setCell ⟨w.heap.size,1,none⟩ (.int .i64 z)).setCell ⟨w.heap.size,2,none⟩ (.bool x)=w7 at *
 refine bodyPost_ret ((results_cell_tmp rfl _ _ _).trans (by go_simp; rfl)) rfl ?_
 exact⟨rfl,HB7.out⟩
end
end
section
open Go.RowKit Go.Maps
theorem plainElem_string_inv5 {P:Program} {e:TypeId} (he:P.underlying e=some .string) {v:Value} {z:DataW Unit × List MemPlace} (h:plainElem P e v=some z):∃ s:ByteArray,v = .string s∧z=(.lit (.string s.data.toList),[]):=by
 unfold plainElem at h
 rw [he] at h
 cases v <;> simp at h
 obtain⟨hw,rfl⟩:=h
 exact⟨_,rfl,rfl⟩
theorem bytes_ext5 {s t:ByteArray} (h:s.data.toList=t.data.toList):s=t:=by
 cases s; cases t
 simp only at h
 congr 1
 exact Array.toList_inj.1 h
def MapT (w:World) (b n:Nat) (f:Nat→List Nat) (hs:Nat→Bool):Prop:=
 ∃ D:DataW Unit,IsMap D∧w.ownsMap Tryz.prog 38 (plainElem Tryz.prog 9) b n D∧(∀ x:Nat,x<4294967296→D.atKey (.int .u32 (x:Int)) (.lit (.string [])) = .lit (.string (txS (if hs x then f x else [])).data.toList))∧
   ∀ x:Nat,x<4294967296→Maps.has D (.int .u32 (x:Int))=hs x
section
variable {w w':World} {b n:Nat} {f:Nat→List Nat} {hs:Nat→Bool}
theorem MapT.made (w:World) (f:Nat→List Nat):MapT (w.alloc (.map #[] 0)) w.heap.size 0 f (fun _=>false):=
 ⟨.map [],⟨[],rfl⟩,World.ownsMap_made _ _ _ _,fun x _=>rfl,fun x _=>rfl⟩
theorem MapT.lt (h:MapT w b n f hs):b<w.heap.size:=by obtain⟨D,_,h,_⟩:=h; exact h.lt
theorem MapT.same (h:MapT w b n f hs) (he:w'.heap[b]? = w.heap[b]?):MapT w' b n f hs:=by
 obtain⟨D,hD,⟨es,clock,hb,r⟩,hf⟩:=h
 exact⟨D,hD,⟨es,clock,he.trans hb,r⟩,hf⟩
theorem MapT.below (h:MapT w b n f hs) (hb:Below w.heap.size w w'):MapT w' b n f hs:=h.same (hb.block b h.lt)
theorem MapT.obj (h:MapT w b n f hs):∃ es c,w.heap[b]? = some (.map es c):=by obtain⟨D,_,⟨es,clock,hb,r⟩,_⟩:=h; exact⟨es,clock,hb⟩
set_option maxRecDepth 100000 in
theorem MapT.look_ok (h:MapT w b n f hs) {x:Nat} (hx:x<4294967296):(Instr.lookup 122 (.map (some b)) (.int .u32 (x:Int)) true).run Tryz.prog w = .ok (.tuple #[.string (txS (if hs x then f x else [])),.bool (hs x)]) w:=by
 obtain⟨D,hD,ho,hf,hh⟩:=h
 obtain⟨v,ps,hrun,hv⟩:=ho.look_ok (int_keyed Tryz.underlying38) Tryz.underlying122 (show (zeroValue 9).run Tryz.prog w = .ok (.string ⟨#[]⟩) w by kernel_rfl) (zd:=.lit (.string [])) (zp:=[]) (plainElem_string Tryz.underlying9 (by decide)) (keyOf_int_mk Tryz.underlying38 (wf_u32 hx))
 obtain⟨s,rfl,hc⟩:=plainElem_string_inv5 Tryz.underlying9 hv
 rw [hf x hx] at hc
 simp only [Prod.mk.injEq,DataW.lit.injEq,Lit.string.injEq] at hc
 rw [bytes_ext5 hc.1,← hh x hx]
 exact hrun
set_option maxRecDepth 100000 in
theorem MapT.look (h:MapT w b n f hs) {x:Nat} (hx:x<4294967296) (hh:hs x=true):(Instr.lookup 122 (.map (some b)) (.int .u32 (x:Int)) false).run Tryz.prog w = .ok (.string (txS (f x))) w:=by
 obtain⟨D,hD,ho,hf,_⟩:=h
 obtain⟨v,ps,hrun,hv⟩:=ho.lookup (int_keyed Tryz.underlying38) Tryz.underlying122 (show (zeroValue 9).run Tryz.prog w = .ok (.string ⟨#[]⟩) w by kernel_rfl) (zd:=.lit (.string [])) (zp:=[]) (plainElem_string Tryz.underlying9 (by decide)) (keyOf_int_mk Tryz.underlying38 (wf_u32 hx))
 obtain⟨s,rfl,hc⟩:=plainElem_string_inv5 Tryz.underlying9 hv
 rw [hf x hx,if_pos hh] at hc
 simp only [Prod.mk.injEq,DataW.lit.injEq,Lit.string.injEq] at hc
 rw [bytes_ext5 hc.1]
 exact hrun
set_option maxRecDepth 100000 in
theorem MapT.put (h:MapT w b n f hs) {x:Nat} (hx:x<4294967296) (hl:(f x).length≤100000000) (hn:n<9223372036854775807):
 ∃ w',(Instr.mapUpdate 122 (.map (some b)) (.int .u32 (x:Int)) (.string (txS (f x)))).run Tryz.prog w = .ok () w'∧MapT w' b (n+1) f (fun y=>if y=x then true else hs y)∧w.grownBy w' (some b):=by
 obtain⟨D,hD,ho,hf,hh⟩:=h
 obtain⟨w',hrun,ho',hg⟩:=ho.update (int_keyed Tryz.underlying38) Tryz.underlying122 (by unfold maxLen; omega) (keyOf_int_mk Tryz.underlying38 (wf_u32 hx)) (plainElem_string Tryz.underlying9 (s:=txS (f x)) (by rw [txS_size]; unfold maxLen; omega))
 refine⟨w',hrun,⟨_,hD.put _ _,ho',fun y hy=>?_,fun y hy=>?_⟩,hg⟩
 ·by_cases hyx:y=x
  ·subst hyx
   simp only [if_true]
   exact atKey_put_same hD (show WideAt.IsKeyLit (.int .u32 (y:Int)) from trivial) _ _
  ·rw [atKey_put_other (by intro e; injection e with _ e; omega)]
   simp only [if_neg hyx]
   exact hf y hy
 ·show _=(if y=x then true else hs y)
  by_cases hyx:y=x
  ·subst hyx
   rw [if_pos rfl]
   exact has_put_same hD (show WideAt.IsKeyLit (.int .u32 (y:Int)) from trivial) _
  ·rw [if_neg hyx,has_put_other (by intro e; injection e with _ e; omega)]
   exact hh y hy
end
end
section
open Go.RowKit
attribute [local go_sem] Oper.semAt_some
theorem info_str5:(Tryz.prog.info? 9).map (fun i=>(i.zero,i.size,i.bytes))=some (some (.string ⟨#[]⟩),1,16):=by kernel_rfl
def strs5 (ts:List (List Nat)):List Value:=ts.map fun t=> .string (txS t)
theorem one_strs5 (ts:List (List Nat)):∀ u∈strs5 ts,u.oneCell'=true:=by
 intro u hu
 obtain⟨t,_,rfl⟩:=List.mem_map.1 hu
 rfl
def NamesR (xs:List (List Nat)) (E:Nat) (w:World) (e:Ending) (w':World):Prop:=
 ∃ A c,e = .returned (.tuple #[.slice A xs.length c,.int .i64 (E:Nat)])∧Below w.heap.size w w'∧w'.ownsRow w.heap.size 9 1 (.slice A xs.length c) xs.length (strs5 xs)
theorem own_type5 {w:World} {B B' n n':Nat} {e e':TypeId} {v v':Value} {xs xs':List Value} (h:w.ownsRow B e 1 v n xs) (h':w.ownsRow B' e' 1 v' n' xs') (hne:e≠e'):∀ k,v.ownBlock=some k→v'.ownBlock≠some k:=by
 intro k hk hk'
 rcases h.2 with ⟨rfl,-⟩ | ⟨g,cap,cur,rfl,h2,h3,-⟩
 ·cases hk
 rcases h'.2 with ⟨rfl,-⟩ | ⟨g',cap',cur',rfl,h2',h3',-⟩
 ·cases hk'
 injection hk with hk
 injection hk' with hk'
 subst hk hk'
 rw [h3] at h3'
 injection h3' with h3'
 injection h3' with e1 e2
 exact hne e2
theorem own_obj5 {w:World} {B n b:Nat} {e:TypeId} {v:Value} {xs:List Value} (h:w.ownsRow B e 1 v n xs) {es:Array MapEntry} {c:Nat} (hb:w.heap[b]? = some (.map es c)):v.ownBlock≠some b:=by
 intro hk
 rcases h.2 with ⟨rfl,-⟩ | ⟨g,cap,cur,rfl,h2,h3,-⟩
 ·cases hk
 injection hk with hk
 subst hk
 rw [h3] at hb
 cases hb
structure FldAt (h:HM) (w wr:World) (A:Option Addr) (cp:Nat) (l:List Nat) (bm cnt:Nat) (hs:Nat→Bool) (nv:Value) (names:List (List Nat)):Prop where
 below:Below w.heap.size w wr
 row:wr.ownsRow w.heap.size 38 1 (.slice A l.length cp) l.length (u32s l)
 map:MapT wr bm cnt h.bodyK hs
 bm:w.heap.size≤bm
 own:wr.ownsRow w.heap.size 9 1 nv names.length (strs5 names)
 good:∀ x,x<4294967296→hs x=true→h.bytesE x=0
section
variable {h:HM} {w wr wr':World} {A:Option Addr} {cp bm cnt:Nat} {l:List Nat} {hs:Nat→Bool} {nv v':Value} {names:List (List Nat)}
theorem FldAt.after (F:FldAt h w wr A cp l bm cnt hs nv names) (hb:Below wr.heap.size wr wr'):FldAt h w wr' A cp l bm cnt hs nv names:=
 ⟨below_top F.below hb,own_below5 F.row hb,F.map.below hb,F.bm,own_below5 F.own hb,F.good⟩
theorem FldAt.put (F:FldAt h w wr A cp l bm cnt hs nv names) {hs':Nat→Bool} (hM:MapT wr' bm (cnt+1) h.bodyK hs') (hg:wr.grownBy wr' (some bm)) (hgd:∀ x,x<4294967296→hs' x=true→h.bytesE x=0):FldAt h w wr' A cp l bm (cnt+1) hs' nv names:=by
 obtain⟨es,c,ho⟩:=F.map.obj
 refine⟨below_grow5 F.below hg (fun q hq=>by injection hq with hq; subst hq; exact F.bm) F.below.size,?_,hM,F.bm,?_,hgd⟩
 ·exact ownU_keep F.row fun k hk=>hg.block k (F.row.lt k hk).2 (fun q=>own_obj5 F.row ho (hk.trans q))
 ·exact ownU_keep F.own fun k hk=>hg.block k (F.own.lt k hk).2 (fun q=>own_obj5 F.own ho (hk.trans q))
theorem FldAt.app {wa:World} {t:List Nat} (F:FldAt h w wr A cp l bm cnt hs nv names) (ha:Below wr.heap.size wr wa) (hown:wr'.ownsRow w.heap.size 9 1 v' (names.length+1) (strs5 names++strs5 [t])) (hg:wa.grownBy wr' nv.ownBlock):FldAt h w wr' A cp l bm cnt hs v' (names++[t]):=by
 have F2:=F.after ha
 obtain⟨es,c,ho⟩:=F2.map.obj
 refine⟨below_grow5 F2.below hg (fun q hq=>(F2.own.lt q hq).1) F2.below.size,?_,?_,F.bm,?_,F.good⟩
 ·exact ownU_keep F2.row fun k hk=>hg.block k (F2.row.lt k hk).2 (fun q=>own_type5 F2.row F2.own (by decide) k hk q.symm)
 ·exact F2.map.same (hg.block bm F2.map.lt (fun q=>own_obj5 F2.own ho q.symm))
 ·rw [List.length_append]
  unfold strs5 at hown ⊢
  rw [List.map_append]
  exact hown
end
theorem namesK_snoc (h:HM) (l:List Nat) (o:Nat):h.namesK (l++[o])=h.namesStep (h.namesK l) o:=by unfold HM.namesK; rw [List.foldl_append]; rfl
theorem namesK_stop (h:HM) (l:List Nat) (E:Nat) (hE:E≠0):∀ m,h.namesK l=([],E)→h.namesK (l++m)=([],E):=by
 intro m hl
 unfold HM.namesK at hl ⊢
 rw [List.foldl_append,hl]
 clear hl
 induction m with
 | nil=>rfl
 | cons o m ih=>
   rw [List.foldl_cons]
   have:h.namesStep ([],E) o=([],E):=by unfold HM.namesStep; rw [if_pos hE]
   rw [this]
   exact ih
theorem names_next {l:List Nat} {j:Nat} (hj:j<l.length):(l.drop j).reverse=(l.drop (j+1)).reverse++[l.getD j 0]:=by
 rw [List.drop_eq_getElem_cons hj,List.reverse_cons,List.getD_eq_getElem?_getD,List.getElem?_eq_getElem hj]
 rfl
theorem names_all (l:List Nat) (j:Nat):l.reverse=(l.drop j).reverse++(l.take j).reverse:=by
 rw [← List.reverse_append,List.take_append_drop]
end
end Go.Proofs.YtdoahpflemgaeaaGreatDoor
