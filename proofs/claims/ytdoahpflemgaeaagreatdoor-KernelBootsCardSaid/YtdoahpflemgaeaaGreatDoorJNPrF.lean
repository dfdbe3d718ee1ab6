import Derived.Test.YtdoahpflemgaeaaGreatDoorJNTxt
import Derived.Test.YtdoahpflemgaeaaGreatDoorJNKp
import Derived.Deep.CutBlock
set_option linter.unusedVariables false
set_option linter.unusedSimpArgs false
set_option linter.unusedSectionVars false
namespace Go.Proofs.YtdoahpflemgaeaaGreatDoor
section
open Go.RowKit
attribute [local go_sem] Oper.semAt_some
theorem sizK_no {h:HM} {a:Nat} (hi:h.isB a=false):h.sizK a=0:=by unfold HM.sizK HM.hdO; rw [hi]; rfl
theorem AllocE_lt (h:HM) (c:Nat) (f n:Int):h.AllocE c f n≤4:=by
 unfold HM.AllocE
 split
 ·exact h.allocE_le _
 ·omega
theorem AllocO_lt {h:HM} (f:h.Fit) (c:Nat) (t n:Int):h.AllocO c t n<4294967296:=by
 unfold HM.AllocO
 have h1:=f.room
 have h2:=f.hi
 split <;> omega
section
variable {W w:World} {p:HP} {g:Nat} {h:HM} (L:Live W w p g h)
include L
set_option maxHeartbeats 4000000 in
theorem kgrown_any (a:Nat) (ha:a<4294967296) (n:Nat) (hn:n≤1000000):
 Calls Tryz.prog 138 #[.pointer (some ⟨g,0,none⟩),.int .u32 a,.int .i64 n] w (Done W p g (h.grownK a n).1 (.tuple #[.int .u32 ((h.grownK a n).2.1:Nat),.int .i64 ((h.grownK a n).2.2:Nat)]) w):=by
 have HL:=Lib.hid L
 have HI:=Lib.hid (L.is a ha)
 have hsz:=sizK_lt L.fit a
 have HSZ:=Lib.hid (fun (w1:World) (hb:Below w.heap.size w w1)=>ksize_any (L.after hb) a ha)
 have HG:=Lib.hid (show h.grownK a n=if h.sizK a=65535 then (h,0,4)
  else if h.AllocE (h.rt 20) 1 (min n 65535:Nat)≠0 then (h,0,h.AllocE (h.rt 20) 1 (min n 65535:Nat))
  else ((h.AllocH (h.rt 20) 1 (min n 65535:Nat)).copyK (2*h.words.length) (h.fldK a) (h.sizK a),2*h.words.length,0) from rfl)
 have HNO:=Lib.hid (fun hi:h.isB a=false=>sizK_no hi)
 obtain⟨S,hS⟩ :∃ S,S=h.sizK a:=⟨_,rfl⟩
 have HS:=Lib.hid hS
 rw [← hS] at hsz HSZ HG HNO
 clear L hS
 go_enter Tryz.func138,Tryz.ntmps138
 go_upto_region 2 with fail
 go_wp2_with fail
 refine HI.out.mono ?_
 rintro e w0 ⟨rfl,rfl⟩
 go_upto_if 14 with fail
 go_cut [8] (fun v wx=>v = .int .i64 S∧Below w.heap.size w wx)
 case first=>
  cases hi:h.isB a with
  | false=>
    have hS0:=HNO.out hi
    subst hS0
    clear HI HSZ HG HNO HS hi
    go_wp2_with fail
    go_meet
    exact⟨rfl,Below.refl _ _⟩
  | true=>
    have HS1:=Lib.hid (HSZ.out w (Below.refl _ _))
    clear HI HSZ HG HNO HS hi
    go_wp2_with fail
    refine HS1.out.mono ?_
    rintro e w1 ⟨rfl,hb1⟩
    have HB1:=Lib.hid hb1
    clear hb1 HS1
    go_wp2_with fail
    go_meet
    exact⟨rfl,HB1.out⟩
 case rest=>
  obtain⟨rfl,hbc⟩:=hcut
  have HLc:=Lib.hid (HL.out.after hbc)
  have HBc:=Lib.hid hbc
  clear hbc HI HSZ HNO HL
  by_cases hmx:S=65535
  ·have HG2:=Lib.hid (show h.grownK a n=(h,0,4) from by rw [HG.out,if_pos hmx])
   subst hmx
   clear HG
   go_wp2_with fail
   go_ret2
   rw [HG2.out]
   exact⟨p,rfl,HLc.out,Step.of_below HBc.out⟩
  ·have hq:((S:Int) == 65535)=false:=by simp; omega
   have hqi:¬ ((S:Int)=65535):=by omega
   have HG2:=Lib.hid (HG.out.trans (if_neg hmx))
   have HR:=Lib.hid (kroot_any HLc.out 20)
   have hr20:h.rootN 20=h.rt 20:=rootN_rt h (i:=20) (by omega)
   rw [hr20] at HR
   have hc32:h.rt 20<4294967296:=by rw [← hr20]; exact HLc.out.fit.rtN 20
   obtain⟨m,hm⟩ :∃ m,m=min n 65535:=⟨_,rfl⟩
   have hmin:min (n:Int) 65535=(m:Int):=by omega
   rw [← hm] at HG2
   have HAL:=Lib.hid (HLc.out.alloc (h.rt 20) hc32 1 (m:Int))
   have hE4:=AllocE_lt h (h.rt 20) 1 (m:Int)
   have HAH:=Lib.hid (fun h0:h.AllocE (h.rt 20) 1 (m:Int)≠0=>show h.AllocH (h.rt 20) 1 (m:Int)=h from by rw [HM.AllocH_eq,if_neg h0])
   have HAO:=Lib.hid (fun h0:h.AllocE (h.rt 20) 1 (m:Int)=0=>show h.AllocO (h.rt 20) 1 (m:Int)=2*h.words.length from by unfold HM.AllocO; rw [if_pos h0])
   obtain⟨E,hE⟩ :∃ E,E=h.AllocE (h.rt 20) 1 (m:Int):=⟨_,rfl⟩
   have HEE:=Lib.hid hE
   obtain⟨O,hO⟩ :∃ O,O=h.AllocO (h.rt 20) 1 (m:Int):=⟨_,rfl⟩
   have hO32:O<4294967296:=by rw [hO]; exact AllocO_lt HLc.out.fit _ _ _
   rw [← hE] at HAL HG2 HAH HAO hE4
   rw [← hO] at HAL HAO
   have HC32:=Lib.hid hc32
   clear hE hO HG hr20 hm hc32 hmx
   go_wp2_with fail
   refine HR.out.mono ?_
   rintro e w1 ⟨rfl,rfl⟩
   go_wp2_with fail
   refine HAL.out.mono ?_
   rintro e w1 ⟨p1,rfl,L1,s1⟩
   have HL1:=Lib.hid L1
   have HS1:=Lib.hid ((Step.of_below HBc.out).trans s1)
   clear L1 s1 HAL HR HBc
   by_cases hE0:E=0
   rotate_left
   ·have hne:((E:Int) != 0)=true:=by simp; omega
    have hnei:¬ ((E:Int)=0):=by omega
    have HG3:=Lib.hid (HG2.out.trans (if_pos hE0))
    have hh:=HAH.out hE0
    have HL2:=Lib.hid (show Live W w1 p1 g h from by have:=HL1.out; rw [hh] at this; exact this)
    clear HG2 HAH HAO hh HL1 hE0
    go_wp2_with fail
    go_ret2
    rw [HG3.out]
    exact⟨p1,rfl,HL2.out,HS1.out⟩
   ·have hO:=HAO.out hE0
    subst hE0
    have HG3:=Lib.hid (HG2.out.trans (if_neg (fun q=>q rfl)))
    have HH1:=Lib.hid (show h.grownK a n=((h.AllocH (h.rt 20) 1 (m:Int)).copyK O (h.fldK a) S,O,0) from by rw [hO,HS.out]; exact HS.out ▸ HG3.out)
    have HCP:=Lib.hid (fun (k i:Nat) (hk:k<S)=>show ((h.AllocH (h.rt 20) 1 (m:Int)).copyK O (h.fldK a) k).fldK a i=h.fldK a i from by
     obtain⟨l,G⟩:=HLc.out.good
     rw [hO]
     have hi:h.isB a=true:=by
      cases q:h.isB a with
      | true=>rfl
      | false=>have:=sizK_no q; rw [← HS.out] at this; omega
     exact copy_fld G HC32.out HEE.out.symm hi _ (fun i=>fld_lt G.fit a i) k i)
    clear HG2 HAH HAO hO HG3 HEE
    have HFL:=Lib.hid (fun i=>fld_lt HLc.out.fit a i)
    generalize h.AllocH (h.rt 20) 1 (m:Int)=h1 at *
    go_wp2_with fail
    go_loopw [33] (fun i wr=>∃ (k:Nat) (p':HP),i = .int .i64 k∧k≤S∧Live W wr p' g (h1.copyK O (h.fldK a) k)∧Step p p' w wr) (fun i _=>S-(intOf i).toNat)
    case atStart=>exact⟨0,p1,rfl,Nat.zero_le _,HL1.out,HS1.out⟩
    case round=>
     clear HL1 HS1
     obtain⟨k,p2,rfl,hk,L2,s2⟩:=hrel
     by_cases hkn:k<S
     ·have hd:decide ((k:Int)<(S:Int))=true:=by simp; omega
      have HFK:=Lib.hid (kfield_any L2 a ha k)
      rw [HCP.out k k hkn] at HFK
      have HPT:=Lib.hid (fun (w3:World) (hb:Below wr.heap.size wr w3)=>(L2.after hb).put O hO32 (k:Int) (h.fldK a k) (HFL.out k))
      rw [← copy_succ] at HPT
      have HS2:=Lib.hid s2
      clear L2 s2
      generalize h.fldK a k=v at *
      go_wp2_with fail
      refine HFK.out.mono ?_
      rintro e w3 ⟨rfl,hb3⟩
      have HP3:=Lib.hid (HPT.out w3 hb3)
      have HS3:=Lib.hid (HS2.out.below' hb3)
      clear HPT HFK HS2 hb3
      go_wp2_with fail
      refine HP3.out.mono ?_
      rintro e w4 ⟨p4,rfl,L4,s4⟩
      have HL4:=Lib.hid L4
      have HS4:=Lib.hid (HS3.out.trans s4)
      clear L4 s4 HP3 HS3
      go_wp2_with fail
      go_roundw
      case rel=>exact⟨k+1,p4,by go_num,by omega,HL4.out,HS4.out⟩
      case measure=>simp [intOf]; omega
     ·obtain rfl:k=S:=by omega
      have hd:decide ((k:Int)<(k:Int))=false:=by simp
      have HL2:=Lib.hid L2
      have HS2:=Lib.hid s2
      clear L2 s2
      go_wp2_with fail
      go_ret2
      rw [HH1.out]
      exact⟨p2,rfl,HL2.out,HS2.out⟩
end
end
section
open Go.RowKit
attribute [local go_sem] Oper.semAt_some
theorem used_le (h:HM) (a:Nat):h.usedK a≤h.sizK a:=by
 unfold HM.usedK
 have:=List.findIdx_le_length (xs:=List.range (h.sizK a)) (p:=fun i:Nat=>decide (h.lookE a i [1,4]≠0) || decide (h.readN a i [1,4]=h.rt 0))
 rw [List.length_range] at this
 exact this
theorem grown_new {h:HM} {l:List Ob} (G:h.Good l) {a n:Nat} (h0:(h.grownK a n).2.2=0):
 h.AllocE (h.rt 20) 1 (min n 65535:Nat)=0∧h.grownK a n=((h.AllocH (h.rt 20) 1 (min n 65535:Nat)).copyK (2*h.words.length) (h.fldK a) (h.sizK a),2*h.words.length,0)∧
 (∃ l',(h.grownK a n).1.Good l')∧Kp h (h.grownK a n).1∧(h.grownK a n).1.ptrsK (2*h.words.length) 0=true∧(h.grownK a n).1.sizK (2*h.words.length)=min n 65535:=by
 have hG:h.grownK a n=if h.sizK a=65535 then (h,0,4)
  else if h.AllocE (h.rt 20) 1 (min n 65535:Nat)≠0 then (h,0,h.AllocE (h.rt 20) 1 (min n 65535:Nat))
  else ((h.AllocH (h.rt 20) 1 (min n 65535:Nat)).copyK (2*h.words.length) (h.fldK a) (h.sizK a),2*h.words.length,0):=rfl
 have hc:h.rt 20<4294967296:=G.fit.root 20
 by_cases h1:h.sizK a=65535
 ·rw [hG,if_pos h1] at h0; exact absurd h0 (by show ¬ (_:Nat)=0; simp)
 rw [if_neg h1] at hG
 by_cases h2:h.AllocE (h.rt 20) 1 (min n 65535:Nat)=0
 rotate_left
 ·rw [hG,if_pos h2] at h0; exact absurd h0 h2
 rw [if_neg (fun q=>q h2)] at hG
 obtain⟨l1,G1⟩:=G.AllocH (h.rt 20) 1 (min n 65535:Nat) hc
 obtain⟨a1,a2,a3,-⟩:=alloc_new G hc h2
 have K1:Kp h (h.AllocH (h.rt 20) 1 (min n 65535:Nat)):=by rw [alloc_push h2]; exact Kp.push G _ _
 obtain⟨⟨l2,G2⟩,K2,-⟩:=copy_good G1 (2*h.words.length) (h.fldK a) (fun i=>fld_lt G.fit a i) (h.sizK a)
 refine⟨h2,hG,?_,?_,?_,?_⟩
 ·rw [hG]; exact⟨l2,G2⟩
 ·rw [hG]; exact K1.trans K2
 ·rw [hG]
  show HM.ptrsK _ _ 0=true
  rw [K2.ptrs a1]
  unfold HM.ptrsK
  rw [a1,a2]
  simp
 ·rw [hG]
  show HM.sizK _ _=_
  rw [K2.siz a1]
  unfold HM.sizK HM.hdO
  rw [if_pos a1,a3]
  simp
section
variable {W w:World} {p:HP} {g:Nat} {h:HM} (L:Live W w p g h)
include L
set_option maxHeartbeats 4000000 in
theorem kput_any (r:Nat) (hr:r<64) (o:Nat) (ho:o<4294967296) (hp:h.ptrsK (h.rt r) 0=true) (hv:h.valB o=true):
 Calls Tryz.prog 92 #[.pointer (some ⟨g,0,none⟩),.int .i64 r,.int .u32 o] w (Done W p g (h.addK r o).1 (.int .i64 ((h.addK r o).2:Nat)) w):=by
 have HL:=Lib.hid L
 have HR:=Lib.hid (kroot_any L r)
 rw [rootN_rt h hr] at HR
 have ha:h.rt r<4294967296:=L.fit.root r
 obtain⟨a,haa⟩ :∃ a,a=h.rt r:=⟨_,rfl⟩
 have HAA:=Lib.hid haa
 rw [← haa] at HR ha hp
 have HU:=Lib.hid (fun (w1:World) (hb:Below w.heap.size w w1)=>kused_any (L.after hb) a ha)
 have HS:=Lib.hid (fun (w1:World) (hb:Below w.heap.size w w1)=>ksize_any (L.after hb) a ha)
 obtain⟨l,G⟩:=L.good
 have hs65:h.sizK a≤65535:=by
  obtain⟨q1,q2,q3,q4⟩:=sizK_of hp
  rw [q4]
  exact size_le G q1
 have hul:=used_le h a
 rw [used_ent hp] at hul HU
 have HADD:=Lib.hid (show h.addK r o=if (h.entK a).length=h.sizK a then
  if (h.grownK a (max 1 (2*h.sizK a))).2.2≠0 then (h,(h.grownK a (max 1 (2*h.sizK a))).2.2)
  else (((h.grownK a (max 1 (2*h.sizK a))).1.setRootH r (h.grownK a (max 1 (2*h.sizK a))).2.1).putH (h.grownK a (max 1 (2*h.sizK a))).2.1 (h.entK a).length o,0)
 else (h.putH a (h.entK a).length o,0) from by rw [haa]; rfl)
 have HPN:=Lib.hid (fun (hlt:(h.entK a).length<h.sizK a)=>putE_ok hp hlt hv)
 have HGN:=Lib.hid (fun (n:Nat) (h0:(h.grownK a n).2.2=0)=>grown_new G h0)
 have HGR:=Lib.hid (fun (n:Nat) (hn:n≤1000000) (w1:World) (hb:Below w.heap.size w w1)=>kgrown_any (L.after hb) a ha n hn)
 have HPT:=Lib.hid (fun (w1:World) (hb:Below w.heap.size w w1) (i:Int)=>(L.after hb).put a ha i o ho)
 have HMX:=Lib.hid (fun (m:Nat) (hq:h.sizK a=65535)=>show (h.grownK a m).2.2=4 from by unfold HM.grownK; rw [if_pos hq])
 have HV:=Lib.hid hv
 have HO:=Lib.hid ho
 have hl31:=L.fit.hi
 have hl32:=L.fit.room
 clear L G haa hp hv ho
 obtain⟨n,hn⟩ :∃ n,n=(h.entK a).length:=⟨_,rfl⟩
 obtain⟨S,hS⟩ :∃ S,S=h.sizK a:=⟨_,rfl⟩
 rw [← hn] at hul HU HADD HPN
 rw [← hS] at hs65 hul HS HADD HPN HMX
 clear hn hS
 go_enter Tryz.func92,Tryz.ntmps92
 go_wp2_with fail
 refine HR.out.mono ?_
 rintro e w1 ⟨rfl,rfl⟩
 have HU1:=Lib.hid (HU.out w (Below.refl _ _))
 clear HU HR
 go_wp2_with fail
 refine HU1.out.mono ?_
 rintro e w1 ⟨rfl,hb1⟩
 have HS1:=Lib.hid (HS.out w1 hb1)
 have HB1:=Lib.hid hb1
 clear hb1 HU1 HS
 go_wp2_with fail
 refine HS1.out.mono ?_
 rintro e w2 ⟨rfl,hb2⟩
 have HB2:=Lib.hid (below_top HB1.out hb2)
 clear hb2 HS1 HB1
 by_cases hfull:n=S
 rotate_left
 ·have hq:((n:Int) == (S:Int))=false:=by simp; omega
  have hqi:¬ ((n:Int)=(S:Int)):=by omega
  have HA2:=Lib.hid (HADD.out.trans (if_neg hfull))
  have hE:=HPN.out (by omega)
  have HP2:=Lib.hid (HPT.out w2 HB2.out (n:Int))
  rw [hE] at HP2
  clear HADD HPN HGN HGR HPT hE hfull
  go_wp2_with fail
  refine HP2.out.mono ?_
  rintro e w3 ⟨p3,rfl,L3,s3⟩
  have HL3:=Lib.hid L3
  have HS3:=Lib.hid ((Step.of_below HB2.out).trans s3)
  clear L3 s3 HP2
  go_wp2_with fail
  go_ret
  rw [HA2.out]
  exact⟨p3,rfl,HL3.out,HS3.out⟩
 ·have hq:((n:Int) == (S:Int))=true:=by simp; omega
  have HA2:=Lib.hid (HADD.out.trans (if_pos hfull))
  have hw1:wrap64 (2*(n:Int))=2*(n:Int):=IntWalk.wrap64_in _ (by omega)
  obtain⟨m,hm⟩ :∃ m,m=max 1 (2*S):=⟨_,rfl⟩
  have hmax:max 1 (2*(n:Int))=(m:Int):=by omega
  have hm1:S<min m 65535∨S=65535:=by omega
  rw [← hm] at HA2
  have HG2:=Lib.hid (HGR.out m (by omega) w2 HB2.out)
  have HGM:=Lib.hid (HGN.out m)
  clear HADD HPN HGN HGR HPT hm
  by_cases hE:(h.grownK a m).2.2=0
  rotate_left
  ·have HA3:=Lib.hid (HA2.out.trans (if_pos hE))
   have hgh:(h.grownK a m).1=h:=by
    unfold HM.grownK at hE ⊢
    split
    ·rfl
    ·rename_i q1
     rw [if_neg q1] at hE
     split
     ·rfl
     ·rename_i q2
      rw [if_neg q2] at hE
      exact absurd rfl hE
   rw [hgh] at HG2
   obtain⟨E,hEE⟩ :∃ E,E=(h.grownK a m).2.2:=⟨_,rfl⟩
   rw [← hEE] at HG2 HA3 hE
   generalize (h.grownK a m).2.1=b at *
   have hne:((E:Int) != 0)=true:=by simp; omega
   have hnei:¬ ((E:Int)=0):=by omega
   clear HA2 HGM hgh hEE hE hfull
   go_wp2_with fail
   refine HG2.out.mono ?_
   rintro e w3 ⟨p3,rfl,L3,s3⟩
   have HL3:=Lib.hid L3
   have HS3:=Lib.hid ((Step.of_below HB2.out).trans s3)
   clear L3 s3 HG2
   go_wp2_with fail
   go_ret
   rw [HA3.out]
   exact⟨p3,rfl,HL3.out,HS3.out⟩
  ·obtain⟨k1,k2,k3,k4,k5,k6⟩:=HGM.out hE
   have hb:(h.grownK a m).2.1=2*h.words.length:=by rw [k2]
   have HA3:=Lib.hid (HA2.out.trans (if_neg (fun q=>q hE)))
   rw [hE,hb] at HG2
   rw [hb] at HA3
   have hSl:S<min m 65535:=by
    rcases hm1 with q | q
    ·exact q
    ·have:=HMX.out m q
     omega
   clear hb k2
   obtain⟨b,hbb⟩ :∃ b,b=2*h.words.length:=⟨_,rfl⟩
   have hb32:b<4294967296:=by omega
   rw [← hbb] at HG2 HA3 k5 k6
   generalize (h.grownK a m).1=h1 at *
   have K2:Kp h1 (h1.setRootH r b):=Kp.setRoot _ _
   have hbB:=(sizK_of k5).1
   have hpe:(h1.setRootH r b).putE b (n:Int) o=0:=putE_ok (by rw [K2.ptrs hbB]; exact k5) (by rw [K2.siz hbB,k6]; omega) (K2.val (k4.val HV.out))
   have HPE:=Lib.hid hpe
   clear HA2 HGM hE hbb k1 k3 k4 k5 k6 K2 hbB hpe hm1 hSl hfull
   go_wp2_with fail
   refine HG2.out.mono ?_
   rintro e w3 ⟨p3,rfl,L3,s3⟩
   have HR3:=Lib.hid (L3.setRoot (r:Int) b hb32)
   have HS3:=Lib.hid ((Step.of_below HB2.out).trans s3)
   clear L3 s3 HG2 HB2
   go_wp2_with fail
   refine HR3.out.mono ?_
   rintro e w4 ⟨p4,rfl,L4,s4⟩
   have HP4:=Lib.hid (L4.put b hb32 (n:Int) o HO.out)
   rw [HPE.out] at HP4
   have HS4:=Lib.hid (HS3.out.trans s4)
   clear L4 s4 HR3 HS3
   go_wp2_with fail
   refine HP4.out.mono ?_
   rintro e w5 ⟨p5,rfl,L5,s5⟩
   have HL5:=Lib.hid L5
   have HS5:=Lib.hid (HS4.out.trans s5)
   clear L5 s5 HP4 HS4
   go_wp2_with fail
   go_ret
   rw [HA3.out]
   exact⟨p5,rfl,HL5.out,HS5.out⟩
end
end
section
open Go.RowKit
attribute [local go_sem] Oper.semAt_some
structure StepB (p p':HP) (bx:Nat) (w w':World):Prop where
 os:w'.os=w.os
 tape:w'.tape=w.tape
 output:w'.output=w.output
 size:w.heap.size≤w'.heap.size
 block:∀ k,k<w.heap.size→¬ p.has k→k≠bx→w'.heap[k]? = w.heap[k]?
 g:p'.g=p.g
 rows:∀ k,p'.has k→p.has k∨w.heap.size≤k
section
variable {p p' p'':HP} {bx:Nat} {w w' w'' W:World}
theorem StepB.of_step (a:Step p p' w w'):StepB p p' bx w w':=⟨a.os,a.tape,a.output,a.size,fun k h1 h2 _=>a.block k h1 h2,a.g,a.rows⟩
theorem StepB.trans (a:StepB p p' bx w w') (b:StepB p' p'' bx w' w''):StepB p p'' bx w w'':=by
 refine⟨b.os.trans a.os,b.tape.trans a.tape,b.output.trans a.output,Nat.le_trans a.size b.size,fun k hk hn hx=>?_,b.g.trans a.g,fun k hk=>?_⟩
 ·rw [b.block k (by have:=a.size; omega) (fun hp=>?_) hx,a.block k hk hn hx]
  rcases a.rows k hp with h | h
  ·exact hn h
  ·omega
 ·rcases b.rows k hk with h | h
  ·exact a.rows k h
  ·exact .inr (by have:=a.size; omega)
theorem StepB.setBox (a:StepB p p' bx w w') (i:Nat) (v:Value):StepB p p' bx w (w'.setCell ⟨bx,i,none⟩ v):=
 ⟨a.os,a.tape,a.output,by have:=a.size; simp [World.setCell]; exact this,fun k h1 h2 h3=>(Below.heap_setCell w' ⟨bx,i,none⟩ v k h3).trans (a.block k h1 h2 h3),a.g,a.rows⟩
theorem StepB.step (hb:Below W.heap.size W w) (a:StepB p p' bx w w') (hp:∀ k,p.has k→k<W.heap.size) (hx:W.heap.size≤bx):Step p p' W w':=
 ⟨a.os.trans hb.os,a.tape.trans hb.tape,a.output.trans hb.output,Nat.le_trans hb.size a.size,fun k h1 h2=>(a.block k (by have:=hb.size; omega) h2 (by omega)).trans (hb.block k h1),a.g,fun k hk=>(a.rows k hk).imp id (fun h=>by have:=hb.size; omega)⟩
end
section
variable {W w:World} {p:HP} {g:Nat} {h:HM} (L:Live W w p g h)
include L
set_option maxRecDepth 100000 in
set_option maxHeartbeats 4000000 in
theorem kundoI_any (b1 b2 b3:Nat) (bx:Nat) (hbx:bx<w.heap.size) (R:Nat→HM→World→Prop)
 (hcl:∀ w1,Below w.heap.size w w1→Calls Tryz.prog 135 #[.pointer (some ⟨b1,0,none⟩),.pointer (some ⟨b2,0,none⟩),.pointer (some ⟨b3,0,none⟩)] w1 (fun e w'=>∃ (E:Nat) (h':HM) (p':HP),e = .returned (.int .i64 E)∧Live W w' p' g h'∧StepB p p' bx w1 w'∧h'.size=h.size∧R E h' w')):
 Calls Tryz.prog 70 #[.pointer (some ⟨g,0,none⟩),.func (.func 135) #[] #[.pointer (some ⟨b1,0,none⟩),.pointer (some ⟨b2,0,none⟩),.pointer (some ⟨b3,0,none⟩)]] w (fun e w'=>∃ (E:Nat) (h':HM) (p':HP),e = .returned (.int .i64 E)∧Live W w' p' g h'∧StepB p p' bx w w'∧(E≠0→h'=h)∧(∃ h1 w1,R E h1 w1∧(E=0→h1=h'∧w1=w'))):=by
 have HL:=Lib.hid L
 have HW:=Lib.hid L.words
 have HCL:=Lib.hid hcl
 have HNP:=Lib.hid (show ∀ k,w.heap.size≤k→¬ p.has k from fun k hk hp=>by have:=L.at_.lt hp; omega)
 have hwl:(u32s h.words).length=h.words.length:=u32s_len _
 have hrl:(u32s h.roots).length=h.roots.length:=u32s_len _
 have hl1:=L.fit.hi
 have hl2:=L.fit.room
 have HL3:=Lib.hid L.fit.roots
 clear L hcl
 go_enter Tryz.func70,Tryz.ntmps70
 go_wp2_with fail
 refine HW.out.mono ?_
 rintro e w1 ⟨g1,c1,rfl,r1,hg1,hb1⟩
 have HR:=Lib.hid (HL.out.after hb1).roots
 have HB1:=Lib.hid hb1
 have HRW1:=Lib.hid r1
 rw [hwl]
 clear hb1 r1 HW
 go_wp2_with fail
 refine HR.out.mono ?_
 rintro e w2 ⟨g2,c2,rfl,r2,hg2,hb2⟩
 have HB2:=Lib.hid (below_top HB1.out hb2)
 have HRW2:=Lib.hid (HRW1.out.below hb2)
 have HRR2:=Lib.hid r2
 have HLA:=Lib.hid (HL.out.after HB2.out).last
 have hg2':w.heap.size≤g2:=by have:=HB1.out.size; omega
 rw [hrl]
 clear hb2 r2 HR HB1 HRW1
 go_wp2_with fail
 refine HLA.out.mono ?_
 rintro e w3 ⟨rfl,rfl⟩
 have HC:=Lib.hid (HCL.out w2 HB2.out)
 clear HCL HLA
 go_wp2_with fail
 refine HC.out.mono ?_
 rintro e w4 ⟨E,h1,p1,rfl,L1,s1,hz,hR⟩
 have HS4:=Lib.hid ((StepB.of_step (Step.of_below HB2.out)).trans s1)
 have HR4:=Lib.hid hR
 by_cases hE:E=0
 ·subst hE
  have HL4:=Lib.hid L1
  clear L1 s1 hz hR HC HRW2 HRR2 HNP
  go_wp2_with fail
  go_ret
  exact⟨0,h1,p1,rfl,HL4.out,HS4.out,fun q=>absurd rfl q,h1,w4,HR4.out,fun _=>⟨rfl,rfl⟩⟩
 ·have hne:((E:Int) != 0)=true:=by simp; omega
  have hnei:¬ ((E:Int)=0):=by omega
  obtain⟨l,G⟩:=HL.out.good
  obtain⟨q1,q2⟩:=G.load_self (h0:=h1) hz
  have hw2:w.heap.size≤w2.heap.size:=HB2.out.size
  have rw4:=HRW2.out.same (s1.block g1 HRW2.out.lt (HNP.out g1 hg1) (by omega))
  have rr4:=HRR2.out.same (s1.block g2 HRR2.out.lt (HNP.out g2 hg2') (by omega))
  have rdw:=rw4.reads rw4.lt
  have rdr:=rr4.reads rr4.lt
  rw [hwl] at rdw
  rw [hrl] at rdr
  have HLD:=Lib.hid (L1.load (some ⟨g1,0,none⟩) h.words.length c1 h.words (by omega) rdw G.fit.w32 (some ⟨g2,0,none⟩) h.roots.length c2 h.roots (by have:=HL3.out; omega) rdr G.fit.r32 h.last G.fit.l32)
  rw [q1,q2] at HLD
  have HE:=Lib.hid hE
  clear L1 s1 hz hR HC HRW2 HRR2 HNP rw4 rr4 rdw rdr G q1 q2 hE
  go_wp2_with fail
  refine HLD.out.mono ?_
  rintro e w5 ⟨p5,rfl,L5,s5⟩
  have HL5:=Lib.hid L5
  have HS5:=Lib.hid (HS4.out.trans (StepB.of_step s5))
  clear L5 s5 HLD HS4
  go_wp2_with fail
  go_ret
  exact⟨E,h,p5,rfl,HL5.out,HS5.out,fun _=>rfl,h1,w4,HR4.out,fun q=>absurd q HE.out⟩
end
end
section
open Go.RowKit
attribute [local go_sem] Oper.semAt_some
section
variable {W w:World} {p:HP} {g:Nat} {h:HM} (L:Live W w p g h)
include L
set_option maxRecDepth 100000 in
set_option maxHeartbeats 4000000 in
theorem kundoG_any (b1 b2 b3 b4:Nat) (bx:Nat) (hbx:bx<w.heap.size) (R:Nat→HM→World→Prop)
 (hcl:∀ w1,Below w.heap.size w w1→Calls Tryz.prog 91 #[.pointer (some ⟨b1,0,none⟩),.pointer (some ⟨b2,0,none⟩),.pointer (some ⟨b3,0,none⟩),.pointer (some ⟨b4,0,none⟩)] w1 (fun e w'=>∃ (E:Nat) (h':HM) (p':HP),e = .returned (.int .i64 E)∧Live W w' p' g h'∧StepB p p' bx w1 w'∧h'.size=h.size∧R E h' w')):
 Calls Tryz.prog 70 #[.pointer (some ⟨g,0,none⟩),.func (.func 91) #[] #[.pointer (some ⟨b1,0,none⟩),.pointer (some ⟨b2,0,none⟩),.pointer (some ⟨b3,0,none⟩),.pointer (some ⟨b4,0,none⟩)]] w (fun e w'=>∃ (E:Nat) (h':HM) (p':HP),e = .returned (.int .i64 E)∧Live W w' p' g h'∧StepB p p' bx w w'∧(E≠0→h'=h)∧(∃ h1 w1,R E h1 w1∧(E=0→h1=h'∧w1=w'))):=by
 have HL:=Lib.hid L
 have HW:=Lib.hid L.words
 have HCL:=Lib.hid hcl
 have HNP:=Lib.hid (show ∀ k,w.heap.size≤k→¬ p.has k from fun k hk hp=>by have:=L.at_.lt hp; omega)
 have hwl:(u32s h.words).length=h.words.length:=u32s_len _
 have hrl:(u32s h.roots).length=h.roots.length:=u32s_len _
 have hl1:=L.fit.hi
 have hl2:=L.fit.room
 have HL3:=Lib.hid L.fit.roots
 clear L hcl
 go_enter Tryz.func70,Tryz.ntmps70
 go_wp2_with fail
 refine HW.out.mono ?_
 rintro e w1 ⟨g1,c1,rfl,r1,hg1,hb1⟩
 have HR:=Lib.hid (HL.out.after hb1).roots
 have HB1:=Lib.hid hb1
 have HRW1:=Lib.hid r1
 rw [hwl]
 clear hb1 r1 HW
 go_wp2_with fail
 refine HR.out.mono ?_
 rintro e w2 ⟨g2,c2,rfl,r2,hg2,hb2⟩
 have HB2:=Lib.hid (below_top HB1.out hb2)
 have HRW2:=Lib.hid (HRW1.out.below hb2)
 have HRR2:=Lib.hid r2
 have HLA:=Lib.hid (HL.out.after HB2.out).last
 have hg2':w.heap.size≤g2:=by have:=HB1.out.size; omega
 rw [hrl]
 clear hb2 r2 HR HB1 HRW1
 go_wp2_with fail
 refine HLA.out.mono ?_
 rintro e w3 ⟨rfl,rfl⟩
 have HC:=Lib.hid (HCL.out w2 HB2.out)
 clear HCL HLA
 go_wp2_with fail
 refine HC.out.mono ?_
 rintro e w4 ⟨E,h1,p1,rfl,L1,s1,hz,hR⟩
 have HS4:=Lib.hid ((StepB.of_step (Step.of_below HB2.out)).trans s1)
 have HR4:=Lib.hid hR
 by_cases hE:E=0
 ·subst hE
  have HL4:=Lib.hid L1
  clear L1 s1 hz hR HC HRW2 HRR2 HNP
  go_wp2_with fail
  go_ret
  exact⟨0,h1,p1,rfl,HL4.out,HS4.out,fun q=>absurd rfl q,h1,w4,HR4.out,fun _=>⟨rfl,rfl⟩⟩
 ·have hne:((E:Int) != 0)=true:=by simp; omega
  have hnei:¬ ((E:Int)=0):=by omega
  obtain⟨l,G⟩:=HL.out.good
  obtain⟨q1,q2⟩:=G.load_self (h0:=h1) hz
  have hw2:w.heap.size≤w2.heap.size:=HB2.out.size
  have rw4:=HRW2.out.same (s1.block g1 HRW2.out.lt (HNP.out g1 hg1) (by omega))
  have rr4:=HRR2.out.same (s1.block g2 HRR2.out.lt (HNP.out g2 hg2') (by omega))
  have rdw:=rw4.reads rw4.lt
  have rdr:=rr4.reads rr4.lt
  rw [hwl] at rdw
  rw [hrl] at rdr
  have HLD:=Lib.hid (L1.load (some ⟨g1,0,none⟩) h.words.length c1 h.words (by omega) rdw G.fit.w32 (some ⟨g2,0,none⟩) h.roots.length c2 h.roots (by have:=HL3.out; omega) rdr G.fit.r32 h.last G.fit.l32)
  rw [q1,q2] at HLD
  have HE:=Lib.hid hE
  clear L1 s1 hz hR HC HRW2 HRR2 HNP rw4 rr4 rdw rdr G q1 q2 hE
  go_wp2_with fail
  refine HLD.out.mono ?_
  rintro e w5 ⟨p5,rfl,L5,s5⟩
  have HL5:=Lib.hid L5
  have HS5:=Lib.hid (HS4.out.trans (StepB.of_step s5))
  clear L5 s5 HLD HS4
  go_wp2_with fail
  go_ret
  exact⟨E,h,p5,rfl,HL5.out,HS5.out,fun _=>rfl,h1,w4,HR4.out,fun q=>absurd q HE.out⟩
end
end
section
open Go.RowKit
attribute [local go_sem] Oper.semAt_some
section
variable {W w:World} {p:HP} {g:Nat} {h:HM} (L:Live W w p g h)
include L
set_option maxRecDepth 100000 in
set_option maxHeartbeats 4000000 in
theorem kundoD_any (b1 b2 b3 b4 b5 b6:Nat) (bx:Nat) (hbx:bx<w.heap.size) (R:Nat→HM→World→Prop)
 (hcl:∀ w1,Below w.heap.size w w1→Calls Tryz.prog 71 #[.pointer (some ⟨b1,0,none⟩),.pointer (some ⟨b2,0,none⟩),.pointer (some ⟨b3,0,none⟩),.pointer (some ⟨b4,0,none⟩),.pointer (some ⟨b5,0,none⟩),.pointer (some ⟨b6,0,none⟩)] w1 (fun e w'=>∃ (E:Nat) (h':HM) (p':HP),e = .returned (.int .i64 E)∧Live W w' p' g h'∧StepB p p' bx w1 w'∧h'.size=h.size∧R E h' w')):
 Calls Tryz.prog 70 #[.pointer (some ⟨g,0,none⟩),.func (.func 71) #[] #[.pointer (some ⟨b1,0,none⟩),.pointer (some ⟨b2,0,none⟩),.pointer (some ⟨b3,0,none⟩),.pointer (some ⟨b4,0,none⟩),.pointer (some ⟨b5,0,none⟩),.pointer (some ⟨b6,0,none⟩)]] w (fun e w'=>∃ (E:Nat) (h':HM) (p':HP),e = .returned (.int .i64 E)∧Live W w' p' g h'∧StepB p p' bx w w'∧(E≠0→h'=h)∧(∃ h1 w1,R E h1 w1∧(E=0→h1=h'∧w1=w'))):=by
 have HL:=Lib.hid L
 have HW:=Lib.hid L.words
 have HCL:=Lib.hid hcl
 have HNP:=Lib.hid (show ∀ k,w.heap.size≤k→¬ p.has k from fun k hk hp=>by have:=L.at_.lt hp; omega)
 have hwl:(u32s h.words).length=h.words.length:=u32s_len _
 have hrl:(u32s h.roots).length=h.roots.length:=u32s_len _
 have hl1:=L.fit.hi
 have hl2:=L.fit.room
 have HL3:=Lib.hid L.fit.roots
 clear L hcl
 go_enter Tryz.func70,Tryz.ntmps70
 go_wp2_with fail
 refine HW.out.mono ?_
 rintro e w1 ⟨g1,c1,rfl,r1,hg1,hb1⟩
 have HR:=Lib.hid (HL.out.after hb1).roots
 have HB1:=Lib.hid hb1
 have HRW1:=Lib.hid r1
 rw [hwl]
 clear hb1 r1 HW
 go_wp2_with fail
 refine HR.out.mono ?_
 rintro e w2 ⟨g2,c2,rfl,r2,hg2,hb2⟩
 have HB2:=Lib.hid (below_top HB1.out hb2)
 have HRW2:=Lib.hid (HRW1.out.below hb2)
 have HRR2:=Lib.hid r2
 have HLA:=Lib.hid (HL.out.after HB2.out).last
 have hg2':w.heap.size≤g2:=by have:=HB1.out.size; omega
 rw [hrl]
 clear hb2 r2 HR HB1 HRW1
 go_wp2_with fail
 refine HLA.out.mono ?_
 rintro e w3 ⟨rfl,rfl⟩
 have HC:=Lib.hid (HCL.out w2 HB2.out)
 clear HCL HLA
 go_wp2_with fail
 refine HC.out.mono ?_
 rintro e w4 ⟨E,h1,p1,rfl,L1,s1,hz,hR⟩
 have HS4:=Lib.hid ((StepB.of_step (Step.of_below HB2.out)).trans s1)
 have HR4:=Lib.hid hR
 by_cases hE:E=0
 ·subst hE
  have HL4:=Lib.hid L1
  clear L1 s1 hz hR HC HRW2 HRR2 HNP
  go_wp2_with fail
  go_ret
  exact⟨0,h1,p1,rfl,HL4.out,HS4.out,fun q=>absurd rfl q,h1,w4,HR4.out,fun _=>⟨rfl,rfl⟩⟩
 ·have hne:((E:Int) != 0)=true:=by simp; omega
  have hnei:¬ ((E:Int)=0):=by omega
  obtain⟨l,G⟩:=HL.out.good
  obtain⟨q1,q2⟩:=G.load_self (h0:=h1) hz
  have hw2:w.heap.size≤w2.heap.size:=HB2.out.size
  have rw4:=HRW2.out.same (s1.block g1 HRW2.out.lt (HNP.out g1 hg1) (by omega))
  have rr4:=HRR2.out.same (s1.block g2 HRR2.out.lt (HNP.out g2 hg2') (by omega))
  have rdw:=rw4.reads rw4.lt
  have rdr:=rr4.reads rr4.lt
  rw [hwl] at rdw
  rw [hrl] at rdr
  have HLD:=Lib.hid (L1.load (some ⟨g1,0,none⟩) h.words.length c1 h.words (by omega) rdw G.fit.w32 (some ⟨g2,0,none⟩) h.roots.length c2 h.roots (by have:=HL3.out; omega) rdr G.fit.r32 h.last G.fit.l32)
  rw [q1,q2] at HLD
  have HE:=Lib.hid hE
  clear L1 s1 hz hR HC HRW2 HRR2 HNP rw4 rr4 rdw rdr G q1 q2 hE
  go_wp2_with fail
  refine HLD.out.mono ?_
  rintro e w5 ⟨p5,rfl,L5,s5⟩
  have HL5:=Lib.hid L5
  have HS5:=Lib.hid (HS4.out.trans (StepB.of_step s5))
  clear L5 s5 HLD HS4
  go_wp2_with fail
  go_ret
  exact⟨E,h,p5,rfl,HL5.out,HS5.out,fun _=>rfl,h1,w4,HR4.out,fun q=>absurd q HE.out⟩
end
end
end Go.Proofs.YtdoahpflemgaeaaGreatDoor
