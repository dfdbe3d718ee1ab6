import Derived.Test.YtdoahpflemgaeaaGreatDoorJNRdA
import Derived.Test.YtdoahpflemgaeaaGreatDoorJNPrF
import Derived.Test.YtdoahpflemgaeaaGreatDoorJNSgl
import Derived.Test.YtdoahpflemgaeaaGreatDoorJNFix
set_option linter.unusedVariables false
set_option linter.unusedSimpArgs false
set_option linter.unusedSectionVars false
namespace Go.Proofs.YtdoahpflemgaeaaGreatDoor
section
open Go.RowKit
attribute [local go_sem] Oper.semAt_some
theorem find_at {P:Nat→Bool}:∀ (l:List Nat) (k:Nat),(∀ j,j<k→P (l.getD j 0)=false)→k<l.length→P (l.getD k 0)=true→l.find? P=some (l.getD k 0)
 | [],k,_,h,_=>by simp at h
 | x :: l,0,_,_,h=>by
   have h':P x=true:=h
   rw [List.find?_cons_of_pos h']
   rfl
 | x :: l,k+1,hn,hk,h=>by
   have h0:P x=false:=hn 0 (by omega)
   rw [List.find?_cons_of_neg (by rw [h0]; decide)]
   exact find_at l k (fun j hj=>hn (j+1) (by omega)) (by simpa using hk) h
theorem find_no {P:Nat→Bool} (l:List Nat) (h:∀ j,j<l.length→P (l.getD j 0)=false):l.find? P=none:=by
 rw [List.find?_eq_none]
 intro x hx
 obtain⟨j,hj,e⟩:=List.getElem_of_mem hx
 have:=h j hj
 rw [List.getD_eq_getElem?_getD,List.getElem?_eq_getElem hj] at this
 rw [← e]
 simpa using this
theorem isTx_eq (h:HM) (o:Nat) (t:List Nat):h.isTx o t=(h.isF o 2 0 && (decide (h.lenN o=t.length) && decide (h.bodyK o=t))):=by
 unfold HM.isTx HM.isF
 cases h.isB o <;> simp
theorem isGlo_eq (h:HM) (t:List Nat) (o:Nat):h.isGlo t o=(h.isF o 1 2 && h.isTx (h.readN o 0 [1,4]) t):=by
 unfold HM.isGlo
 rw [isF_ptrs]
 cases hp:h.ptrsK o 2 with
 | false=>rfl
 | true=>
   unfold HM.fldK
   have h0:h.ptrsK o 0=true:=by
    unfold HM.ptrsK at hp ⊢
    simp only [Bool.and_eq_true,decide_eq_true_eq] at hp ⊢
    exact⟨hp.1,hp.2.1,by omega⟩
   rw [if_pos h0]
   rfl
theorem isF_isB {h:HM} {o f n:Nat} (hf:h.isF o f n=true):h.isB o=true:=by
 unfold HM.isF at hf
 simp only [Bool.and_eq_true] at hf
 exact hf.1
theorem ent_lt {h:HM} (f:h.Fit) (a:Nat):∀ x∈h.entK a,x<4294967296:=by
 intro x hm
 unfold HM.entK at hm
 split at hm
 ·have:=(List.takeWhile_sublist _).subset hm
  obtain⟨i,_,rfl⟩:=List.mem_map.1 this
  exact HM.readN_lt f _ _ _
 ·cases hm
theorem ent_len {h:HM} {l:List Ob} (G:h.Good l) (a:Nat):(h.entK a).length≤65535:=by
 unfold HM.entK
 split
 ·rename_i hp
  obtain⟨q1,q2,q3,q4⟩:=sizK_of hp
  have:=(List.takeWhile_sublist (l:=(List.range (h.sizK a)).map fun i:Nat=>h.readN a i [1,4]) (fun x=>decide (x≠h.rt 0))).length_le
  rw [List.length_map,List.length_range] at this
  exact Nat.le_trans this (by rw [q4]; exact size_le G q1)
 ·simp
section
variable {w:World} {p:HP} {g:Nat} {h:HM} (L:RL w p g h)
include L
set_option maxRecDepth 100000 in
set_option maxHeartbeats 8000000 in
theorem dsymbol_any (t:List Nat) (h8:∀ x∈t,x<256) (hlen:t.length≤1000000):Calls Tryz.prog 57 #[.pointer (some ⟨g,0,none⟩),.string (txS t)] w (Told (.int .u32 (h.symK t:Nat)) w):=by
 have HL:=Lib.hid L
 have HLV:=Lib.hid (dlive_any L)
 have HEN:=Lib.hid (dentries_any L 3 (by omega))
 have hts:=txS_size t
 have H8:=Lib.hid h8
 have HK:=Lib.hid (show h.symK t=if h.bareK then 0 else ((h.entK (h.rt 3)).find? ((h.isTx · t))).getD 0 from rfl)
 have HX32:=Lib.hid (ent_lt L.fit (h.rt 3))
 have hxl:(h.entK (h.rt 3)).length≤65535:=by obtain⟨l,G⟩:=L.good; exact ent_len G _
 have HPL:=Lib.hid (show ∀ k,p.has k→k<w.heap.size from fun k hk=>L.at_.lt hk)
 have HRD:=Lib.hid (fun o=>HM.readN_lt L.fit o 0 [1,4])
 clear L h8
 go_enter Tryz.func57,Tryz.ntmps57
 go_wp2_with fail
 refine HLV.out.mono ?_
 rintro e w0 ⟨rfl,rfl⟩
 clear HLV
 cases hbk:h.bareK with
 | true=>
   have HV:=Lib.hid (HK.out.trans (if_pos hbk))
   clear HK hbk HEN
   go_wp2_with fail
   go_ret
   exact⟨by rw [HV.out]; rfl,Below.refl _ _⟩
 | false=>
   have HV:=Lib.hid (HK.out.trans (if_neg (by rw [hbk]; decide)))
   clear HK hbk
   generalize h.entK (h.rt 3)=xs at *
   go_wp2_with fail
   refine HEN.out.mono ?_
   rintro e w1 ⟨hb1,v,rfl,hown⟩
   have O1:OwnU p w.heap.size w1 v xs:=⟨hown,fun q hq hp=>by
    have h1:=(hown.lt q hq).1
    have h2:=HPL.out q hp
    omega⟩
   obtain⟨A,c,rfl,RU⟩:=O1.row
   have HB1:=Lib.hid hb1
   have HRU:=Lib.hid RU
   clear hb1 hown O1 RU HEN HPL
   obtain⟨n,hn⟩ :∃ n,n=xs.length:=⟨_,rfl⟩
   have HN:=Lib.hid hn
   rw [← hn] at hxl
   rw [← hn]
   clear hn
   go_wp2_with fail
   go_loopw [6] (fun iv wr=>∃ (k:Nat),iv = .int .i64 k∧k≤n∧(∀ j,j<k→h.isTx (xs.getD j 0) t=false)∧Below w.heap.size w wr∧Below w1.heap.size w1 wr) (fun iv _=>n-(intOf iv).toNat)
   case atStart=>exact⟨0,rfl,Nat.zero_le _,(fun j hj=>absurd hj (by omega)),HB1.out,Below.refl _ _⟩
   case round=>
    obtain⟨k,rfl,hk,hne,hb,hb'⟩:=hrel
    have HNE:=Lib.hid hne
    have HB:=Lib.hid hb
    have HBW:=Lib.hid hb'
    clear hne hb hb'
    by_cases hkn:k<n
    rotate_left
    ·obtain rfl:k=n:=by omega
     have hd:decide ((k:Int)<(k:Int))=false:=by simp
     have HE:=Lib.hid (show h.symK t=0 from by rw [HV.out,find_no xs (fun j hj=>HNE.out j (by rw [HN.out]; exact hj))]; rfl)
     clear HV HNE HB1 HBW
     go_wp2_with fail
     go_ret
     exact⟨by rw [HE.out]; rfl,HB.out⟩
    have hd:decide ((k:Int)<(n:Int))=true:=by simp; omega
    have hkl:k<xs.length:=by rw [← HN.out]; exact hkn
    obtain⟨ad,hA,-,-,hcell⟩:=(HRU.out.below HBW.out).at_ k hkl
    subst hA
    have ho32:xs.getD k 0<4294967296:=HX32.out _ (by rw [List.getD_eq_getElem?_getD,List.getElem?_eq_getElem hkl]; exact List.getElem_mem hkl)
    have HNO:=Lib.hid (show h.isTx (xs.getD k 0) t=false→∀ j,j<k+1→h.isTx (xs.getD j 0) t=false from fun q j hj=>by
     rcases Nat.lt_or_ge j k with r | r
     ·exact HNE.out j r
     ·obtain rfl:j=k:=by omega
      exact q)
    have HYE:=Lib.hid (show h.isTx (xs.getD k 0) t=true→h.symK t=xs.getD k 0 from fun q=>by rw [HV.out,find_at xs k HNE.out hkl q]; rfl)
    have HCB:=Lib.hid (fun (wx:World) (hb:Below wr.heap.size wr wx)=>show wx.cell? (ad.add k)=some (.int .u32 ((xs.getD k 0:Nat):Int)) from by
     obtain⟨ad',hA,_,_,hc⟩:=(HRU.out.below (below_top HBW.out hb)).at_ k hkl
     injection hA with hA
     subst hA
     exact hc)
    clear HNE HV hkl
    generalize xs.getD k 0=o at *
    have HB0:=Lib.hid (Below.refl wr.heap.size wr)
    have HC1:=Lib.hid (disbytes_any (HL.out.below (below_top HB.out HB0.out)) o ho32)
    go_wp2_with fail
    refine HC1.out.mono ?_
    rintro e v1 ⟨rfl,hb1⟩
    have HB1:=Lib.hid (below_top HB0.out hb1)
    have hc1:=HCB.out v1 HB1.out
    clear hb1 HC1
    cases hf:h.isF o 2 0 with
    | false=>
      have HN2:=Lib.hid (HNO.out (by rw [isTx_eq,hf]; rfl))
      have HBN:=Lib.hid (below_top HBW.out HB1.out)
      have HBM:=Lib.hid (below_top HB.out HB1.out)
      clear HNO HYE HCB
      go_wp2_with fail
      go_roundw
      case rel=>exact⟨k+1,by go_num,by omega,HN2.out,HBM.out,HBN.out⟩
      case measure=>simp [intOf]; omega
    | true=>
      have HC2:=Lib.hid ((HL.out.below (below_top HB.out HB1.out)).length o ho32 (isF_isB hf))
      go_wp2_with fail
      refine HC2.out.mono ?_
      rintro e v2 ⟨rfl,hb2⟩
      have HB2:=Lib.hid (below_top HB1.out hb2)
      have hc2:=HCB.out v2 HB2.out
      clear hb2 HC2
      have HBL:=Lib.hid (body_len h o)
      have HBT:=Lib.hid (body_lt h o)
      by_cases hln:h.lenN o=t.length
      rotate_left
      ·have HTF:=Lib.hid (show h.isTx o t=false from by rw [isTx_eq,decide_eq_false hln]; simp)
       generalize h.lenN o=ln at *
       have hq1:((ln:Int) == (t.length:Int))=false:=by simp; omega
       have hq2:¬ ((ln:Int)=(t.length:Int)):=by omega
       clear hln
       have HN2:=Lib.hid (HNO.out (by rw [HTF.out]))
       have HBN:=Lib.hid (below_top HBW.out HB2.out)
       have HBM:=Lib.hid (below_top HB.out HB2.out)
       clear HNO HYE HCB
       go_wp2_with fail
       go_roundw
       case rel=>exact⟨k+1,by go_num,by omega,HN2.out,HBM.out,HBN.out⟩
       case measure=>simp [intOf]; omega
      have hq1:((h.lenN o:Int) == (t.length:Int))=true:=by simp; omega
      have HTE:=Lib.hid (show h.isTx o t=decide (h.bodyK o=t) from by rw [isTx_eq,hf,decide_eq_true hln]; simp)
      rw [hln]
      have HC3:=Lib.hid (dbody_any (HL.out.below (below_top HB.out HB2.out)) o ho32 hf)
      go_wp2_with fail
      refine HC3.out.mono ?_
      rintro e v3 ⟨rfl,hb3⟩
      have HB3:=Lib.hid (below_top HB2.out hb3)
      have hc3:=HCB.out v3 HB3.out
      clear hb3 HC3
      have hsq:=txS_beq HBT.out H8.out
      by_cases hbt:h.bodyK o=t
      rotate_left
      ·rw [decide_eq_false hbt] at hsq
       have HTF:=Lib.hid (show h.isTx o t=false from by rw [HTE.out,decide_eq_false hbt])
       clear HTE HBT HBL hq1 hln
       generalize h.bodyK o=body at *
       have HN2:=Lib.hid (HNO.out (by rw [HTF.out]))
       have HBN:=Lib.hid (below_top HBW.out HB3.out)
       have HBM:=Lib.hid (below_top HB.out HB3.out)
       clear HNO HYE HCB
       go_wp2_with fail
       go_roundw
       case rel=>exact⟨k+1,by go_num,by omega,HN2.out,HBM.out,HBN.out⟩
       case measure=>simp [intOf]; omega
      rw [decide_eq_true hbt] at hsq
      have HTV:=Lib.hid (HYE.out (by rw [HTE.out,decide_eq_true hbt]))
      have HBF:=Lib.hid (below_top HB.out HB3.out)
      clear HTE HBT HBL HYE HNO hq1 hln hbt
      generalize h.bodyK o=body at *
      go_wp2_with fail
      go_ret
      exact⟨by rw [HTV.out]; rfl,HBF.out⟩
set_option maxRecDepth 100000 in
set_option maxHeartbeats 8000000 in
theorem dglobal_any (t:List Nat) (h8:∀ x∈t,x<256) (hlen:t.length≤1000000):Calls Tryz.prog 64 #[.pointer (some ⟨g,0,none⟩),.string (txS t)] w (Told (.int .u32 (h.gloK t:Nat)) w):=by
 have HL:=Lib.hid L
 have HLV:=Lib.hid (dlive_any L)
 have HEN:=Lib.hid (dentries_any L 4 (by omega))
 have hts:=txS_size t
 have H8:=Lib.hid h8
 have HK:=Lib.hid (show h.gloK t=if h.bareK then 0 else ((h.entK (h.rt 4)).find? ((h.isGlo t))).getD 0 from rfl)
 have HX32:=Lib.hid (ent_lt L.fit (h.rt 4))
 have hxl:(h.entK (h.rt 4)).length≤65535:=by obtain⟨l,G⟩:=L.good; exact ent_len G _
 have HPL:=Lib.hid (show ∀ k,p.has k→k<w.heap.size from fun k hk=>L.at_.lt hk)
 have HRD:=Lib.hid (fun o=>HM.readN_lt L.fit o 0 [1,4])
 clear L h8
 go_enter Tryz.func64,Tryz.ntmps64
 go_wp2_with fail
 refine HLV.out.mono ?_
 rintro e w0 ⟨rfl,rfl⟩
 clear HLV
 cases hbk:h.bareK with
 | true=>
   have HV:=Lib.hid (HK.out.trans (if_pos hbk))
   clear HK hbk HEN
   go_wp2_with fail
   go_ret
   exact⟨by rw [HV.out]; rfl,Below.refl _ _⟩
 | false =>
   have HV:=Lib.hid (HK.out.trans (if_neg (by rw [hbk]; decide)))
   clear HK hbk
   generalize h.entK (h.rt 4)=xs at *
   go_wp2_with fail
   refine HEN.out.mono ?_
   rintro e w1 ⟨hb1,v,rfl,hown⟩
   have O1:OwnU p w.heap.size w1 v xs:=⟨hown,fun q hq hp=>by
    have h1:=(hown.lt q hq).1
    have h2:=HPL.out q hp
    omega⟩
   obtain⟨A,c,rfl,RU⟩:=O1.row
   have HB1:=Lib.hid hb1
   have HRU:=Lib.hid RU
   clear hb1 hown O1 RU HEN HPL
   obtain⟨n,hn⟩ :∃ n,n=xs.length:=⟨_,rfl⟩
   have HN:=Lib.hid hn
   rw [← hn] at hxl
   rw [← hn]
   clear hn
   go_wp2_with fail
   go_loopw [6] (fun iv wr=>∃ (k:Nat),iv = .int .i64 k∧k≤n∧(∀ j,j<k→h.isGlo t (xs.getD j 0)=false)∧Below w.heap.size w wr∧Below w1.heap.size w1 wr) (fun iv _=>n-(intOf iv).toNat)
   case atStart=>exact⟨0,rfl,Nat.zero_le _,(fun j hj=>absurd hj (by omega)),HB1.out,Below.refl _ _⟩
   case round=>
    obtain⟨k,rfl,hk,hne,hb,hb'⟩:=hrel
    have HNE:=Lib.hid hne
    have HB:=Lib.hid hb
    have HBW:=Lib.hid hb'
    clear hne hb hb'
    by_cases hkn:k<n
    rotate_left
    ·obtain rfl:k=n:=by omega
     have hd:decide ((k:Int)<(k:Int))=false:=by simp
     have HE:=Lib.hid (show h.gloK t=0 from by rw [HV.out,find_no xs (fun j hj=>HNE.out j (by rw [HN.out]; exact hj))]; rfl)
     clear HV HNE HB1 HBW
     go_wp2_with fail
     go_ret
     exact⟨by rw [HE.out]; rfl,HB.out⟩
    have hd:decide ((k:Int)<(n:Int))=true:=by simp; omega
    have hkl:k<xs.length:=by rw [← HN.out]; exact hkn
    obtain⟨ad,hA,-,-,hcell⟩:=(HRU.out.below HBW.out).at_ k hkl
    subst hA
    have ho32:xs.getD k 0<4294967296:=HX32.out _ (by rw [List.getD_eq_getElem?_getD,List.getElem?_eq_getElem hkl]; exact List.getElem_mem hkl)
    have HNO:=Lib.hid (show h.isGlo t (xs.getD k 0)=false→∀ j,j<k+1→h.isGlo t (xs.getD j 0)=false from fun q j hj=>by
     rcases Nat.lt_or_ge j k with r | r
     ·exact HNE.out j r
     ·obtain rfl:j=k:=by omega
      exact q)
    have HYE:=Lib.hid (show h.isGlo t (xs.getD k 0)=true→h.gloK t=xs.getD k 0 from fun q=>by rw [HV.out,find_at xs k HNE.out hkl q]; rfl)
    have HCB:=Lib.hid (fun (wx:World) (hb:Below wr.heap.size wr wx)=>show wx.cell? (ad.add k)=some (.int .u32 ((xs.getD k 0:Nat):Int)) from by
     obtain⟨ad',hA,_,_,hc⟩:=(HRU.out.below (below_top HBW.out hb)).at_ k hkl
     injection hA with hA
     subst hA
     exact hc)
    clear HNE HV hkl
    generalize xs.getD k 0=o at *
    have HB0:=Lib.hid (Below.refl wr.heap.size wr)
    have HC1:=Lib.hid (dis_any (HL.out.below (below_top HB.out HB0.out)) o ho32 1 2 (by omega) (by omega))
    go_wp2_with fail
    refine HC1.out.mono ?_
    rintro e v1 ⟨rfl,hb1⟩
    have HB1:=Lib.hid (below_top HB0.out hb1)
    have hc1:=HCB.out v1 HB1.out
    clear hb1 HC1
    cases hg:h.isF o 1 2 with
    | false=>
      have HN2:=Lib.hid (HNO.out (by rw [isGlo_eq,hg]; rfl))
      have HBN:=Lib.hid (below_top HBW.out HB1.out)
      have HBM:=Lib.hid (below_top HB.out HB1.out)
      clear HNO HYE HCB
      go_wp2_with fail
      go_roundw
      case rel=>exact⟨k+1,by go_num,by omega,HN2.out,HBM.out,HBN.out⟩
      case measure=>simp [intOf]; omega
    | true=>
      have hr32:=HRD.out o
      have HGE:=Lib.hid (show h.isGlo t o=h.isTx (h.readN o 0 [1,4]) t from by rw [isGlo_eq,hg]; rfl)
      obtain⟨q,hq⟩ :∃ q,q=h.readN o (0:Nat) [1,4]:=⟨_,rfl⟩
      have HQ:=Lib.hid hq
      rw [show h.readN o 0 [1,4]=q from hq.symm] at hr32 HGE
      clear hq
      have HC2:=Lib.hid ((show Calls Tryz.prog 106 #[.pointer (some ⟨g,0,none⟩),.int .u32 o,.int .i64 0] _ (Told (.int .u32 (q:Nat)) _) from by have hh:=dget_any (HL.out.below (below_top HB.out HB1.out)) o ho32 0 (by omega); rw [HQ.out]; exact hh))
      go_wp2_with fail
      refine HC2.out.mono ?_
      rintro e v2 ⟨rfl,hb2⟩
      have HB2:=Lib.hid (below_top HB1.out hb2)
      have hc2:=HCB.out v2 HB2.out
      clear hb2 HC2
      have HC3:=Lib.hid (disbytes_any (HL.out.below (below_top HB.out HB2.out)) q hr32)
      go_wp2_with fail
      refine HC3.out.mono ?_
      rintro e v3 ⟨rfl,hb3⟩
      have HB3:=Lib.hid (below_top HB2.out hb3)
      have hc3:=HCB.out v3 HB3.out
      clear hb3 HC3
      cases hf:h.isF q 2 0 with
      | false=>
        have HN2:=Lib.hid (HNO.out (by rw [HGE.out,isTx_eq,hf]; rfl))
        have HBN:=Lib.hid (below_top HBW.out HB3.out)
        have HBM:=Lib.hid (below_top HB.out HB3.out)
        clear HNO HYE HCB
        go_wp2_with fail
        go_roundw
        case rel=>exact⟨k+1,by go_num,by omega,HN2.out,HBM.out,HBN.out⟩
        case measure=>simp [intOf]; omega
      | true=>
        have HC4:=Lib.hid ((show Calls Tryz.prog 106 #[.pointer (some ⟨g,0,none⟩),.int .u32 o,.int .i64 0] _ (Told (.int .u32 (q:Nat)) _) from by have hh:=dget_any (HL.out.below (below_top HB.out HB3.out)) o ho32 0 (by omega); rw [HQ.out]; exact hh))
        go_wp2_with fail
        refine HC4.out.mono ?_
        rintro e v4 ⟨rfl,hb4⟩
        have HB4:=Lib.hid (below_top HB3.out hb4)
        have hc4:=HCB.out v4 HB4.out
        clear hb4 HC4
        have HC5:=Lib.hid ((HL.out.below (below_top HB.out HB4.out)).length q hr32 (isF_isB hf))
        go_wp2_with fail
        refine HC5.out.mono ?_
        rintro e v5 ⟨rfl,hb5⟩
        have HB5:=Lib.hid (below_top HB4.out hb5)
        have hc5:=HCB.out v5 HB5.out
        clear hb5 HC5
        have HBL:=Lib.hid (body_len h q)
        have HBT:=Lib.hid (body_lt h q)
        by_cases hln:h.lenN q=t.length
        rotate_left
        ·have HTF:=Lib.hid (show h.isTx q t=false from by rw [isTx_eq,decide_eq_false hln]; simp)
         generalize h.lenN q=ln at *
         have hq1:((ln:Int) == (t.length:Int))=false:=by simp; omega
         have hq2:¬ ((ln:Int)=(t.length:Int)):=by omega
         clear hln
         have HN2:=Lib.hid (HNO.out (by rw [HGE.out,HTF.out]))
         have HBN:=Lib.hid (below_top HBW.out HB5.out)
         have HBM:=Lib.hid (below_top HB.out HB5.out)
         clear HNO HYE HCB
         go_wp2_with fail
         go_roundw
         case rel=>exact⟨k+1,by go_num,by omega,HN2.out,HBM.out,HBN.out⟩
         case measure=>simp [intOf]; omega
        have hq1:((h.lenN q:Int) == (t.length:Int))=true:=by simp; omega
        have HTE:=Lib.hid (show h.isTx q t=decide (h.bodyK q=t) from by rw [isTx_eq,hf,decide_eq_true hln]; simp)
        rw [hln]
        have HC6:=Lib.hid ((show Calls Tryz.prog 106 #[.pointer (some ⟨g,0,none⟩),.int .u32 o,.int .i64 0] _ (Told (.int .u32 (q:Nat)) _) from by have hh:=dget_any (HL.out.below (below_top HB.out HB5.out)) o ho32 0 (by omega); rw [HQ.out]; exact hh))
        go_wp2_with fail
        refine HC6.out.mono ?_
        rintro e v6 ⟨rfl,hb6⟩
        have HB6:=Lib.hid (below_top HB5.out hb6)
        have hc6:=HCB.out v6 HB6.out
        clear hb6 HC6
        have HC7:=Lib.hid (dbody_any (HL.out.below (below_top HB.out HB6.out)) q hr32 hf)
        go_wp2_with fail
        refine HC7.out.mono ?_
        rintro e v7 ⟨rfl,hb7⟩
        have HB7:=Lib.hid (below_top HB6.out hb7)
        have hc7:=HCB.out v7 HB7.out
        clear hb7 HC7
        have hsq:=txS_beq HBT.out H8.out
        by_cases hbt:h.bodyK q=t
        rotate_left
        ·rw [decide_eq_false hbt] at hsq
         have HTF:=Lib.hid (show h.isTx q t=false from by rw [HTE.out,decide_eq_false hbt])
         clear HTE HBT HBL hq1 hln
         generalize h.bodyK q=body at *
         have HN2:=Lib.hid (HNO.out (by rw [HGE.out,HTF.out]))
         have HBN:=Lib.hid (below_top HBW.out HB7.out)
         have HBM:=Lib.hid (below_top HB.out HB7.out)
         clear HNO HYE HCB
         go_wp2_with fail
         go_roundw
         case rel=>exact⟨k+1,by go_num,by omega,HN2.out,HBM.out,HBN.out⟩
         case measure=>simp [intOf]; omega
        rw [decide_eq_true hbt] at hsq
        have HTV:=Lib.hid (HYE.out (by rw [HGE.out,HTE.out,decide_eq_true hbt]))
        have HBF:=Lib.hid (below_top HB.out HB7.out)
        clear HTE HBT HBL HYE HNO hq1 hln hbt
        generalize h.bodyK q=body at *
        go_wp2_with fail
        go_ret
        exact⟨by rw [HTV.out]; rfl,HBF.out⟩
end
end
section
open Go.RowKit
attribute [local go_sem] Oper.semAt_some
theorem isB_valB {h:HM} {v:Nat} (hi:h.isB v=true):h.valB v=true:=by unfold HM.valB; rw [hi]; simp
theorem setRoot_ok {h:HM} {i v:Nat} (hi:i<64) (hv:h.valB v=true):h.setRootH (i:Nat) v={ h with roots:=h.roots.set i v }:=by
 unfold HM.setRootH HM.setRootE rootOk
 rw [if_pos (by rw [hv]; simp; omega)]
 rfl
section
variable {w:World} {p:HP} {g:Nat} {h:HM} (L:RL w p g h)
include L
theorem RL.rootsP:w.cell? ⟨g,2,none⟩=some (.slice (some ⟨p.gr,0,none⟩) 64 p.cr)∧∀ i,i<64→w.cell? ⟨p.gr,i,none⟩=some (.int .u32 ((h.rt i:Nat):Int)):=by
 have hr:=L.fit.roots
 refine⟨?_,fun i hi=>L.at_.root (i:=i) (by omega)⟩
 have c2:=L.at_.c2
 rw [L.hg,hr] at c2
 exact c2
theorem RL.frozenR (i:Nat):w.frozen? ⟨p.gr,i,none⟩=false:=L.at_.2.2.2.frozen i
theorem RL.storeRoot (i v:Nat) (hi:i<64) (hv32:v<4294967296) (hv:h.valB v=true):RL (w.setCell ⟨p.gr,i,none⟩ (.int .u32 (v:Nat))) p g (h.setRootH (i:Nat) v)∧Step p p w (w.setCell ⟨p.gr,i,none⟩ (.int .u32 (v:Nat))):=by
 refine⟨⟨?_,L.hg,?_⟩,(Step.refl _ _).setCell (.inl (.inr (.inr (.inr rfl)))) _⟩
 ·rw [setRoot_ok hi hv]
  exact L.at_.setRoot i v
 ·obtain⟨l,G⟩:=L.good
  exact⟨l,G.setRootH (i:Nat) v hv32⟩
set_option maxRecDepth 100000 in
set_option maxHeartbeats 8000000 in
theorem dadd_any (r:Nat) (hr:r<64) (o:Nat) (ho:o<4294967296) (hp:h.ptrsK (h.rt r) 0=true) (hv:h.valB o=true):
 Calls Tryz.prog 61 #[.pointer (some ⟨g,0,none⟩),.int .i64 r,.int .u32 o] w (RDone p g (h.addK r o).1 (.int .i64 ((h.addK r o).2:Nat)) w):=by
 have f0:=fld0
 have HL:=Lib.hid L
 have HENT:=Lib.hid (fun (w1:World) (hb:Below w.heap.size w w1)=>dentries_any (L.below hb) r hr)
 obtain⟨c2,cr0⟩:=L.rootsP
 have cr1:=cr0 r hr
 have ha:h.rt r<4294967296:=L.fit.root r
 obtain⟨a,haa⟩ :∃ a,a=h.rt r:=⟨_,rfl⟩
 rw [← haa] at ha hp cr1 HENT
 obtain⟨l,G⟩:=L.good
 obtain⟨q1,q2,q3,q4⟩:=sizK_of hp
 have hs65:h.sizK a≤65535:=by rw [q4]; exact size_le G q1
 have hul:(h.entK a).length≤h.sizK a:=by rw [← used_ent hp]; exact used_le h a
 have HH:=Lib.hid (L.header a ha q1)
 have HADD:=Lib.hid (show h.addK r o=if (h.entK a).length=h.sizK a then
  if (h.grownK a (max 1 (2*h.sizK a))).2.2≠0 then (h,(h.grownK a (max 1 (2*h.sizK a))).2.2)
  else (((h.grownK a (max 1 (2*h.sizK a))).1.setRootH r (h.grownK a (max 1 (2*h.sizK a))).2.1).putH (h.grownK a (max 1 (2*h.sizK a))).2.1 (h.entK a).length o,0)
 else (h.putH a (h.entK a).length o,0) from by rw [haa]; rfl)
 have HGR:=Lib.hid (show ∀ m,h.grownK a m=if h.sizK a=65535 then (h,0,4)
  else if h.AllocE (h.rt 20) 1 (min m 65535:Nat)≠0 then (h,0,h.AllocE (h.rt 20) 1 (min m 65535:Nat))
  else ((h.AllocH (h.rt 20) 1 (min m 65535:Nat)).copyK (2*h.words.length) (h.fldK a) (h.sizK a),2*h.words.length,0) from fun m=>rfl)
 have HGN:=Lib.hid (fun (n:Nat) (h0:(h.grownK a n).2.2=0)=>grown_new G h0)
 have HPT:=Lib.hid (fun (w1:World) (hb:Below w.heap.size w w1) (i:Nat) (hi:i≤100000)=>(L.below hb).put a ha (i:Int) (by omega) o ho)
 have HV:=Lib.hid hv
 have HO:=Lib.hid ho
 have HA:=Lib.hid (And.intro ha (And.intro q1 hp))
 have hl31:=L.fit.hi
 have hl32:=L.fit.room
 have HSV:=Lib.hid (show (h.hd (a / 2)).val = .agg #[.int .i64 (h.sizK a:Nat),.int .i64 (h.hd (a / 2)).fmt,.int .i64 (h.hd (a / 2)).spare,.int .u32 (h.hd (a / 2)).cls,.int .u32 (h.hd (a / 2)).ser] from by rw [q4]; rfl)
 rw [HSV.out] at HH
 clear L G haa hp hv ho ha q1 q2 q3 q4 cr0 HSV
 generalize (h.hd (a / 2)).fmt=fm at *
 generalize (h.hd (a / 2)).spare=sp at *
 generalize (h.hd (a / 2)).cls=cl at *
 generalize (h.hd (a / 2)).ser=se at *
 obtain⟨n,hn⟩ :∃ n,n=(h.entK a).length:=⟨_,rfl⟩
 obtain⟨S,hS⟩ :∃ S,S=h.sizK a:=⟨_,rfl⟩
 have HS:=Lib.hid hS
 rw [← hn] at hul HADD
 rw [← hS] at hs65 hul HH HADD HGR
 have HN:=Lib.hid hn
 clear hn hS
 go_enter Tryz.func61,Tryz.ntmps61
 go_wp2_with fail
 refine HH.out.mono ?_
 rintro e w1 ⟨rfl,hb1⟩
 have HB1:=Lib.hid hb1
 have HE1:=Lib.hid (HENT.out w1 hb1)
 clear hb1 HH HENT
 go_wp2_with fail
 refine HE1.out.mono ?_
 rintro e w2 ⟨hb2,v,rfl,hown⟩
 rw [← HN.out] at hown
 have HB2:=Lib.hid (below_top HB1.out hb2)
 obtain⟨A,c,rfl⟩:=ownU_val hown
 clear hb2 hown HE1 HB1 c2 cr1
 by_cases hfull:n=S
 rotate_left
 ·have hq:((n:Int) == (S:Int))=false:=by simp; omega
  have hqi:¬ ((n:Int)=(S:Int)):=by omega
  have HA2:=Lib.hid (HADD.out.trans (if_neg hfull))
  have HP2:=Lib.hid (HPT.out w2 HB2.out n (by omega))
  clear HADD HGR HGN HPT hfull
  go_wp2_with fail
  refine HP2.out.mono ?_
  rintro e w3 ⟨p3,rfl,L3,s3⟩
  have HL3:=Lib.hid L3
  have HS3:=Lib.hid ((Step.of_below HB2.out).trans s3)
  clear L3 s3 HP2
  go_wp2_with fail
  go_ret
  rw [HA2.out]
  exact⟨p3,rfl,HL3.out,HS3.out⟩
 ·have hq:((n:Int) == (S:Int))=true:=by simp; omega
  have hqi:(n:Int)=(S:Int):=by omega
  have HNS:=Lib.hid hfull
  have HA2:=Lib.hid (HADD.out.trans (if_pos hfull))
  clear hqi hfull HADD
  have hw1:wrap64 (2*(S:Int))=2*(S:Int):=IntWalk.wrap64_in _ (by omega)
  obtain⟨m0,hm0⟩ :∃ m,m=max 1 (2*S):=⟨_,rfl⟩
  have hmax:max 1 (2*(S:Int))=(m0:Int):=by omega
  rw [← hm0] at HA2
  have HG:=Lib.hid (HGR.out m0)
  have HGM:=Lib.hid (HGN.out m0)
  have hm00:m0≤131070:=by omega
  clear HGR HGN hm0
  by_cases h655:S=65535
  ·have hE:(h.grownK a m0).2.2=4:=by rw [HG.out,if_pos h655]
   have HA3:=Lib.hid (HA2.out.trans (if_pos (show (h.grownK a m0).2.2≠0 from by rw [hE]; decide)))
   rw [hE] at HA3
   have HL3:=Lib.hid (HL.out.below HB2.out)
   have hq2:((S:Int) == 65535)=true:=by simp; omega
   subst h655
   clear HA2 HG HGM hE
   go_wp2_with fail
   go_ret
   rw [HA3.out]
   exact⟨p,rfl,HL3.out,Step.of_below HB2.out⟩
  have hq2:((S:Int) == 65535)=false:=by simp; omega
  have hq2i:¬ ((S:Int)=65535):=by omega
  obtain⟨m,hm⟩ :∃ m,m=min m0 65535:=⟨_,rfl⟩
  have hmin:min (m0:Int) 65535=(m:Int):=by omega
  have HG2:=Lib.hid (HG.out.trans (if_neg h655))
  rw [← hm] at HG2
  have HL2:=Lib.hid (HL.out.below HB2.out)
  obtain⟨c2,cr0⟩:=HL2.out.rootsP
  have cr20:=cr0 20 (by omega)
  have hc32:h.rt 20<4294967296:=HL2.out.fit.root 20
  have HAL:=Lib.hid (HL2.out.alloc (h.rt 20) hc32 1 (m:Int))
  have HAH:=Lib.hid (fun h0:h.AllocE (h.rt 20) 1 (m:Int)≠0=>show h.AllocH (h.rt 20) 1 (m:Int)=h from by rw [HM.AllocH_eq,if_neg h0])
  have HAO:=Lib.hid (fun h0:h.AllocE (h.rt 20) 1 (m:Int)=0=>show h.AllocO (h.rt 20) 1 (m:Int)=2*h.words.length from by unfold HM.AllocO; rw [if_pos h0])
  obtain⟨E,hE⟩ :∃ E,E=h.AllocE (h.rt 20) 1 (m:Int):=⟨_,rfl⟩
  have HEE:=Lib.hid hE
  obtain⟨O,hO⟩ :∃ O,O=h.AllocO (h.rt 20) 1 (m:Int):=⟨_,rfl⟩
  have hO32:O<4294967296:=by rw [hO]; exact AllocO_lt HL2.out.fit _ _ _
  have HCP:=Lib.hid (fun (h0:E=0) (k i:Nat)=>show ((h.AllocH (h.rt 20) 1 (m:Int)).copyK (2*h.words.length) (h.fldK a) k).readN a i [1,4]=h.fldK a i from by
   obtain⟨l,G⟩:=HL2.out.good
   have e0:h.AllocE (h.rt 20) 1 (m:Int)=0:=by rw [← hE]; exact h0
   have e1:=copy_fld G hc32 e0 HA.out.2.1 (h.fldK a) (fun i=>fld_lt G.fit a i) k i
   obtain⟨l1,G1⟩:=G.AllocH (h.rt 20) 1 (m:Int) hc32
   have K1:Kp h (h.AllocH (h.rt 20) 1 (m:Int)):=by rw [alloc_push e0]; exact Kp.push G _ _
   obtain⟨_,K2,_⟩:=copy_good G1 (2*h.words.length) (h.fldK a) (fun i=>fld_lt G.fit a i) k
   have e2:((h.AllocH (h.rt 20) 1 (m:Int)).copyK (2*h.words.length) (h.fldK a) k).ptrsK a 0=true:=by rw [(K1.trans K2).ptrs HA.out.2.1]; exact HA.out.2.2
   have e3:((h.AllocH (h.rt 20) 1 (m:Int)).copyK (2*h.words.length) (h.fldK a) k).fldK a i=((h.AllocH (h.rt 20) 1 (m:Int)).copyK (2*h.words.length) (h.fldK a) k).readN a i [1,4]:=by
    rw [HM.fldK,if_pos e2]
   rw [← e3]
   exact e1)
  have HFL:=Lib.hid (fun i=>fld_lt HL2.out.fit a i)
  rw [← hE] at HAL HG2 HAH HAO
  rw [← hO] at HAL HAO
  clear hE hO HG hm h655 cr0
  generalize h.rt 20=r20 at *
  go_wp2_with fail
  refine HAL.out.mono ?_
  rintro e w3 ⟨p3,rfl,L3,s3⟩
  have HL3:=Lib.hid L3
  have HS3:=Lib.hid ((Step.of_below HB2.out).trans s3)
  clear L3 s3 HAL HL2 HB2 c2 cr20 hq hq2 hq2i hmax hmin hw1
  by_cases hE0:E=0
  rotate_left
  ·have hne:((E:Int) != 0)=true:=by simp; omega
   have hnei:¬ ((E:Int)=0):=by omega
   have hg3:(h.grownK a m0).2.2=E:=by rw [HG2.out,if_pos hE0]
   have HA3:=Lib.hid (HA2.out.trans (if_pos (show (h.grownK a m0).2.2≠0 from by rw [hg3]; exact hE0)))
   rw [hg3] at HA3
   have hh:=HAH.out hE0
   have HL4:=Lib.hid (show RL w3 p3 g h from by have:=HL3.out; rw [hh] at this; exact this)
   clear HA2 HG2 HGM HAH HAO HCP hh HL3 hE0 hg3
   go_wp2_with fail
   go_ret
   rw [HA3.out]
   exact⟨p3,rfl,HL4.out,HS3.out⟩
  subst hE0
  have hOO:=HAO.out rfl
  have HCP2:=Lib.hid (HCP.out rfl)
  rw [← hOO] at HCP2 HG2
  have hg:=HG2.out.trans (if_neg (fun q=>q rfl))
  have hg0:(h.grownK a m0).2.2=0:=by rw [hg]
  have hg1:(h.grownK a m0).2.1=O:=by rw [hg]
  obtain⟨k1,k2,k3,k4,k5,k6⟩:=HGM.out hg0
  rw [← hOO] at k5
  have hg4:(h.grownK a m0).1=(h.AllocH r20 1 (m:Int)).copyK O (h.fldK a) S:=by rw [hg]
  have HA3:=Lib.hid (HA2.out.trans (if_neg (show ¬ (h.grownK a m0).2.2≠0 from fun q=>q hg0)))
  rw [hg1,hg4] at HA3
  rw [hg4] at k5
  have HVO:=Lib.hid (isB_valB (sizK_of k5).1)
  clear HA2 HG2 HGM HAH HAO HCP hOO hg hg0 hg1 hg4 k1 k2 k3 k4 k5 k6
  generalize h.AllocH r20 1 (m:Int)=h1 at *
  go_wp2_with fail
  go_loopw [12] (fun i wr=>∃ (k:Nat) (p':HP),i = .int .i64 k∧k≤S∧RL wr p' g (h1.copyK O (h.fldK a) k)∧Step p p' w wr) (fun i _=>S-(intOf i).toNat)
  case atStart=>exact⟨0,p3,rfl,Nat.zero_le _,HL3.out,HS3.out⟩
  case round=>
   clear HL3 HS3
   obtain⟨k,p4,rfl,hk,L4,s4⟩:=hrel
   by_cases hkn:k<S
   ·have hd:decide ((k:Int)<(S:Int))=true:=by simp; omega
    have HCS:=Lib.hid (copy_succ h1 O (h.fldK a) k)
    have HG4:=Lib.hid (dget_any L4 a HA.out.1 k (by omega))
    rw [HCP2.out k k] at HG4
    have hf32:=HFL.out k
    have HP5:=Lib.hid (fun (w5:World) (hb:Below wr.heap.size wr w5)=>(L4.below hb).put O hO32 (k:Int) (by omega) (h.fldK a k) hf32)
    have HS4:=Lib.hid s4
    clear L4 s4
    generalize h.fldK a k=fv at *
    go_wp2_with fail
    refine HG4.out.mono ?_
    rintro e w5 ⟨rfl,hb5⟩
    have HP6:=Lib.hid (HP5.out w5 hb5)
    have HS5:=Lib.hid (HS4.out.trans (Step.of_below hb5))
    clear hb5 HG4 HP5 HS4
    go_wp2_with fail
    refine HP6.out.mono ?_
    rintro e w6 ⟨p6,rfl,L6,s6⟩
    have HL6:=Lib.hid L6
    have HS6:=Lib.hid (HS5.out.trans s6)
    clear L6 s6 HP6 HS5
    go_wp2_with fail
    go_roundw
    case rel=>
     refine⟨k+1,p6,by go_num,by omega,?_,HS6.out⟩
     rw [HCS.out]
     exact HL6.out
    case measure=>simp [intOf]; omega
   ·obtain rfl:k=S:=by omega
    have hd:decide ((k:Int)<(k:Int))=false:=by simp
    obtain⟨c2,cr0⟩:=L4.rootsP
    have z1:=L4.frozenR r
    have cr1:=cr0 r hr
    have hst:=L4.storeRoot r O hr hO32 HVO.out
    have HL5:=Lib.hid hst.1
    have HS5:=Lib.hid (s4.trans hst.2)
    have hri:(r:Int)<64:=by omega
    clear L4 s4 hst cr0
    go_upto_region 15 with fail
    have HP6:=Lib.hid (HL5.out.put O hO32 (n:Int) (by omega) o HO.out)
    clear HL5 c2 z1 cr1
    go_wp2_with fail
    refine HP6.out.mono ?_
    rintro e w6 ⟨p6,rfl,L6,s6⟩
    have HL6:=Lib.hid L6
    have HS6:=Lib.hid (HS5.out.trans s6)
    clear L6 s6 HP6 HS5
    go_wp2_with fail
    go_ret
    rw [HA3.out]
    exact⟨p6,rfl,HL6.out,HS6.out⟩
end
end
section
open Go.RowKit
attribute [local go_sem] Oper.semAt_some
def RIn (p:HP) (g:Nat) (q:HM × Nat × Nat) (w:World) (e:Ending) (w':World):Prop:=
 ∃ p' h' o,e = .returned (.tuple #[.int .u32 ((o:Nat):Int),.int .i64 (q.2.2:Nat)])∧RL w' p' g h'∧Step p p' w w'∧(q.2.2=0→h'=q.1∧o=q.2.1)
section
variable {w:World} {p:HP} {g:Nat} {h:HM} (L:RL w p g h)
include L
set_option maxRecDepth 100000 in
set_option maxHeartbeats 8000000 in
theorem dintern_any (t:List Nat) (h8:∀ x∈t,x<256) (hlen:t.length≤1000000) (hb:h.bareK=false) (hp:h.ptrsK (h.rt 3) 0=true):
 Calls Tryz.prog 18 #[.pointer (some ⟨g,0,none⟩),.string (txS t)] w (RIn p g (h.internK t) w):=by
 have HL:=Lib.hid L
 have HSY:=Lib.hid (dsymbol_any L t h8 hlen)
 have H8:=Lib.hid h8
 have HP:=Lib.hid hp; have HP0:=Lib.hid hp
 have HI:=Lib.hid (show h.internK t=if h.symK t≠0 then (h,h.symK t,0)
  else if h.bareK∨h.ptrsK (h.rt 3) 0=false then (h,0,40)
  else if h.makeE (h.rt 18) t≠0 then (h,0,h.makeE (h.rt 18) t)
  else if ((h.makeH (h.rt 18) t).addK 3 (2*h.words.length)).2≠0 then (h,0,((h.makeH (h.rt 18) t).addK 3 (2*h.words.length)).2)
  else (((h.makeH (h.rt 18) t).addK 3 (2*h.words.length)).1,2*h.words.length,0) from rfl)
 have HNB:=Lib.hid (show ¬ (h.bareK=true∨h.ptrsK (h.rt 3) 0=false) from fun q=>by
  rcases q with q | q
  ·rw [hb] at q; cases q
  ·rw [hp] at q; cases q)
 clear L h8 hb hp
 go_enter Tryz.func18,Tryz.ntmps18
 go_wp2_with fail
 refine HSY.out.mono ?_
 rintro e w1 ⟨rfl,hb1⟩
 have HL1:=Lib.hid (HL.out.below hb1)
 have HB1:=Lib.hid hb1
 clear hb1 HSY
 by_cases hs0:h.symK t=0
 rotate_left
 ·have hI:=HI.out.trans (if_pos hs0)
  generalize h.symK t=sy at *
  have hne:((sy:Int) != 0)=true:=by simp; omega
  have hnei:¬ ((sy:Int)=0):=by omega
  have HI2:=Lib.hid hI
  clear hI HI hs0
  go_wp2_with fail
  go_ret2
  rw [HI2.out]
  exact⟨p,h,sy,rfl,HL1.out,Step.of_below HB1.out,fun _=>⟨rfl,rfl⟩⟩
 have HI2:=Lib.hid ((HI.out.trans (if_neg (fun q=>q hs0))).trans (if_neg HNB.out))
 rw [hs0]
 obtain⟨c2,cr0⟩:=HL1.out.rootsP
 have cr3:=cr0 3 (by omega)
 have HIS:=Lib.hid (dis_any HL1.out (h.rt 3) (HL1.out.fit.root 3) 1 0 (by omega) (by omega))
 rw [isF_ptrs,HP.out] at HIS
 have HR18:=Lib.hid (fun (w2:World) (hb:Below w1.heap.size w1 w2)=>dclass_any (HL1.out.below hb) 18 (by omega))
 have hc32:h.rt 18<4294967296:=HL1.out.fit.root 18
 have HMK:=Lib.hid (fun (w2:World) (hb:Below w1.heap.size w1 w2)=>((HL1.out.below hb).below (txWorld_below w2 t)).make (h.rt 18) hc32 (some ⟨w2.heap.size,0,none⟩) t.length (grownCap w2 t.length 0 5) t (by omega) (txWorld_reads w2 H8.out) H8.out)
 have HST:=Lib.hid (fun (w2:World) (hb:Below w1.heap.size w1 w2)=>below_top (below_top HB1.out hb) (txWorld_below w2 t))
 have hcv:=fun w=>txBytes w t
 clear HI hs0 HNB hc32 cr0
 obtain⟨r3,hr3'⟩ :∃ x,x=h.rt 3:=⟨_,rfl⟩
 rw [← hr3'] at cr3 HIS
 clear hr3'
 go_wp2_with fail
 refine HIS.out.mono ?_
 rintro e w2 ⟨rfl,hb2⟩
 have HR2:=Lib.hid (HR18.out w2 hb2)
 have HM2:=Lib.hid (HMK.out w2 hb2)
 have HS2:=Lib.hid (HST.out w2 hb2)
 clear hb2 HIS HR18 HMK HST c2 cr3
 go_wp2_with fail
 refine HR2.out.mono ?_
 rintro e w2 ⟨rfl,rfl⟩
 go_wp2_with fail
 refine HM2.out.mono ?_
 rintro e w3 ⟨p3,rfl,L3,s3⟩
 have HL3:=Lib.hid L3
 have HS3:=Lib.hid ((Step.of_below HS2.out).trans s3)
 clear L3 s3 HM2 HR2 HS2 hcv
 obtain⟨E,hE⟩ :∃ E,E=h.makeE (h.rt 18) t:=⟨_,rfl⟩
 obtain⟨o,ho⟩ :∃ o,o=h.makeO (h.rt 18) t:=⟨_,rfl⟩
 rw [← hE,← ho]
 by_cases hE0:E=0
 rotate_left
 ·have hne:((E:Int) == 0)=false:=by simp; omega
  have hnei:¬ ((E:Int)=0):=by omega
  have HI3:=Lib.hid (show h.internK t=(h,0,E) from by rw [HI2.out,← hE]; exact if_pos hE0)
  have HE0:=Lib.hid hE0
  clear HI2 hE ho hE0
  go_wp2_with fail
  go_ret2
  rw [HI3.out]
  exact⟨p3,_,o,rfl,HL3.out,HS3.out,fun q=>absurd q HE0.out⟩
 have hE1:h.makeE (h.rt 18) t=0:=by rw [← hE]; exact hE0
 have ho2:o=2*h.words.length:=by rw [ho]; unfold HM.makeO; rw [if_pos hE1]
 have HI3:=Lib.hid (HI2.out.trans (if_neg (fun q=>q hE1)))
 rw [← ho2] at HI3
 have hmp:=make_push hE1
 obtain⟨l,G⟩:=HL.out.good
 have K1:Kp h (h.makeH (h.rt 18) t):=by rw [hmp]; exact Kp.push G _ _
 have hr3:(h.makeH (h.rt 18) t).rt 3=h.rt 3:=by rw [hmp]; rfl
 have hp3:(h.makeH (h.rt 18) t).ptrsK ((h.makeH (h.rt 18) t).rt 3) 0=true:=by rw [hr3,K1.ptrs (sizK_of HP0.out).1]; exact HP0.out
 have hvb:(h.makeH (h.rt 18) t).valB o=true:=by unfold HM.valB; rw [ho2,hmp,push_isB G]; simp
 have hl1:=G.fit.hi; have hl2:=G.fit.room
 have ho32:o<4294967296:=by omega
 have HAD:=Lib.hid (dadd_any HL3.out 3 (by omega) o ho32 hp3 hvb)
 subst hE0
 clear hE ho hE1 ho2 hmp G K1 hr3 hp3 hvb hl1 hl2 HI2 HL3
 generalize h.makeH (h.rt 18) t=h1 at *
 obtain⟨⟨h2,E2⟩,hq⟩ :∃ q,h1.addK 3 o=q:=⟨_,rfl⟩
 rw [hq] at HAD HI3
 clear hq
 simp only at HAD HI3
 go_wp2_with fail
 refine HAD.out.mono ?_
 rintro e w4 ⟨p4,rfl,L4,s4⟩
 have HL4:=Lib.hid L4
 have HS4:=Lib.hid (HS3.out.trans s4)
 clear L4 s4 HAD HS3
 have HF:=Lib.hid (show (h.internK t).2.2=E2∧(E2=0→h.internK t=(h2,o,0)) from by
  rw [HI3.out]
  by_cases q:E2=0
  ·rw [if_neg (fun r=>r q)]; exact⟨q.symm,fun _=>rfl⟩
  ·rw [if_pos q]; exact⟨rfl,fun r=>absurd r q⟩)
 clear HI3
 go_wp2_with fail
 go_ret2
 exact⟨p4,h2,o,by rw [HF.out.1]; rfl,HL4.out,HS4.out,fun q=>by
  have:=HF.out.2 (HF.out.1.symm.trans q)
  rw [this]
  exact⟨rfl,rfl⟩⟩
set_option maxRecDepth 100000 in
set_option maxHeartbeats 8000000 in
theorem dsetGlobal_any (t:List Nat) (v:Nat) (h8:∀ x∈t,x<256) (hlen:t.length≤1000000) (hv32:v<4294967296) (hb:h.bareK=false) (hp:h.ptrsK (h.rt 3) 0=true) (hp4:h.ptrsK (h.rt 4) 0=true) (hvv:h.valB v=true):
 Calls Tryz.prog 20 #[.pointer (some ⟨g,0,none⟩),.string (txS t),.int .u32 v] w (RIn p g (h.setGloK t v) w):=by
 have HL:=Lib.hid L
 have HVB:=Lib.hid (L.val v hv32)
 rw [hvv] at HVB
 have HGL:=Lib.hid (dglobal_any L t h8 hlen)
 have HIN:=Lib.hid (fun (w1:World) (hb1:Below w.heap.size w w1)=>dintern_any (L.below hb1) t h8 hlen hb hp)
 have hg32:=glo_lt L.fit t
 have HI:=Lib.hid (show h.setGloK t v=if h.gloK t≠0 then (h.putH (h.gloK t) 1 v,h.gloK t,0)
  else if (h.internK t).2.2≠0 then (h,0,(h.internK t).2.2)
  else if (h.internK t).1.AllocE ((h.internK t).1.rt 23) 1 2≠0 then (h,0,(h.internK t).1.AllocE ((h.internK t).1.rt 23) 1 2)
  else if (segH (h.internK t).1 (h.internK t).2.1 v).2≠0 then (h,0,(segH (h.internK t).1 (h.internK t).2.1 v).2)
  else ((segH (h.internK t).1 (h.internK t).2.1 v).1,2*(h.internK t).1.words.length,0) from by
   have e1:h.setGloK t v=if h.bareK then (h,0,40)
    else if h.valB v=false then (h,0,3)
    else if h.gloK t≠0 then (h.putH (h.gloK t) 1 v,h.gloK t,0)
    else if h.ptrsK (h.rt 4) 0=false then (h,0,40)
    else if (h.internK t).2.2≠0 then (h,0,(h.internK t).2.2)
    else if (h.internK t).1.AllocE ((h.internK t).1.rt 23) 1 2≠0 then (h,0,(h.internK t).1.AllocE ((h.internK t).1.rt 23) 1 2)
    else if (segH (h.internK t).1 (h.internK t).2.1 v).2≠0 then (h,0,(segH (h.internK t).1 (h.internK t).2.1 v).2)
    else ((segH (h.internK t).1 (h.internK t).2.1 v).1,2*(h.internK t).1.words.length,0):=rfl
   rw [e1,if_neg (by rw [hb]; decide),if_neg (by rw [hvv]; decide)]
   rw [if_neg (c:=h.ptrsK (h.rt 4) 0=false) (by rw [hp4]; decide)])
 have HKP:=Lib.hid (show (∃ l',(h.internK t).1.Good l')∧Kp h (h.internK t).1∧(∀ j,j≠3→(h.internK t).1.rt j=h.rt j)∧(h.internK t).2.1<4294967296 from by
  obtain⟨l,G⟩:=L.good
  obtain⟨a1,a2,a3⟩:=intern_kp G t h8
  exact⟨a1,a2,a3,intern_lt G t⟩)
 have HP4:=Lib.hid hp4
 clear L h8 hb hp hp4 hvv
 go_enter Tryz.func20,Tryz.ntmps20
 go_wp2_with fail
 refine HVB.out.mono ?_
 rintro e w1 ⟨rfl,rfl⟩
 go_wp2_with fail
 refine HGL.out.mono ?_
 rintro e w1 ⟨rfl,hb1⟩
 have HL1:=Lib.hid (HL.out.below hb1)
 have HB1:=Lib.hid hb1
 clear hb1 HVB HGL
 by_cases hs0:h.gloK t=0
 rotate_left
 ·have HI2:=Lib.hid (HI.out.trans (if_pos hs0))
  have HPT:=Lib.hid (HL1.out.put (h.gloK t) hg32 (1:Int) (by omega) v hv32)
  generalize h.gloK t=sy at *
  have hne:((sy:Int) != 0)=true:=by simp; omega
  have hnei:¬ ((sy:Int)=0):=by omega
  clear HI hs0 HIN HKP
  go_wp2_with fail
  refine HPT.out.mono ?_
  rintro e w2 ⟨p2,rfl,L2,s2⟩
  have HL2:=Lib.hid L2
  have HS2:=Lib.hid ((Step.of_below HB1.out).trans s2)
  clear L2 s2 HPT
  go_wp2_with fail
  go_ret2
  rw [HI2.out]
  exact⟨p2,_,sy,rfl,HL2.out,HS2.out,fun _=>⟨rfl,rfl⟩⟩
 have HI2:=Lib.hid (HI.out.trans (if_neg (fun q=>q hs0)))
 rw [hs0]
 obtain⟨c2,cr0⟩:=HL1.out.rootsP
 have cr4:=cr0 4 (by omega)
 have HIS:=Lib.hid (fun (w2:World) (hb:Below w1.heap.size w1 w2)=>dis_any (HL1.out.below hb) (h.rt 4) (HL1.out.fit.root 4) 1 0 (by omega) (by omega))
 rw [isF_ptrs,HP4.out] at HIS
 have HIS1:=Lib.hid (HIS.out w1 (Below.refl _ _))
 obtain⟨r4,hr4'⟩ :∃ x,x=h.rt 4:=⟨_,rfl⟩
 rw [← hr4'] at cr4 HIS1
 clear hr4' HI hs0 cr0 HIS
 go_wp2_with fail
 refine HIS1.out.mono ?_
 rintro e w2 ⟨rfl,hb2⟩
 have HB2:=Lib.hid (below_top HB1.out hb2)
 have HN2:=Lib.hid (HIN.out w2 HB2.out)
 clear hb2 HIS1 HIN HB1 HL1 c2 cr4
 obtain⟨⟨hi,oi,EI⟩,hqi⟩ :∃ q,h.internK t=q:=⟨_,rfl⟩
 rw [hqi] at HN2 HI2 HKP
 clear hqi
 simp only at HI2 HKP
 go_wp2_with fail
 refine HN2.out.mono ?_
 rintro e w3 ⟨p3,h3,o3,rfl,L3,s3,hq3⟩
 have HS3:=Lib.hid ((Step.of_below HB2.out).trans s3)
 have HL3:=Lib.hid L3
 have HQ3:=Lib.hid hq3
 clear L3 s3 hq3 HN2 HB2
 simp only at HQ3
 by_cases hE:EI=0
 rotate_left
 ·have hne:((EI:Int) != 0)=true:=by simp; omega
  have hnei:¬ ((EI:Int)=0):=by omega
  have HI3:=Lib.hid (HI2.out.trans (if_pos hE))
  have HE0:=Lib.hid hE
  clear HI2 hE HKP
  go_wp2_with fail
  go_ret2
  rw [HI3.out]
  exact⟨p3,h3,0,rfl,HL3.out,HS3.out,fun q=>absurd q HE0.out⟩
 obtain⟨rfl,rfl⟩:=HQ3.out hE
 subst hE
 have HI3:=Lib.hid (HI2.out.trans (if_neg (fun q=>q rfl)))
 have HR23:=Lib.hid (dclass_any HL3.out 23 (by omega))
 have hc32:h3.rt 23<4294967296:=HL3.out.fit.root 23
 have HAL:=Lib.hid (HL3.out.alloc (h3.rt 23) hc32 1 2)
 obtain⟨E,hE⟩ :∃ E,E=h3.AllocE (h3.rt 23) 1 2:=⟨_,rfl⟩
 obtain⟨o,ho⟩ :∃ o,o=h3.AllocO (h3.rt 23) 1 2:=⟨_,rfl⟩
 rw [← hE] at HI3
 rw [← hE,← ho] at HAL
 have HEE:=Lib.hid (And.intro hE (And.intro ho hc32))
 obtain⟨r23,hr23⟩ :∃ x,x=h3.rt 23:=⟨_,rfl⟩
 rw [← hr23] at HR23
 have HAL2:=Lib.hid (show Calls Tryz.prog 51 #[.pointer (some ⟨g,0,none⟩),.int .u32 (r23:Nat),.int .i64 1,.int .i64 2] w3 (RDone p3 g (h3.AllocH (h3.rt 23) 1 2) (.tuple #[.int .u32 (o:Nat),.int .i64 (E:Nat)]) w3) from by rw [hr23]; exact HAL.out)
 clear HI2 HQ3 HAL hE ho hc32 hr23
 go_wp2_with fail
 refine HR23.out.mono ?_
 rintro e w4 ⟨rfl,rfl⟩
 go_wp2_with fail
 refine HAL2.out.mono ?_
 rintro e w4 ⟨p4,rfl,L4,s4⟩
 have HL4:=Lib.hid L4
 have HS4:=Lib.hid (HS3.out.trans s4)
 clear L4 s4 HAL2 HR23 HS3
 by_cases hE0:E=0
 rotate_left
 ·have hne:((E:Int) != 0)=true:=by simp; omega
  have hnei:¬ ((E:Int)=0):=by omega
  have HI4:=Lib.hid (HI3.out.trans (if_pos hE0))
  have HE0:=Lib.hid hE0
  clear HI3 hE0 HKP HEE
  go_wp2_with fail
  go_ret2
  rw [HI4.out]
  exact⟨p4,_,0,rfl,HL4.out,HS4.out,fun q=>absurd q HE0.out⟩
 have hE1:h3.AllocE (h3.rt 23) 1 2=0:=by rw [← HEE.out.1]; exact hE0
 have ho2:o=2*h3.words.length:=by rw [HEE.out.2.1]; unfold HM.AllocO; rw [if_pos hE1]
 have HI4:=Lib.hid (HI3.out.trans (if_neg (fun q=>q hE0)))
 rw [show segH h3 o3 v=(((h3.AllocH (h3.rt 23) 1 2).putH o 0 o3).putH o 1 v).addK 4 o from by rw [ho2]; rfl,← ho2] at HI4
 obtain⟨li,Gi⟩:=HKP.out.1
 obtain⟨a1,a2,a3,-⟩:=alloc_new Gi HEE.out.2.2 hE1
 obtain⟨l3,G3⟩:=Gi.AllocH (h3.rt 23) 1 2 HEE.out.2.2
 have K3:Kp h3 (h3.AllocH (h3.rt 23) 1 2):=by rw [alloc_push hE1]; exact Kp.push Gi _ _
 obtain⟨l4,G4,-⟩:=G3.putH o 0 o3 HKP.out.2.2.2
 have K4:=Kp.put G3 o 0 o3
 obtain⟨l5,G5,-⟩:=G4.putH o 1 v hv32
 have K5:=Kp.put G4 o 1 v
 have KA:=((HKP.out.2.1.trans K3).trans K4).trans K5
 have hrt:(((h3.AllocH (h3.rt 23) 1 2).putH o 0 o3).putH o 1 v).rt 4=h.rt 4:=by rw [put_rt,put_rt,Alloc_rt]; exact HKP.out.2.2.1 4 (by omega)
 have HP5:=Lib.hid (show (((h3.AllocH (h3.rt 23) 1 2).putH o 0 o3).putH o 1 v).ptrsK ((((h3.AllocH (h3.rt 23) 1 2).putH o 0 o3).putH o 1 v).rt 4) 0=true from by rw [hrt,KA.ptrs (sizK_of HP4.out).1]; exact HP4.out)
 have HOB:=Lib.hid (show (((h3.AllocH (h3.rt 23) 1 2).putH o 0 o3).putH o 1 v).valB o=true from (K4.trans K5).val (by unfold HM.valB; rw [ho2,a1]; simp))
 have hl1:=Gi.fit.hi; have hl2:=Gi.fit.room
 have ho32:o<4294967296:=by omega
 have HO32:=Lib.hid (And.intro ho32 HKP.out.2.2.2)
 subst hE0
 clear hE1 ho2 Gi a1 a2 a3 G3 K3 G4 K4 G5 K5 KA hrt hl1 hl2 HI3 HKP HEE ho32
 generalize h3.AllocH (h3.rt 23) 1 2=h4 at *
 have HP0:=Lib.hid (HL4.out.put o HO32.out.1 (0:Int) (by omega) o3 HO32.out.2)
 clear HL4
 go_wp2_with fail
 refine HP0.out.mono ?_
 rintro e w5 ⟨p5,rfl,L5,s5⟩
 have HS5:=Lib.hid (HS4.out.trans s5)
 have HP1:=Lib.hid (L5.put o HO32.out.1 (1:Int) (by omega) v hv32)
 clear L5 s5 HP0 HS4
 go_wp2_with fail
 refine HP1.out.mono ?_
 rintro e w6 ⟨p6,rfl,L6,s6⟩
 have HS6:=Lib.hid (HS5.out.trans s6)
 have HAD:=Lib.hid (dadd_any L6 4 (by omega) o HO32.out.1 HP5.out HOB.out)
 clear L6 s6 HP1 HS5
 generalize (h4.putH o 0 o3).putH o 1 v=h6 at *
 obtain⟨⟨h7,E7⟩,hq7⟩ :∃ q,h6.addK 4 o=q:=⟨_,rfl⟩
 rw [hq7] at HAD HI4
 clear hq7
 simp only at HAD HI4
 go_wp2_with fail
 refine HAD.out.mono ?_
 rintro e w7 ⟨p7,rfl,L7,s7⟩
 have HL7:=Lib.hid L7
 have HS7:=Lib.hid (HS6.out.trans s7)
 clear L7 s7 HAD HS6
 have HF:=Lib.hid (show (h.setGloK t v).2.2=E7∧(E7=0→h.setGloK t v=(h7,o,0)) from by
  rw [HI4.out]
  by_cases q:E7=0
  ·rw [if_neg (fun r=>r q)]; exact⟨q.symm,fun _=>rfl⟩
  ·rw [if_pos q]; exact⟨rfl,fun r=>absurd r q⟩)
 clear HI4
 go_wp2_with fail
 go_ret2
 exact⟨p7,h7,o,by rw [HF.out.1]; rfl,HL7.out,HS7.out,fun q=>by
  have:=HF.out.2 (HF.out.1.symm.trans q)
  rw [this]
  exact⟨rfl,rfl⟩⟩
end
end
section
open Go.RowKit
attribute [local go_sem] Oper.semAt_some
theorem dsm01_any (n:Nat) (hn:n≤1000000) (w:World):Calls Tryz.prog 140 #[.int .i64 n] w (Said (.int .u32 (smN n:Nat)) w):=by
 have hd:decide (2*(n:Int)+1<0)=false:=decide_eq_false (by omega)
 have HV:=Lib.hid (show smN n=2*n+1 from rfl)
 go_enter Tryz.func140,Tryz.ntmps140
 go_wp2_with fail
 go_ret
 exact⟨by rw [HV.out]; rfl,rfl⟩
theorem dsmall_any4 (n:Nat) (hn:n≤1000000) (w:World):Calls Tryz.prog 96 #[.int .i64 n] w (Said (.int .u32 (smN n:Nat)) w):=by
 have HS:=Lib.hid (dsm01_any n hn w)
 generalize smN n=s at *
 go_enter Tryz.func96,Tryz.ntmps96
 go_wp2_with fail
 refine HS.out.mono ?_
 rintro e w1 ⟨rfl,rfl⟩
 go_wp2_with fail
 go_ret
 exact⟨rfl,rfl⟩
theorem dnumber_any (f n:Nat) (x:Bool) (hf:f≤4) (hn:n≤1000) (w:World):Calls Tryz.prog 54 #[.int .i64 f,.int .i64 n,.bool x] w (Said (.int .i64 ((f+8*n+(if x then 65536 else 0):Nat))) w):=by
 cases x with
 | true=>
   have HE:=Lib.hid (show ((f:Int)+8*(n:Int)+65536)=((f+8*n+65536:Nat):Int) by omega)
   go_enter Tryz.func54,Tryz.ntmps54
   go_wp2_with fail
   go_ret
   exact⟨rfl,rfl⟩
 | false=>
   go_enter Tryz.func54,Tryz.ntmps54
   go_wp2_with fail
   go_ret
   exact⟨rfl,rfl⟩
def dWire (h:HM) (c m name sup msup fmt:Nat):HM:=(((((((h.setClassH c m).setClassH m ((h.setClassH c m).rt 12)).putH c 0 name).putH c 1 sup).putH c 4 (smN fmt)).putH m 1 msup).putH m 4 99).putH m 5 c
section
variable {w:World} {p:HP} {g:Nat} {h:HM} (L:RL w p g h)
include L
set_option maxRecDepth 100000 in
theorem dwire_any (c m name sup msup fmt:Nat) (hc:c<4294967296) (hm:m<4294967296) (hn:name<4294967296) (hs:sup<4294967296) (hms:msup<4294967296) (hf:fmt≤100000):
 Calls Tryz.prog 53 #[.pointer (some ⟨g,0,none⟩),.int .u32 c,.int .u32 m,.int .u32 name,.int .u32 sup,.int .u32 msup,.int .i64 fmt] w (RDone p g (dWire h c m name sup msup fmt) (.tuple #[]) w):=by
 have HF:=Lib.hid (show dWire h c m name sup msup fmt=(((((((h.setClassH c m).setClassH m ((h.setClassH c m).rt 12)).putH c 0 name).putH c 1 sup).putH c 4 (smN fmt)).putH m 1 msup).putH m 4 99).putH m 5 c from rfl)
 have HC:=Lib.hid (L.setClass c m hc hm)
 have HSM:=Lib.hid (fun w'=>dsmall_any4 fmt (by omega) w')
 have HS49:=Lib.hid (fun w'=>show Calls Tryz.prog 96 #[.int .i64 49] w' (Said (.int .u32 99) w') from dsmall_any4 49 (by omega) w')
 have hsf:smN fmt<4294967296:=by unfold smN; omega
 clear L
 generalize smN fmt=sf at *
 go_enter Tryz.func53,Tryz.ntmps53
 go_wp2_with fail
 refine HC.out.mono ?_
 rintro e w1 ⟨p1,rfl,L1,s1⟩
 obtain⟨h1,hh1⟩ :∃ x,x=h.setClassH c m:=⟨_,rfl⟩
 rw [← hh1] at L1 HF
 clear hh1 HC
 have HC2:=Lib.hid (L1.setClass m (h1.rt 12) hm (L1.fit.root 12))
 obtain⟨c2,cr0⟩:=L1.rootsP
 have cr12:=cr0 12 (by omega)
 have HS1:=Lib.hid s1
 obtain⟨r12,hr⟩ :∃ x,x=h1.rt 12:=⟨_,rfl⟩
 rw [← hr] at cr12 HC2 HF
 clear L1 s1 cr0 hr
 go_wp2_with fail
 refine HC2.out.mono ?_
 rintro e w2 ⟨p2,rfl,L2,s2⟩
 obtain⟨h2,hh2⟩ :∃ x,x=h1.setClassH m r12:=⟨_,rfl⟩
 rw [← hh2] at L2 HF
 have HS2:=Lib.hid (HS1.out.trans s2)
 have HP:=Lib.hid (L2.put c hc (0:Int) (by omega) name hn)
 clear hh2 HC2 L2 s2 HS1 c2 cr12
 go_wp2_with fail
 refine HP.out.mono ?_
 rintro e w3 ⟨p3,rfl,L3,s3⟩
 have HS3:=Lib.hid (HS2.out.trans s3)
 have HP3:=Lib.hid (L3.put c hc (1:Int) (by omega) sup hs)
 clear L3 s3 HS2 HP
 go_wp2_with fail
 refine HP3.out.mono ?_
 rintro e w4 ⟨p4,rfl,L4,s4⟩
 have HS4:=Lib.hid (HS3.out.trans s4)
 have HP4:=Lib.hid (L4.put c hc (4:Int) (by omega) sf hsf)
 clear L4 s4 HS3 HP3
 go_wp2_with fail
 refine (HSM.out _).mono ?_
 rintro e w5 ⟨rfl,rfl⟩
 go_wp2_with fail
 refine HP4.out.mono ?_
 rintro e w5 ⟨p5,rfl,L5,s5⟩
 have HS5:=Lib.hid (HS4.out.trans s5)
 have HP5:=Lib.hid (L5.put m hm (1:Int) (by omega) msup hms)
 clear L5 s5 HS4 HP4
 go_wp2_with fail
 refine HP5.out.mono ?_
 rintro e w6 ⟨p6,rfl,L6,s6⟩
 have HS6:=Lib.hid (HS5.out.trans s6)
 have HP6:=Lib.hid (L6.put m hm (4:Int) (by omega) 99 (by omega))
 clear L6 s6 HS5 HP5
 go_wp2_with fail
 refine (HS49.out _).mono ?_
 rintro e w7 ⟨rfl,rfl⟩
 go_wp2_with fail
 refine HP6.out.mono ?_
 rintro e w7 ⟨p7,rfl,L7,s7⟩
 have HS7:=Lib.hid (HS6.out.trans s7)
 have HP7:=Lib.hid (L7.put m hm (5:Int) (by omega) c hc)
 clear L7 s7 HS6 HP6
 go_wp2_with fail
 refine HP7.out.mono ?_
 rintro e w8 ⟨p8,rfl,L8,s8⟩
 have HS8:=Lib.hid (HS7.out.trans s8)
 have HL8:=Lib.hid L8
 clear L8 s8 HS7 HP7
 go_wp2_with fail
 refine bodyPost_end (v:=.tuple #[]) (by simp [results,Tryz.results53,go_sem]) rfl ?_
 rw [HF.out]
 exact⟨p8,rfl,HL8.out,HS8.out⟩
def DPairP (p:HP) (g:Nat) (h:HM) (w:World) (e:Ending) (w':World):Prop:=
 ∃ (p':HP) (h':HM) (c m E:Nat),e = .returned (.tuple #[.int .u32 ((c:Nat):Int),.int .u32 ((m:Nat):Int),.int .i64 ((E:Nat):Int)])∧RL w' p' g h'∧Step p p' w w'∧
   E=(if h.AllocE 0 1 6≠0 then h.AllocE 0 1 6 else (h.AllocH 0 1 6).AllocE 0 1 6)∧(E=0→h'=(h.AllocH 0 1 6).AllocH 0 1 6∧c=h.AllocO 0 1 6∧m=(h.AllocH 0 1 6).AllocO 0 1 6)
set_option maxRecDepth 100000 in
theorem dpair_any:Calls Tryz.prog 52 #[.pointer (some ⟨g,0,none⟩)] w (DPairP p g h w):=by
 have HA:=Lib.hid (L.alloc 0 (by omega) 1 6)
 have HI:=Lib.hid (show ∀ x,x=(if h.AllocE 0 1 6≠0 then h.AllocE 0 1 6 else (h.AllocH 0 1 6).AllocE 0 1 6)→x=(if h.AllocE 0 1 6≠0 then h.AllocE 0 1 6 else (h.AllocH 0 1 6).AllocE 0 1 6) from fun x q=>q)
 clear L
 obtain⟨E,hE⟩ :∃ E,E=h.AllocE 0 1 6:=⟨_,rfl⟩
 obtain⟨c,hc⟩ :∃ c,c=h.AllocO 0 1 6:=⟨_,rfl⟩
 have HE:=Lib.hid (And.intro hE hc)
 rw [← hE,← hc] at HA
 go_enter Tryz.func52,Tryz.ntmps52
 go_wp2_with fail
 refine HA.out.mono ?_
 rintro e w1 ⟨p1,rfl,L1,s1⟩
 have HS1:=Lib.hid s1
 by_cases hE0:E=0
 rotate_left
 ·have hne:((E:Int) != 0)=true:=by simp; omega
  have hnei:¬ ((E:Int)=0):=by omega
  have HL1:=Lib.hid L1
  have HE0:=Lib.hid hE0
  clear L1 s1 HA hE hc hE0
  go_wp2_with fail
  go_ret3
  exact⟨p1,_,0,0,E,rfl,HL1.out,HS1.out,by rw [if_pos (by rw [← HE.out.1]; exact HE0.out)]; exact HE.out.1,fun q=>absurd q HE0.out⟩
 have HA2:=Lib.hid (L1.alloc 0 (by omega) 1 6)
 obtain⟨E2,hE2⟩ :∃ E,E=(h.AllocH 0 1 6).AllocE 0 1 6:=⟨_,rfl⟩
 obtain⟨m,hm⟩ :∃ c,c=(h.AllocH 0 1 6).AllocO 0 1 6:=⟨_,rfl⟩
 have HE2:=Lib.hid (And.intro hE2 hm)
 rw [← hE2,← hm] at HA2
 have HE0:=Lib.hid hE0
 subst hE0
 clear L1 s1 HA hE hc hE2 hm
 go_wp2_with fail
 refine HA2.out.mono ?_
 rintro e w2 ⟨p2,rfl,L2,s2⟩
 have HS2:=Lib.hid (HS1.out.trans s2)
 have HL2:=Lib.hid L2
 clear L2 s2 HS1 HA2
 go_wp2_with fail
 go_ret3
 exact⟨p2,_,c,m,E2,rfl,HL2.out,HS2.out,by rw [if_neg (by rw [← HE.out.1]; exact fun q=>q rfl)]; exact HE2.out.1,fun q=>⟨rfl,HE.out.2,HE2.out.2⟩⟩
end
end
end Go.Proofs.YtdoahpflemgaeaaGreatDoor
