import Derived.Test.YtdoahpflemgaeaaGreatDoorJNFix
import Derived.Test.YtdoahpflemgaeaaGreatDoorJNAwB
set_option linter.unusedVariables false
set_option linter.unusedSimpArgs false
set_option linter.unusedSectionVars false
namespace Go.Proofs.YtdoahpflemgaeaaGreatDoor
section
open Go.RowKit
attribute [local go_sem] Oper.semAt_some
theorem chainK_lt {h:HM} (f:h.Fit):∀ (k c:Nat),c<4294967296→∀ x∈(h.chainK k c).1,x<4294967296
 | 0,c,_=>fun x hx=>by cases hx
 | k+1,c,hc=>by
   unfold HM.chainK
   split
   ·intro x hx; cases hx
   split
   ·intro x hx; cases hx
   ·intro x hx
    rcases List.mem_cons.1 hx with rfl | hx
    ·exact hc
    ·exact chainK_lt f k _ (fld_lt f c 1) x hx
theorem chainFK_lt {h:HM} (f:h.Fit) {c:Nat} (hc:c<4294967296):∀ x∈(h.chainFK c).1,x<4294967296:=by
 intro x hx
 unfold HM.chainFK at hx
 have:=List.mem_of_mem_take hx
 rcases List.mem_cons.1 this with rfl | hx
 ·exact hc
 ·exact chainK_lt f _ _ (fld_lt f c 1) x hx
theorem chainFK_len (h:HM) (c:Nat):(h.chainFK c).1.length≤1000:=by
 unfold HM.chainFK
 rw [List.length_take]
 omega
theorem map_range_snoc {α:Type} (f:Nat→α) (k:Nat):(List.range (k+1)).map f=(List.range k).map f++[f k]:=by rw [List.range_succ,List.map_append]; rfl
section
variable {W w:World} {p:HP} {g:Nat} {h:HM} (L:Live W w p g h)
include L
set_option maxRecDepth 100000 in
set_option maxHeartbeats 16000000 in
theorem kfields_any (c:Nat) (hc:c<4294967296):Calls Tryz.prog 25 #[.pointer (some ⟨g,0,none⟩),.int .u32 c] w (NamesR (h.fieldsK c).1 (h.fieldsK c).2 w):=by
 have HLK:=Lib.hid (klook_any L c hc)
 have HCF:=Lib.hid (fun (w1:World) (hb:Below w.heap.size w w1)=>kchainF_any (L.after hb) c hc)
 have HI:=Lib.hid (show h.fieldsK c=if h.lookK c≠0 then ([],h.lookK c) else if (h.chainFK c).2=false then ([],40) else h.namesK (h.chainFK c).1.reverse from rfl)
 have HRT:=Lib.hid (fun (w1:World) (hb:Below w.heap.size w w1)=>kroot_any (L.after hb) 0)
 rw [show h.rootN 0=h.rt 0 from rootN_rt h (i:=0) (by omega)] at HRT
 have HFD:=Lib.hid (fun (w1:World) (hb:Below w.heap.size w w1) (o:Nat) (ho:o<4294967296) (i:Nat)=>kfield_any (L.after hb) o ho i)
 have HPT:=Lib.hid (fun (w1:World) (hb:Below w.heap.size w w1) (o:Nat) (ho:o<4294967296)=>kptrs_any (L.after hb) o ho 0 (by omega))
 have HSZ:=Lib.hid (fun (w1:World) (hb:Below w.heap.size w w1) (o:Nat) (ho:o<4294967296)=>ksize_any (L.after hb) o ho)
 have HBY:=Lib.hid (fun (w1:World) (hb:Below w.heap.size w w1) (o:Nat) (ho:o<4294967296)=>kbytes_any (L.after hb) o ho)
 have HF32:=Lib.hid (fun o i=>fld_lt L.fit o i)
 have HSL:=Lib.hid (fun o=>sizK_lt L.fit o)
 have HBL:=Lib.hid (show ∀ o,(h.bodyK o).length≤100000000 from fun o=>by rw [body_len]; have:=lenN_lt L.fit o; omega)
 have HC32:=Lib.hid (chainFK_lt L.fit hc)
 have HCL:=Lib.hid (chainFK_len h c)
 obtain⟨i0,hi0,hz0,hz1,hz2⟩:=info_parts info_str5
 clear L
 generalize h.chainFK c=q at *
 obtain⟨l,b⟩:=q
 simp only at HI HC32 HCL HCF
 generalize hlk:h.lookK c=E at *
 clear hlk
 go_enter Tryz.func25,Tryz.ntmps25
 go_wp2_with fail
 refine HLK.out.mono ?_
 rintro e w1 ⟨rfl,hb1⟩
 have HB1:=Lib.hid hb1
 have HCF1:=Lib.hid (HCF.out w1 hb1)
 clear hb1 HLK HCF
 by_cases hE:E=0
 rotate_left
 ·have hne:((E:Int) != 0)=true:=by simp; omega
  have hnei:¬ ((E:Int)=0):=by omega
  have HI2:=Lib.hid (HI.out.trans (if_pos hE))
  clear HI hE
  go_wp2_with fail
  go_ret2
  rw [HI2.out]
  exact⟨none,0,rfl,HB1.out,⟨rfl,.inl ⟨rfl,rfl⟩⟩⟩
 subst hE
 have HI2:=Lib.hid (HI.out.trans (if_neg (fun q=>q rfl)))
 clear HI
 go_wp2_with fail
 refine HCF1.out.mono ?_
 rintro e w2 ⟨A,cp,rfl,hb2,hown⟩
 have HB2:=Lib.hid (below_top HB1.out hb2)
 have HO2:=Lib.hid (own_base5 hown HB1.out.size)
 clear hb2 hown HCF1 HB1
 cases b with
 | false=>
   have HI3:=Lib.hid (HI2.out.trans (if_pos rfl))
   clear HI2 HO2
   go_wp2_with fail
   go_ret2
   rw [HI3.out]
   exact⟨none,0,rfl,HB2.out,⟨rfl,.inl ⟨rfl,rfl⟩⟩⟩
 | true =>
   have HI3:=Lib.hid (HI2.out.trans (if_neg (by decide)))
   clear HI2
   have hb3:Below w2.heap.size w2 (w2.alloc (.map #[] 0)):=(Below.refl _ _).alloc (Nat.le_refl _) _
   have HF:=Lib.hid (show FldAt h w (w2.alloc (.map #[] 0)) A cp l w2.heap.size 0 (fun _=>false) (.slice none 0 0) [] from
    ⟨below_top HB2.out hb3,own_below5 HO2.out hb3,MapT.made w2 _,HB2.out.size,⟨rfl,.inl ⟨rfl,rfl⟩⟩,fun x _ q=>by cases q⟩)
   clear hb3 HO2 HB2
   obtain⟨n,hn⟩ :∃ n,n=l.length:=⟨_,rfl⟩
   have HN:=Lib.hid hn
   have hn1:n≤1000:=by rw [hn]; exact HCL.out
   rw [← hn]
   clear hn HCL
   have hmm:=@run_makeMap Tryz.prog
   go_upto_region 9 with fail
   clear hmm
   generalize w2.alloc (.map #[] 0)=w3 at *
   generalize w2.heap.size=bm at *
   go_wp2_with fail
   go_loopw [9,11] (fun nv iv wr=>∃ (i:Int) (names:List (List Nat)) (cnt:Nat) (hs:Nat→Bool),iv = .int .i64 i∧ -1≤i∧i<n∧h.namesK (l.drop (i+1).toNat).reverse=(names,0)∧names.length+(i+1).toNat*16777216≤n*16777216∧cnt≤names.length∧FldAt h w wr A cp l bm cnt hs nv names) (fun _ iv _=>(intOf iv+1).toNat)
   case atStart=>
    refine⟨(n:Int)-1,[],0,_,by go_num,by omega,by omega,?_,?_,Nat.le_refl _,HF.out⟩
    ·rw [show ((n:Int)-1+1).toNat=l.length by rw [← HN.out]; omega,List.drop_length]; rfl
    ·rw [show ((n:Int)-1+1).toNat=n by omega]; simp
   case round=>
    clear HF
    obtain⟨i,names,cnt,hs,rfl,hi1,hi2,hnm,hnl,hcn,F⟩:=hrel
    obtain⟨A9,c9,rfl⟩:=ownU_val F.own
    by_cases hi:0≤i
    rotate_left
    ·obtain rfl:i = -1:=by omega
     have HI4:=Lib.hid (show h.fieldsK c=(names,0) from HI3.out.trans (by simpa using hnm))
     have HF:=Lib.hid F
     clear hnm F hnl hcn HI3
     go_wp2_with fail
     go_ret2
     rw [HI4.out]
     exact⟨A9,c9,rfl,HF.out.below,HF.out.own⟩
    obtain⟨j,rfl⟩:=Int.eq_ofNat_of_zero_le hi
    have hjn:j<n:=by omega
    have hjl:j<l.length:=by rw [← HN.out]; exact hjn
    rw [show ((j:Int)+1).toNat=j+1 by omega] at hnm hnl
    have hsn:h.namesK (l.drop j).reverse=h.namesStep (names,0) (l.getD j 0):=by rw [names_next hjl,namesK_snoc,hnm]
    have hgj:l[j]? = some (l.getD j 0):=by rw [List.getD_eq_getElem?_getD,List.getElem?_eq_getElem hjl]; rfl
    have ho32:l.getD j 0<4294967296:=HC32.out _ (List.mem_of_getElem? hgj)
    obtain⟨ad,u0,hA,-,hx,hcell⟩:=(own_reads5 F.row rfl).at_ hjl
    unfold u32s at hx
    rw [List.getElem?_map,hgj] at hx
    injection hx with hx
    subst hx
    subst hA
    have HSN:=Lib.hid hsn
    have HSTOP:=Lib.hid (fun (q:(h.ownNK (l.getD j 0)).2≠0)=>show h.fieldsK c=([],40) from by
     rw [HI3.out,names_all l j]
     refine namesK_stop h _ 40 (by omega) _ ?_
     rw [hsn]
     unfold HM.namesStep
     rw [if_neg (fun r=>r rfl),if_pos q])
    have HNEXT:=Lib.hid (fun (ys:List (List Nat)) (q:h.ownNK (l.getD j 0)=(ys,0))=>show h.namesK (l.drop j).reverse=(names++ys,0) from by
     rw [hsn]
     unfold HM.namesStep
     rw [q,if_neg (fun r=>r rfl),if_neg (fun r=>r rfl)])
    have HOW:=Lib.hid (show h.ownNK (l.getD j 0)=if h.fldK (l.getD j 0) 3=h.rt 0 then ([],0) else if h.ptrsK (h.fldK (l.getD j 0) 3) 0=false then ([],40)
     else if ((List.range (h.sizK (h.fldK (l.getD j 0) 3))).all fun i=>decide (h.bytesE (h.fldK (h.fldK (l.getD j 0) 3) i)=0)) then ((List.range (h.sizK (h.fldK (l.getD j 0) 3))).map fun i=>h.bodyK (h.fldK (h.fldK (l.getD j 0) 3) i),0) else ([],40) from rfl)
    have HFD1:=Lib.hid (HFD.out _ F.below _ ho32 3)
    have hf32:=HF32.out (l.getD j 0) 3
    have HFF:=Lib.hid F
    clear hnm hsn hgj F HI3
    generalize l.getD j 0=o at *
    generalize h.fldK o 3=fo at *
    go_wp2_with fail
    refine HFD1.out.mono ?_
    rintro e w5 ⟨rfl,hb5⟩
    have HF5:=Lib.hid (HFF.out.after hb5)
    have HRT5:=Lib.hid (HRT.out _ HF5.out.below)
    have HPT5:=Lib.hid (HPT.out _ HF5.out.below fo hf32)
    clear hb5 HFF HFD1 hcell
    by_cases hr0:fo=h.rt 0
    ·have HNX:=Lib.hid (HNEXT.out [] (HOW.out.trans (if_pos hr0)))
     have hq:((fo:Int) == (h.rt 0:Nat))=true:=by simp; omega
     clear HOW HNEXT HSTOP HPT5 hr0
     generalize h.rt 0=r0 at *
     go_wp2_with fail
     refine HRT5.out.mono ?_
     rintro e w6 ⟨rfl,rfl⟩
     clear HRT5
     go_wp2_with fail
     go_roundw
     case rel=>
      refine⟨(j:Int)-1,names,cnt,hs,by go_num,by omega,by omega,?_,?_,hcn,HF5.out⟩
      ·rw [show ((j:Int)-1+1).toNat=j by omega,HNX.out,List.append_nil]
      ·rw [show ((j:Int)-1+1).toNat=j by omega]; exact Nat.le_trans (Nat.add_le_add_left (Nat.mul_le_mul_right _ (Nat.le_succ j)) _) hnl
     case measure=>simp [intOf] <;> omega
    have hq:((fo:Int) == (h.rt 0:Nat))=false:=by simp; omega
    have HOW2:=Lib.hid (HOW.out.trans (if_neg hr0))
    clear HOW hr0
    generalize h.rt 0=r0 at *
    cases hp:h.ptrsK fo 0 with
    | false=>
      have HS2:=Lib.hid (HSTOP.out (by rw [HOW2.out,if_pos hp]; simp))
      rw [hp] at HPT5
      clear HOW2 HNEXT HSTOP hp
      go_wp2_with fail
      refine HRT5.out.mono ?_
      rintro e w6 ⟨rfl,rfl⟩
      go_wp2_with fail
      refine HPT5.out.mono ?_
      rintro e w7 ⟨rfl,hb7⟩
      have HB7:=Lib.hid (below_top HF5.out.below hb7)
      clear hb7 HPT5 HRT5
      go_wp2_with fail
      go_ret2
      rw [HS2.out]
      exact⟨none,0,rfl,HB7.out,⟨rfl,.inl ⟨rfl,rfl⟩⟩⟩
    | true =>
      have HOW3:=Lib.hid (HOW2.out.trans (if_neg (by rw [hp]; decide)))
      rw [hp] at HPT5
      clear HOW2 hp
      go_wp2_with fail
      refine HRT5.out.mono ?_
      rintro e w6 ⟨rfl,rfl⟩
      go_wp2_with fail
      refine HPT5.out.mono ?_
      rintro e w7 ⟨rfl,hb7⟩
      have HF7:=Lib.hid (HF5.out.after hb7)
      have HSZ7:=Lib.hid (HSZ.out _ HF7.out.below fo hf32)
      have hsl:=HSL.out fo
      clear hb7 HPT5 HRT5 HF5
      generalize h.sizK fo=sz at *
      go_wp2_with fail
      refine HSZ7.out.mono ?_
      rintro e w8 ⟨rfl,hb8⟩
      have HF8:=Lib.hid (HF7.out.after hb8)
      clear hb8 HSZ7 HF7
      go_wp2_with fail
      go_loopw [9,58] (fun nv kv wr=>∃ (k:Nat) (nm:List (List Nat)) (cnt:Nat) (hs:Nat→Bool),kv = .int .i64 k∧k≤sz∧nm=names++(List.range k).map (fun i=>h.bodyK (h.fldK fo i))∧(∀ i,i<k→h.bytesE (h.fldK fo i)=0)∧cnt≤nm.length∧FldAt h w wr (some ad) cp l bm cnt hs nv nm) (fun _ kv _=>sz-(intOf kv).toNat)
      case atStart=>exact⟨0,names,cnt,hs,rfl,Nat.zero_le _,by simp,fun i hi=>by omega,hcn,HF8.out⟩
      case round=>
       clear HF8
       obtain⟨k,nm,cnt2,hs2,rfl,hk,hnmk,hgk,hcn2,F⟩:=hrel
       obtain⟨A7,c7,rfl⟩:=ownU_val F.own
       have hnml:nm.length=names.length+k:=by rw [hnmk,List.length_append,List.length_map,List.length_range]
       by_cases hks:k<sz
       rotate_left
       ·obtain rfl:k=sz:=by omega
        have hd:decide ((k:Int)<(k:Int))=false:=by simp
        have hall:((List.range k).all fun i=>decide (h.bytesE (h.fldK fo i)=0))=true:=by
         rw [List.all_eq_true]
         intro i hi
         exact decide_eq_true (hgk i (List.mem_range.1 hi))
        have HNX:=Lib.hid (HNEXT.out _ (HOW3.out.trans (if_pos hall)))
        rw [← hnmk] at HNX
        have HF:=Lib.hid F
        have hnl2:nm.length+j*16777216≤n*16777216:=by
         rw [hnml]
         refine Nat.le_trans ?_ hnl
         rw [Nat.add_mul,Nat.one_mul]
         omega
        clear hgk hnmk F hall HOW3 HNEXT HSTOP hnml
        go_wp2_with fail
        go_roundw
        case rel=>
         refine⟨(j:Int)-1,nm,cnt2,hs2,by go_num,by omega,by omega,?_,?_,hcn2,HF.out⟩
         ·rw [show ((j:Int)-1+1).toNat=j by omega,HNX.out]
         ·rw [show ((j:Int)-1+1).toNat=j by omega]; exact hnl2
        case measure=>simp [intOf] <;> omega
       have hd:decide ((k:Int)<(sz:Int))=true:=by simp; omega
       have ho2:=HF32.out fo k
       have HFDk:=Lib.hid (HFD.out _ F.below fo hf32 k)
       have HGK:=Lib.hid hgk
       have HBAD:=Lib.hid (fun (q:h.bytesE (h.fldK fo k)≠0)=>HSTOP.out (by
        rw [HOW3.out,if_neg]
        ·simp
        ·intro r
         rw [List.all_eq_true] at r
         exact q (of_decide_eq_true (r k (List.mem_range.2 hks)))))
       have HNM:=Lib.hid (show nm++[h.bodyK (h.fldK fo k)]=names++(List.range (k+1)).map (fun i=>h.bodyK (h.fldK fo i)) from by rw [hnmk,map_range_snoc,List.append_assoc])
       have HGK2:=Lib.hid (fun (q:h.bytesE (h.fldK fo k)=0)=>show ∀ i,i<k+1→h.bytesE (h.fldK fo i)=0 from fun i hi=>by
        by_cases e:i=k
        ·rw [e]; exact q
        ·exact hgk i (by omega))
       have hNb:nm.length+1≤17000000000:=by
        rw [hnml]
        have e1:=Nat.mul_le_mul_right 16777216 hn1
        have e2:names.length+(j+1)*16777216≤1000*16777216:=Nat.le_trans hnl e1
        rw [Nat.add_mul,Nat.one_mul] at e2
        omega
       have HFk:=Lib.hid F
       clear hgk hnmk F HGK hnml
       generalize ho2g:h.fldK fo k=o2 at *
       clear ho2g
       go_wp2_with fail
       refine HFDk.out.mono ?_
       rintro e w9 ⟨rfl,hb9⟩
       have HF9:=Lib.hid (HFk.out.after hb9)
       have hlk:=HF9.out.map.look_ok ho2
       clear hb9 HFk HFDk
       cases hh:hs2 o2 with
       | true=>
         rw [hh] at hlk
         simp only [if_true] at hlk
         have hlk2:=HF9.out.map.look ho2 hh
         have HG3:=Lib.hid (HGK2.out (HF9.out.good o2 ho2 hh))
         clear hh HBAD HGK2
         generalize h.bodyK o2=t2 at *
         go_wp2_with (at_builtin; refine wpList_append_any _ rfl (.tmp 85) (.tmp 89) _ rfl w.heap.size 9 i0 _ 1 16 Tryz.underlying50 hi0 hz0 hz1 hz2 rfl (by omega) (.slice A7 nm.length c7) nm.length _ rfl (own_below5 HF9.out.own ((Below.refl _ _).alloc (Nat.le_refl _) _)) (w9.heap.size+1) (some ⟨w9.heap.size,0,none⟩) 1 1 (strs5 [t2]) rfl ⟨rfl,fun _=>⟨_,rfl,by simp,cell_one_new _ _ _⟩⟩ (one_strs5 _) (by simp only [maxLen]; omega) (by omega) (by have:=HF9.out.below.size; simp; omega) ?_; intro v1 w10 hown10 hgrow10 hat10)
         have HF10:=Lib.hid (HF9.out.app ((Below.refl _ _).alloc (Nat.le_refl _) _) hown10 hgrow10)
         clear hown10 hgrow10 hat10 HF9 hlk hlk2
         go_wp2_with fail
         go_roundw
         case rel=>exact⟨k+1,nm++[t2],cnt2,hs2,by go_num,by omega,HNM.out,HG3.out,by rw [List.length_append]; omega,HF10.out⟩
         case measure=>simp [intOf]; omega
       | false=>
         rw [hh] at hlk
         have HBYk:=Lib.hid (HBY.out _ HF9.out.below o2 ho2)
         have hbl:=HBL.out o2
         have HPUT:=Lib.hid (fun (w':World) (F:FldAt h w w' (some ad) cp l bm cnt2 hs2 (.slice A7 nm.length c7) nm)=>F.map.put ho2 hbl (show cnt2<9223372036854775807 by omega))
         unfold BytS at HBYk
         simp only [Bool.false_eq_true,if_false] at hlk
         have HT2:=Lib.hid (show h.bodyK o2=h.bodyK o2 from rfl)
         go_wp2_with fail
         refine HBYk.out.mono ?_
         rintro e w10 ⟨A2,n2,k2,rfl,hb10,hcv⟩
         have HF10:=Lib.hid (HF9.out.after hb10)
         clear hb10 HBYk HF9 hlk
         by_cases hE2:h.bytesE o2=0
         rotate_left
         ·have HB2:=Lib.hid (HBAD.out hE2)
          generalize h.bytesE o2=E2 at *
          have hne:((E2:Int) != 0)=true:=by simp; omega
          have hnei:¬ ((E2:Int)=0):=by omega
          clear hcv HBAD HGK2 HPUT hE2
          go_wp2_with fail
          go_ret2
          rw [HB2.out]
          exact⟨none,0,rfl,HF10.out.below,⟨rfl,.inl ⟨rfl,rfl⟩⟩⟩
         ·have hcv:=hcv hE2
          have HG3:=Lib.hid (HGK2.out hE2)
          have HE2:=Lib.hid hE2
          obtain⟨w11,hput,M11,hg11⟩:=HPUT.out w10 HF10.out
          have HF11:=Lib.hid (HF10.out.put M11 hg11 (fun x hx hq=>by
           by_cases e:x=o2
           ·rw [e]; exact HE2.out
           ·exact HF10.out.good x hx (by simpa [e] using hq)))
          have hlk2:=HF11.out.map.look ho2 (by simp)
          rw [HE2.out]
          clear HBAD HGK2 HPUT hE2 hg11 M11 HT2
          generalize h.bodyK o2=t2 at *
          go_wp2_with (at_builtin; refine wpList_append_any _ rfl (.tmp 85) (.tmp 89) _ rfl w.heap.size 9 i0 _ 1 16 Tryz.underlying50 hi0 hz0 hz1 hz2 rfl (by omega) (.slice A7 nm.length c7) nm.length _ rfl (own_below5 HF11.out.own ((Below.refl _ _).alloc (Nat.le_refl _) _)) (w11.heap.size+1) (some ⟨w11.heap.size,0,none⟩) 1 1 (strs5 [t2]) rfl ⟨rfl,fun _=>⟨_,rfl,by simp,cell_one_new _ _ _⟩⟩ (one_strs5 _) (by simp only [maxLen]; omega) (by omega) (by have:=HF11.out.below.size; simp; omega) ?_; intro v1 w12 hown12 hgrow12 hat12)
          have HF12:=Lib.hid (HF11.out.app ((Below.refl _ _).alloc (Nat.le_refl _) _) hown12 hgrow12)
          clear hown12 hgrow12 hat12 HF11 HF10 hlk2 hput hcv
          go_wp2_with fail
          go_roundw
          case rel=>exact⟨k+1,nm++[t2],cnt2+1,_,by go_num,by omega,HNM.out,HG3.out,by rw [List.length_append,List.length_singleton]; omega,HF12.out⟩
          case measure=>simp [intOf]; omega
end
end
section
open Go.RowKit
attribute [local go_sem] Oper.semAt_some
section
variable {W w:World} {p:HP} {g:Nat} {h:HM} (L:Live W w p g h)
include L
set_option maxHeartbeats 4000000 in
theorem kshowC_any (n:Int) (cl bh bx:Nat) (c3:w.cell? ⟨bh,3,none⟩=some (.int .u32 (cl:Nat))) (cx:w.cell? ⟨bx,0,none⟩=some (.pointer (some ⟨g,0,none⟩))):
 Calls Tryz.prog 122 #[.int .i64 n,.pointer (some ⟨bh,0,none⟩),.pointer (some ⟨bx,0,none⟩)] w (Told (.bool (!decide (cl=0) && decide (cl=h.rootN n))) w):=by
 have hbd:Below w.heap.size w w.drew:=below_drew (Below.refl _ _)
 have HRT:=Lib.hid (kroot_any (L.after hbd) n)
 have hS0:w.drew.cell? ⟨bh,3,none⟩=some (.int .u32 (cl:Nat))∧w.drew.cell? ⟨bx,0,none⟩=some (.pointer (some ⟨g,0,none⟩)):=⟨(hbd.cell (World.block_lt_of_cell? _ _ c3)).trans c3,(hbd.cell (World.block_lt_of_cell? _ _ cx)).trans cx⟩
 have HB:=Lib.hid hbd
 clear L hbd c3 cx
 generalize h.rootN n=r at *
 go_enter Tryz.func122,Tryz.ntmps122
 go_upto_region 1 with fail
 by_cases h0:cl=0
 ·have hq:((cl:Int) != 0)=false:=by simp; omega
  have HD0:=Lib.hid (decide_eq_true h0)
  clear h0
  refine wp_region_U 11 (fun w'=>w'.cell? ⟨bh,3,none⟩=some (.int .u32 (cl:Nat))∧w'.cell? ⟨bx,0,none⟩=some (.pointer (some ⟨g,0,none⟩))) (by kernel_rfl) ?_
  have hS:=hS0
  refine U_readC 0 [1,2,3,10,11] (v:=(.pointer (some ⟨bh,3,none⟩))) rfl (by kernel_rfl) (fun _ _ _ h=>h) hS (by kernel_rfl) (fun w' hw'=>by obtain⟨h0,h1⟩:=hw'; go_simp) ?_
  try simp only [Act.put,List.setIfInBounds_toArray,List.set_cons_zero,List.set_cons_succ]
  refine U_readC 1 [2,3,10,11] (v:=(.int .u32 (cl:Nat))) rfl (by kernel_rfl) (fun _ _ _ h=>h) hS (by kernel_rfl) (fun w' hw'=>by obtain⟨h0,h1⟩:=hw'; go_simp) ?_
  try simp only [Act.put,List.setIfInBounds_toArray,List.set_cons_zero,List.set_cons_succ]
  refine U_readC 2 [3,10,11] (v:=(.bool false)) rfl (by kernel_rfl) (fun _ _ _ h=>h) hS (by kernel_rfl) (fun w' hw'=>by obtain⟨h0,h1⟩:=hw'; go_simp) ?_
  try simp only [Act.put,List.setIfInBounds_toArray,List.set_cons_zero,List.set_cons_succ]
  refine U_readC 3 [10,11] (v:=(.bool false)) rfl (by kernel_rfl) (fun _ _ _ h=>h) hS (by kernel_rfl) (fun w' hw'=>by obtain⟨h0,h1⟩:=hw'; go_simp) ?_
  try simp only [Act.put,List.setIfInBounds_toArray,List.set_cons_zero,List.set_cons_succ]
  refine U_skipG 4 [5,9,10,11] rfl (by kernel_rfl) (fun _ _ _ h=>h) hS (by kernel_rfl) ?_
  try simp only [Act.put,List.setIfInBounds_toArray,List.set_cons_zero,List.set_cons_succ]
  refine U_skipG 5 [9,10,11] rfl (by kernel_rfl) (fun _ _ _ h=>h) hS (by kernel_rfl) ?_
  try simp only [Act.put,List.setIfInBounds_toArray,List.set_cons_zero,List.set_cons_succ]
  refine U_skipG 6 [8,9,10,11] rfl (by kernel_rfl) (fun _ _ _ h=>h) hS (by kernel_rfl) ?_
  try simp only [Act.put,List.setIfInBounds_toArray,List.set_cons_zero,List.set_cons_succ]
  refine U_skipG 7 [8,9,10,11] rfl (by kernel_rfl) (fun _ _ _ h=>h) hS (by kernel_rfl) ?_
  try simp only [Act.put,List.setIfInBounds_toArray,List.set_cons_zero,List.set_cons_succ]
  refine U_skipG 8 [9,10,11] rfl (by kernel_rfl) (fun _ _ _ h=>h) hS (by kernel_rfl) ?_
  try simp only [Act.put,List.setIfInBounds_toArray,List.set_cons_zero,List.set_cons_succ]
  refine U_skipG 9 [10,11] rfl (by kernel_rfl) (fun _ _ _ h=>h) hS (by kernel_rfl) ?_
  try simp only [Act.put,List.setIfInBounds_toArray,List.set_cons_zero,List.set_cons_succ]
  refine U_one 10 (by kernel_rfl) rfl rfl (fun K hK=>?_)
  go_simp
  refine hK _ _ (fun _=>hS) ?_
  clear hK K
  try simp only [Act.put,List.setIfInBounds_toArray,List.set_cons_zero,List.set_cons_succ]
  refine U_one 11 (by kernel_rfl) rfl rfl (fun K hK=>?_)
  go_simp
  refine hK _ _ (fun h=>absurd h (by decide)) ?_
  clear hK K
  try simp only [Act.put,List.setIfInBounds_toArray,List.set_cons_zero,List.set_cons_succ]
  refine U_done (by kernel_rfl) ?_ _
  simp only [Calm,Exit.then]
  go_wp2_with fail
  go_ret
  exact⟨by rw [HD0.out]; rfl,HB.out⟩
 ·have hq:((cl:Int) != 0)=true:=by simp; omega
  have HD0:=Lib.hid (decide_eq_false h0)
  have hq2:((cl:Int) == (r:Int))=decide (cl=r):=by rw [Bool.eq_iff_iff]; simp <;> omega
  clear h0
  have HV:=Lib.hid (show ∀ b,b=decide (cl=r)→(!decide (cl=0) && decide (cl=r))=b from fun b q=>by rw [HD0.out,q]; rfl)
  generalize decide (cl=r)=bb at *
  refine wp_region_U 11 (fun w'=>w'.cell? ⟨bh,3,none⟩=some (.int .u32 (cl:Nat))∧w'.cell? ⟨bx,0,none⟩=some (.pointer (some ⟨g,0,none⟩))) (by kernel_rfl) ?_
  have hS:=hS0
  refine U_readC 0 [1,2,3,10,11] (v:=(.pointer (some ⟨bh,3,none⟩))) rfl (by kernel_rfl) (fun _ _ _ h=>h) hS (by kernel_rfl) (fun w' hw'=>by obtain⟨h0,h1⟩:=hw'; go_simp) ?_
  try simp only [Act.put,List.setIfInBounds_toArray,List.set_cons_zero,List.set_cons_succ]
  refine U_readC 1 [2,3,10,11] (v:=(.int .u32 (cl:Nat))) rfl (by kernel_rfl) (fun _ _ _ h=>h) hS (by kernel_rfl) (fun w' hw'=>by obtain⟨h0,h1⟩:=hw'; go_simp) ?_
  try simp only [Act.put,List.setIfInBounds_toArray,List.set_cons_zero,List.set_cons_succ]
  refine U_readC 2 [3,10,11] (v:=(.bool true)) rfl (by kernel_rfl) (fun _ _ _ h=>h) hS (by kernel_rfl) (fun w' hw'=>by obtain⟨h0,h1⟩:=hw'; go_simp) ?_
  try simp only [Act.put,List.setIfInBounds_toArray,List.set_cons_zero,List.set_cons_succ]
  refine U_readC 3 [10,11] (v:=(.bool true)) rfl (by kernel_rfl) (fun _ _ _ h=>h) hS (by kernel_rfl) (fun w' hw'=>by obtain⟨h0,h1⟩:=hw'; go_simp) ?_
  try simp only [Act.put,List.setIfInBounds_toArray,List.set_cons_zero,List.set_cons_succ]
  refine U_readC 4 [5,9,10,11] (v:=(.pointer (some ⟨bh,3,none⟩))) rfl (by kernel_rfl) (fun _ _ _ h=>h) hS (by kernel_rfl) (fun w' hw'=>by obtain⟨h0,h1⟩:=hw'; go_simp) ?_
  try simp only [Act.put,List.setIfInBounds_toArray,List.set_cons_zero,List.set_cons_succ]
  refine U_readC 5 [9,10,11] (v:=(.int .u32 (cl:Nat))) rfl (by kernel_rfl) (fun _ _ _ h=>h) hS (by kernel_rfl) (fun w' hw'=>by obtain⟨h0,h1⟩:=hw'; go_simp) ?_
  try simp only [Act.put,List.setIfInBounds_toArray,List.set_cons_zero,List.set_cons_succ]
  refine U_readC 6 [8,9,10,11] (v:=(.pointer (some ⟨g,0,none⟩))) rfl (by kernel_rfl) (fun _ _ _ h=>h) hS (by kernel_rfl) (fun w' hw'=>by obtain⟨h0,h1⟩:=hw'; go_simp) ?_
  try simp only [Act.put,List.setIfInBounds_toArray,List.set_cons_zero,List.set_cons_succ]
  refine U_readC 7 [8,9,10,11] (v:=(.int .i64 n)) rfl (by kernel_rfl) (fun _ _ _ h=>h) hS (by kernel_rfl) (fun w' hw'=>by obtain⟨h0,h1⟩:=hw'; go_simp) ?_
  try simp only [Act.put,List.setIfInBounds_toArray,List.set_cons_zero,List.set_cons_succ]
  refine U_oneG 8 (by kernel_rfl) rfl (by kernel_rfl) (fun K hK=>?_)
  go_simp
  refine HRT.out.mono ?_
  rintro e w3 ⟨rfl,rfl⟩
  refine hK _ _ (fun _=>hS) ?_
  clear hK K
  try simp only [Act.put,List.setIfInBounds_toArray,List.set_cons_zero,List.set_cons_succ]
  refine U_oneG 9 (by kernel_rfl) rfl (by kernel_rfl) (fun K hK=>?_)
  go_simp
  refine hK _ _ (fun _=>hS) ?_
  clear hK K
  try simp only [Act.put,List.setIfInBounds_toArray,List.set_cons_zero,List.set_cons_succ]
  refine U_one 10 (by kernel_rfl) rfl rfl (fun K hK=>?_)
  go_simp
  refine hK _ _ (fun _=>hS) ?_
  clear hK K
  try simp only [Act.put,List.setIfInBounds_toArray,List.set_cons_zero,List.set_cons_succ]
  refine U_one 11 (by kernel_rfl) rfl rfl (fun K hK=>?_)
  go_simp
  refine hK _ _ (fun h=>absurd h (by decide)) ?_
  clear hK K
  try simp only [Act.put,List.setIfInBounds_toArray,List.set_cons_zero,List.set_cons_succ]
  refine U_done (by kernel_rfl) ?_ _
  simp only [Calm,Exit.then]
  go_wp2_with fail
  go_ret
  exact⟨by rw [HV.out _ rfl]; rfl,HB.out⟩
set_option maxRecDepth 100000 in
set_option maxHeartbeats 8000000 in
theorem kshowK_any (c:Nat) (hc:c<4294967296) (hk:kindM c=2) (hi:h.isB c=true) (h0:c≠h.rt 0) (h1:c≠h.rt 1) (h2:c≠h.rt 2)
 (hn:∀ k:Nat,k=18∨k=19∨k=20∨k=23→(h.hdO c).cls≠h.rt k) (hcl:h.isClsK c=true) (hb:h.bareK=false) (hs:h.ptrsK c 6=true) (hy:h.bytesE (h.fldK c 0)=0) (d:Int):
 Calls Tryz.prog 80 #[.pointer (some ⟨g,0,none⟩),.int .u32 c,.int .i64 d] w (Told (.string (txS (h.bodyK (h.fldK c 0)))) w):=by
 have hb1:Below w.heap.size w (w.alloc (.cells #[.pointer (some ⟨g,0,none⟩)] 22)):=(Below.refl _ _).alloc (Nat.le_refl _) _
 have HX1:=Lib.hid (Blk.new w 22 #[.pointer (some ⟨g,0,none⟩)])
 have HL1:=Lib.hid (L.after hb1)
 have HB1:=Lib.hid hb1
 have HKD:=Lib.hid (fun w1=>kind_any c hc w1)
 rw [hk] at HKD
 have HHD:=Lib.hid (HL1.out.header c hc)
 rw [show h.isE c=0 from by unfold HM.isE; rw [if_pos hi]] at HHD
 have HRN:=Lib.hid (show ∀ j:Nat,j<3→c≠h.rootN j from fun j hj=>by
  rw [rootN_rt h (by omega)]
  rcases (by omega:j=0∨j=1∨j=2) with rfl | rfl | rfl <;> assumption)
 have HNO:=Lib.hid (show ∀ k:Nat,k=18∨k=19∨k=20∨k=23→(!decide ((h.hdO c).cls=0) && decide ((h.hdO c).cls=h.rootN k))=false from fun k q=>by
  rw [rootN_rt h (by omega),decide_eq_false (hn k q),Bool.and_false])
 have HIC:=Lib.hid (fun (w1:World) (L1:Live W w1 p g h)=>kisCls_any L1 c hc)
 rw [hcl] at HIC
 have HNM:=Lib.hid (fun (w1:World) (L1:Live W w1 p g h)=>kname_any L1 c hc hb hs hy)
 clear L hb1 hk hi h0 h1 h2 hn hcl hb hs hy
 generalize h.bodyK (h.fldK c 0)=t at *
 generalize h.hdO c=xx at *
 obtain⟨sz,fm,sp,cl,se⟩:=xx
 simp only at HNO
 go_enter Tryz.func80,Tryz.ntmps80
 go_upto_region 1 with fail
 generalize w.alloc (.cells #[.pointer (some ⟨g,0,none⟩)] 22)=w1 at *
 have c1:=HX1.out.cell 0
 go_wp2_with fail
 refine (HKD.out w1).mono ?_
 rintro e w2 ⟨rfl,rfl⟩
 go_wp2_with fail
 refine HHD.out.mono ?_
 rintro e w2 ⟨rfl,hb2⟩
 unfold Hd.val
 have hb3:Below w2.heap.size w2 (w2.alloc (.cells #[.int .i64 sz,.int .i64 fm,.int .i64 sp,.int .u32 cl,.int .u32 se] 137)):=(Below.refl _ _).alloc (Nat.le_refl _) _
 have HK3:=Lib.hid (Blk.new w2 137 #[.int .i64 sz,.int .i64 fm,.int .i64 sp,.int .u32 cl,.int .u32 se])
 have hb13:=below_top hb2 hb3
 have HL3:=Lib.hid (HL1.out.after hb13); have HB3:=Lib.hid (below_top HB1.out hb13); have HX3:=Lib.hid (HX1.out.below hb13 HX1.out.lt)
 clear hb2 hb3 hb13 HL1 HB1 HX1 HHD HKD c1
 go_upto_region 10 with fail
 generalize w2.alloc (.cells #[.int .i64 sz,.int .i64 fm,.int .i64 sp,.int .u32 cl,.int .u32 se] 137)=w3 at *
 generalize w2.heap.size=bh at *
 have hb4:Below w3.heap.size w3 (w3.alloc (.cells #[.string ⟨#[110,105,108]⟩,.string ⟨#[116,114,117,101]⟩,.string ⟨#[102,97,108,115,101]⟩] 9)):=(Below.refl _ _).alloc (Nat.le_refl _) _
 have HS4:=Lib.hid (show ∀ j:Nat,j<3→∃ s,(w3.alloc (.cells #[.string ⟨#[110,105,108]⟩,.string ⟨#[116,114,117,101]⟩,.string ⟨#[102,97,108,115,101]⟩] 9)).cell? (Addr.add ⟨w3.heap.size,0,none⟩ j)=some (.string s) from fun j hj=>by
  have k:=Blk.new w3 9 #[.string ⟨#[110,105,108]⟩,.string ⟨#[116,114,117,101]⟩,.string ⟨#[102,97,108,115,101]⟩]
  rw [WideShapes.add_plain,Nat.zero_add]
  rcases (by omega:j=0∨j=1∨j=2) with rfl | rfl | rfl
  ·exact ⟨_,k.cell 0⟩
  ·exact ⟨_,k.cell 1⟩
  ·exact ⟨_,k.cell 2⟩)
 have HL4:=Lib.hid (HL3.out.after hb4); have HB4:=Lib.hid (below_top HB3.out hb4); have HX4:=Lib.hid (HX3.out.below hb4 HX3.out.lt); have HK4:=Lib.hid (HK3.out.below hb4 HK3.out.lt)
 clear hb4 HL3 HB3 HX3 HK3
 go_upto_region 11 with fail
 generalize w3.alloc (.cells #[.string ⟨#[110,105,108]⟩,.string ⟨#[116,114,117,101]⟩,.string ⟨#[102,97,108,115,101]⟩] 9)=w4 at *
 generalize (⟨w3.heap.size,0,none⟩ :Addr)=au at *
 go_loop [42] (fun iv=>∃ j:Nat,iv = .int .i64 j∧j≤3) (fun iv=>3-(intOf iv).toNat)
 case atStart=>exact⟨0,rfl,by omega⟩
 case round=>
  obtain⟨j,rfl,hj⟩:=hrel
  have c1:=HX4.out.cell 0
  by_cases hjn:j<3
  ·have hd:decide ((j:Int)<3)=true:=by simp; omega
   obtain⟨s,hs⟩:=HS4.out j hjn
   have HRT:=Lib.hid (kroot_any HL4.out j)
   have hq:((c:Int) == (h.rootN j:Nat))=false:=by have:=HRN.out j hjn; simp; omega
   generalize h.rootN j=r at *
   go_wp2_with fail
   refine HRT.out.mono ?_
   rintro e w5 ⟨rfl,rfl⟩
   go_wp2_with fail
   go_round
   case rel=>exact⟨j+1,by go_num,by omega⟩
   case measure=>simp [intOf]; omega
  obtain rfl:j=3:=by omega
  rw [show ((3:Nat):Int)=3 from rfl]
  have hd:decide ((3:Int)<3)=false:=by decide
  clear HRN hjn hj HS4
  have c3:=HK4.out.cell 3
  have HC1:=Lib.hid (kshowC_any HL4.out (18:Nat) cl bh w.heap.size c3 c1)
  rw [HNO.out 18 (by omega)] at HC1
  clear c1 c3
  go_wp2_with fail
  refine HC1.out.mono ?_
  rintro e w5 ⟨rfl,hb5⟩
  have HL5:=Lib.hid (HL4.out.after hb5); have HB5:=Lib.hid (below_top HB4.out hb5); have HX5:=Lib.hid (HX4.out.below hb5 HX4.out.lt); have HK5:=Lib.hid (HK4.out.below hb5 HK4.out.lt)
  have HC2:=Lib.hid (kshowC_any HL5.out (19:Nat) cl bh w.heap.size (HK5.out.cell 3) (HX5.out.cell 0))
  rw [HNO.out 19 (by omega)] at HC2
  clear hb5 HL4 HB4 HX4 HK4 HC1
  go_wp2_with fail
  refine HC2.out.mono ?_
  rintro e w6 ⟨rfl,hb6⟩
  have HL6:=Lib.hid (HL5.out.after hb6); have HB6:=Lib.hid (below_top HB5.out hb6); have HX6:=Lib.hid (HX5.out.below hb6 HX5.out.lt); have HK6:=Lib.hid (HK5.out.below hb6 HK5.out.lt)
  have HC3:=Lib.hid (kshowC_any HL6.out (20:Nat) cl bh w.heap.size (HK6.out.cell 3) (HX6.out.cell 0))
  rw [HNO.out 20 (by omega)] at HC3
  clear hb6 HL5 HB5 HX5 HK5 HC2
  go_wp2_with fail
  refine HC3.out.mono ?_
  rintro e w7 ⟨rfl,hb7⟩
  have HL7:=Lib.hid (HL6.out.after hb7); have HB7:=Lib.hid (below_top HB6.out hb7); have HX7:=Lib.hid (HX6.out.below hb7 HX6.out.lt); have HK7:=Lib.hid (HK6.out.below hb7 HK6.out.lt)
  have HC4:=Lib.hid (kshowC_any HL7.out (23:Nat) cl bh w.heap.size (HK7.out.cell 3) (HX7.out.cell 0))
  rw [HNO.out 23 (by omega)] at HC4
  clear hb7 HL6 HB6 HX6 HK6 HC3
  go_wp2_with fail
  refine HC4.out.mono ?_
  rintro e w8 ⟨rfl,hb8⟩
  have HL8:=Lib.hid (HL7.out.after hb8); have HB8:=Lib.hid (below_top HB7.out hb8); have HX8:=Lib.hid (HX7.out.below hb8 HX7.out.lt)
  have HI8:=Lib.hid (HIC.out w8 HL8.out)
  clear hb8 HL7 HB7 HX7 HK7 HC4 HIC HNO
  have c1:=HX8.out.cell 0
  go_wp2_with fail
  refine HI8.out.mono ?_
  rintro e w9 ⟨rfl,hb9⟩
  have HB9:=Lib.hid (below_top HB8.out hb9); have HX9:=Lib.hid (HX8.out.below hb9 HX8.out.lt)
  have HN9:=Lib.hid (HNM.out w9 (HL8.out.after hb9))
  clear hb9 HL8 HB8 HX8 HI8 HNM c1
  have c1:=HX9.out.cell 0
  go_wp2_with fail
  refine HN9.out.mono ?_
  rintro e w10 ⟨rfl,hb10⟩
  have HB10:=Lib.hid (below_top HB9.out hb10)
  clear hb10 HN9 HB9 HX9 c1
  go_wp2_with fail
  go_ret
  exact⟨rfl,HB10.out⟩
end
end
section
open Go.RowKit
attribute [local go_sem] Oper.semAt_some
theorem tx_lt (s:String):∀ x∈tx s,x<256:=by
 intro x hx
 unfold tx at hx
 obtain⟨c,_,rfl⟩:=List.mem_map.1 hx
 exact c.toNat_lt
theorem name_len:∀ i,i<22→(tx (kRow i).name).length≤100:=by decide +kernel
theorem field_len:∀ i,i<22→∀ t∈(kRow i).fields.map tx,t.length≤100:=by decide +kernel
def kSel (i:Nat):String:=kSels.getD i ""
theorem sel_len:∀ i,i<11→(tx (kSel i)).length≤100:=by decide +kernel
theorem sel_get:∀ i,i<11→(kSels.map tx).getD i []=tx (kSel i):=by decide +kernel
theorem field_lt (i:Nat):∀ t∈(kRow i).fields.map tx,∀ x∈t,x<256:=by
 intro t ht
 obtain⟨s,_,rfl⟩:=List.mem_map.1 ht
 exact tx_lt s
def nameFin (h:HM) (o i:Nat) (t:List Nat):BS:=(((h.putH (h.rt i) 0 o).setGloK t ((h.putH (h.rt i) 0 o).rt i)).1,((h.putH (h.rt i) 0 o).setGloK t ((h.putH (h.rt i) 0 o).rt i)).2.2)
theorem bName_eq (s:BS) (x:KRow × Nat):bName s x=if s.2≠0 then s else if (bIntern s (tx x.1.name)).1.2≠0 then (bIntern s (tx x.1.name)).1 else nameFin (bIntern s (tx x.1.name)).1.1 (bIntern s (tx x.1.name)).2 (10+x.2) (tx x.1.name):=rfl
theorem nameFin_eq {h:HM} {o i c:Nat} {t:List Nat} (hc:h.rt i=c):nameFin h o i t=(((h.putH c 0 o).setGloK t c).1,((h.putH c 0 o).setGloK t c).2.2):=by
 unfold nameFin
 have e:(h.putH (h.rt i) 0 o).rt i=h.rt i:=by
  unfold HM.putH
  split <;> rfl
 rw [e,hc]
theorem bName_err {s:BS} {x:KRow × Nat} {h:HM} {E o:Nat} (hq:bIntern s (tx x.1.name)=((h,E),o)) (hE:E≠0):bName s x=(h,E):=by
 rw [bName_eq,hq]
 by_cases q:s.2=0
 ·rw [if_neg (show ¬ (s.2≠0) from fun r=>r q)]
  exact if_pos hE
 ·rw [if_pos (show s.2≠0 from q)]
  have e:bIntern s (tx x.1.name)=(s,0):=by unfold bIntern; rw [if_pos (show s.2≠0 from q)]
  rw [e] at hq
  exact congrArg Prod.fst hq
theorem bName_ok {s:BS} {x:KRow × Nat} {h:HM} {o:Nat} (hq:bIntern s (tx x.1.name)=((h,0),o)):bName s x=nameFin h o (10+x.2) (tx x.1.name):=by
 rw [bName_eq,hq]
 by_cases q:s.2=0
 ·rw [if_neg (show ¬ (s.2≠0) from fun r=>r q)]
  exact if_neg (fun r=>r rfl)
 ·have e:bIntern s (tx x.1.name)=(s,0):=by unfold bIntern; rw [if_pos (show s.2≠0 from q)]
  rw [e] at hq
  have e2:s=(h,0):=congrArg Prod.fst hq
  rw [e2] at q
  exact absurd rfl q
theorem bIntern_lt {s:BS} (G:∃ l,s.1.Good l) (t:List Nat):(bIntern s t).2<4294967296:=by
 unfold bIntern
 split
 ·omega
 ·obtain ⟨l,G⟩:=G; exact intern_lt G _
def nameN (s:BS) (k:Nat):BS:=(List.range k).foldl (fun s i=>bName s (kRow i,i)) s
theorem nameN_succ (s:BS) (k:Nat):nameN s (k+1)=bName (nameN s k) (kRow k,k):=by
 unfold nameN
 rw [List.range_succ,List.foldl_append]
 rfl
theorem nameN_all (s:BS):kRows.zipIdx.foldl bName s=nameN s 22:=by
 rw [show kRows.zipIdx=(List.range 22).map (fun i=>(kRow i,i)) from rfl,List.foldl_map]
 rfl
def selN (s:BS) (k:Nat):BS:=(List.range k).foldl (fun s i=>bSel s (kSel i,i)) s
theorem selN_succ (s:BS) (k:Nat):selN s (k+1)=bSel (selN s k) (kSel k,k):=by
 unfold selN
 rw [List.range_succ,List.foldl_append]
 rfl
theorem selN_all (s:BS):kSels.zipIdx.foldl bSel s=selN s 11:=by
 rw [show kSels.zipIdx=(List.range 11).map (fun i=>(kSel i,i)) from rfl,List.foldl_map]
 rfl
def ownN (s:BS) (k:Nat):BS:=(List.range k).foldl (fun s i=>bOwn s (kRow i,i)) s
theorem ownN_succ (s:BS) (k:Nat):ownN s (k+1)=bOwn (ownN s k) (kRow k,k):=by
 unfold ownN
 rw [List.range_succ,List.foldl_append]
 rfl
theorem ownN_all (s:BS):kRows.zipIdx.foldl bOwn s=ownN s 22:=by
 rw [show kRows.zipIdx=(List.range 22).map (fun i=>(kRow i,i)) from rfl,List.foldl_map]
 rfl
def namesB (s:BS):BS:=ownN (selN (nameN s 22) 11) 22
theorem bName_stop {s:BS} (h:s.2≠0) (x:KRow × Nat):bName s x=s:=by unfold bName; rw [if_pos h]
theorem bSel_stop {s:BS} (h:s.2≠0) (x:String × Nat):(bSel s x).2=s.2:=by unfold bSel bIntern; rw [if_pos h]
theorem bOwn_stop {s:BS} (h:s.2≠0) (x:KRow × Nat):bOwn s x=s:=by unfold bOwn; rw [if_pos (.inr h)]
theorem bOwn_ok (h:HM) (x:KRow × Nat) (hf:¬ x.1.fields=[]):bOwn (h,0) x=h.ownK (h.rt (10+x.2)) (x.1.fields.map tx):=by
 unfold bOwn
 rw [if_neg (show ¬ (x.1.fields=[]∨((h,0):BS).2≠0) from fun q=>by
  rcases q with q | q
  ·exact hf q
  ·exact q rfl)]
theorem nameN_stop (s:BS) (k:Nat) (h:(nameN s k).2≠0):∀ j,nameN s (k+j)=nameN s k
 | 0=>rfl
 | j+1=>by rw [← Nat.add_assoc,nameN_succ,nameN_stop s k h j,bName_stop h]
theorem selN_stop (s:BS) (h:s.2≠0):∀ j,(selN s j).2=s.2
 | 0=>rfl
 | j+1=>by rw [selN_succ,bSel_stop (by rw [selN_stop s h j]; exact h),selN_stop s h j]
theorem ownN_stop (s:BS) (h:s.2≠0):∀ j,ownN s j=s
 | 0=>rfl
 | j+1=>by rw [ownN_succ,ownN_stop s h j,bOwn_stop h]
theorem namesB_stop (s:BS) {k:Nat} (hk:k≤22) (h:(nameN s k).2≠0):(namesB s).2=(nameN s k).2:=by
 have e:nameN s 22=nameN s k:=by rw [show 22=k+(22-k) by omega]; exact nameN_stop s k h _
 unfold namesB
 rw [e,ownN_stop _ (by rw [selN_stop _ h]; exact h),selN_stop _ h]
def NDone (W:World) (p:HP) (g b:Nat) (s:BS) (v:Value) (w:World) (e:Ending) (w':World):Prop:=
 ∃ p' s',e = .returned v∧BAt W w' p' g b s'∧StepB p p' b w w'∧s'.2=s.2∧(s.2=0→s'=s)
structure NmAt (W w:World) (p:HP) (wr:World) (p':HP) (g b:Nat) (s:BS) (bp:Nat):Prop where
 at_:BAt W wr p' g b s
 plans:PlansAt p' b wr bp
 step:StepB p p' b w wr
structure NmB (W w:World) (p:HP) (wr:World) (p':HP) (g b:Nat) (s:BS) (bp:Nat) (b6:Nat) (cs:Array Value):Prop where
 cl:NmAt W w p wr p' g b s bp
 bx:Blk wr b6 84 cs
 bo:¬ p'.has b6
 bn:b6≠b
section
variable {W w wr wr':World} {p p' p'':HP} {g b x x' bp b6:Nat} {s s':BS} {h h':HM} {cs:Array Value}
theorem NmAt.stepB (C:NmAt W w p wr p' g b s bp) (B:BAt W wr' p'' g b s') (a:StepB p' p'' b wr wr'):NmAt W w p wr' p'' g b s' bp:=
 ⟨B,C.plans.stepB a,C.step.trans a⟩
theorem NmAt.below (C:NmAt W w p wr p' g b s bp) (hb:Below wr.heap.size wr wr'):NmAt W w p wr' p' g b s bp:=
 C.stepB (C.at_.below hb) (StepB.of_step (Step.of_below hb))
theorem NmAt.err (C:NmAt W w p wr p' g b s bp) (x':Nat):NmAt W w p (wr.setCell ⟨b,1,none⟩ (.int .i64 x')) p' g b (s.1,x') bp:=
 C.stepB (BAt.err (h:=s.1) (x:=s.2) C.at_ x') ((StepB.of_step (bx:=b) (Step.refl _ _)).setBox 1 (.int .i64 x'))
theorem NmB.stepB (K:NmB W w p wr p' g b s bp b6 cs) (B:BAt W wr' p'' g b s') (a:StepB p' p'' b wr wr'):NmB W w p wr' p'' g b s' bp b6 cs:=
 ⟨K.cl.stepB B a,K.bx.same (a.block b6 K.bx.lt K.bo K.bn),fun q=>by rcases a.rows b6 q with r | r; exact K.bo r; have:=K.bx.lt; omega,K.bn⟩
theorem NmB.after (K:NmB W w p wr p' g b s bp b6 cs) (L:Live W wr' p'' g h') (a:Step p' p'' wr wr'):NmB W w p wr' p'' g b (h',s.2) bp b6 cs:=
 K.stepB (BAt.step (h:=s.1) (x:=s.2) K.cl.at_ a L) (StepB.of_step a)
theorem NmB.below (K:NmB W w p wr p' g b s bp b6 cs) (hb:Below wr.heap.size wr wr'):NmB W w p wr' p' g b s bp b6 cs:=
 K.stepB (K.cl.at_.below hb) (StepB.of_step (Step.of_below hb))
theorem NmB.of (C:NmAt W w p wr p' g b s bp) (hb:Below wr.heap.size wr wr') (hn:wr.heap.size≤b6) (bx:Blk wr' b6 84 cs):NmB W w p wr' p' g b s bp b6 cs:=
 ⟨C.below hb,bx,fun q=>by have:=C.at_.live.at_.lt q; omega,by have:=C.at_.blk.lt; omega⟩
structure SlAt (W w:World) (p:HP) (wr:World) (p':HP) (g b:Nat) (s:BS) (bp:Nat):Prop where
 at_:BAt W wr p' g b s
 row:RowT p' wr (some ⟨bp,0,none⟩) (kSels.map tx)
 ne:bp≠b
 step:StepB p p' b w wr
theorem SlAt.stepB (C:SlAt W w p wr p' g b s bp) (B:BAt W wr' p'' g b s') (a:StepB p' p'' b wr wr'):SlAt W w p wr' p'' g b s' bp:=
 ⟨B,C.row.stepB (fun ad h=>by injection h with h; subst h; exact C.ne) a,C.ne,C.step.trans a⟩
theorem SlAt.after (C:SlAt W w p wr p' g b s bp) (L:Live W wr' p'' g h') (a:Step p' p'' wr wr'):SlAt W w p wr' p'' g b (h',s.2) bp:=
 C.stepB (BAt.step (h:=s.1) (x:=s.2) C.at_ a L) (StepB.of_step a)
theorem SlAt.below (C:SlAt W w p wr p' g b s bp) (hb:Below wr.heap.size wr wr'):SlAt W w p wr' p' g b s bp:=
 C.stepB (C.at_.below hb) (StepB.of_step (Step.of_below hb))
end
end
section
open Go.RowKit
attribute [local go_sem] Oper.semAt_some
def pairsN (s:BS) (k:Nat):BS × List Nat:=(List.range k).foldl (fun q i=>((bAlloc (bRoot q.1 (10+i) 6) 6).1,q.2++[(bAlloc (bRoot q.1 (10+i) 6) 6).2])) (s,[])
theorem pairsN_succ (s:BS) (k:Nat):pairsN s (k+1)=((bAlloc (bRoot (pairsN s k).1 (10+k) 6) 6).1,(pairsN s k).2++[(bAlloc (bRoot (pairsN s k).1 (10+k) 6) 6).2]):=by
 unfold pairsN
 rw [List.range_succ,List.foldl_append]
 rfl
theorem pairsN_len (s:BS):∀ k,(pairsN s k).2.length=k
 | 0=>rfl
 | k+1=>by rw [pairsN_succ,List.length_append,pairsN_len s k]; rfl
theorem bPairs_eq (s:BS):bPairs s=pairsN s 22:=rfl
def wireN (ms:List Nat) (h:HM) (k:Nat):HM:=(List.range k).foldl (fun h i=>bWire ms h (kRow i,i)) h
theorem wireN_succ (ms:List Nat) (h:HM) (k:Nat):wireN ms h (k+1)=bWire ms (wireN ms h k) (kRow k,k):=by
 unfold wireN
 rw [List.range_succ,List.foldl_append]
 rfl
theorem kRows_idx:kRows.zipIdx=(List.range 22).map (fun i=>(kRow i,i)):=rfl
theorem wireN_all (ms:List Nat) (h:HM):kRows.zipIdx.foldl (bWire ms) h=wireN ms h 22:=by
 rw [kRows_idx,List.foldl_map]
 rfl
def clsN (h:HM) (k:Nat):HM:=(List.range k).foldl (fun h i=>h.setClassH (h.rt i) (h.rt (13+i))) h
theorem clsN_succ (h:HM) (k:Nat):clsN h (k+1)=(clsN h k).setClassH ((clsN h k).rt k) ((clsN h k).rt (13+k)):=by
 unfold clsN
 rw [List.range_succ,List.foldl_append]
 rfl
def arrI (i:Nat):Nat:=[3,4,6,8].getD i 0
def arcN (h:HM) (k:Nat):HM:=(List.range k).foldl (fun h i=>h.setClassH (h.rt (arrI i)) (h.rt 20)) h
theorem arcN_succ (h:HM) (k:Nat):arcN h (k+1)=(arcN h k).setClassH ((arcN h k).rt (arrI k)) ((arcN h k).rt 20):=by
 unfold arcN
 rw [List.range_succ,List.foldl_append]
 rfl
theorem bClasses_eq (s:BS):bClasses s=if (pairsN s 22).1.2≠0 then (pairsN s 22).1 else (arcN (clsN (wireN (pairsN s 22).2 (pairsN s 22).1.1 22) 3) 4,0):=by
 unfold bClasses
 rw [bPairs_eq]
 simp only [wireN_all]
 rfl
theorem bAlloc_lt {s:BS} (f:s.1.Fit) (n:Nat):(bAlloc s n).2<4294967296:=by
 have h1:=f.room
 have h2:=f.hi
 unfold bAlloc
 split
 ·simp
 ·unfold HM.AllocO
  split
  ·simp only; omega
  ·simp
theorem fill_set (ms:List Nat) (k n x:Nat) (hm:ms.length=k) (hk:k<n):(ms++List.replicate (n-k) 0).set k x=(ms++[x])++List.replicate (n-(k+1)) 0:=by
 obtain⟨r,hr⟩ :∃ r,n-k=r+1:=⟨n-k-1,by omega⟩
 have h2:n-(k+1)=r:=by omega
 rw [hr,h2,List.set_append_right _ _ (by omega),hm,Nat.sub_self,List.replicate_succ]
 simp
structure ClsAt (W w:World) (p:HP) (wr:World) (p':HP) (g b:Nat) (s:BS) (bp m:Nat) (ms:List Nat):Prop where
 at_:BAt W wr p' g b s
 row:Row wr m 38 22 (u32s ms)
 out:¬ p'.has m
 ne:m≠b
 new:W.heap.size≤m
 plans:PlansAt p' b wr bp
 plansm:PlansAt p' m wr bp
 step:StepB p p' b w wr
 base:w.heap.size≤m
section
variable {W w wr wr':World} {p p' p'':HP} {g b x x' bp m:Nat} {s:BS} {h h':HM} {ms:List Nat}
theorem ClsAt.stepB {s':BS} (C:ClsAt W w p wr p' g b s bp m ms) (B:BAt W wr' p'' g b s') (a:StepB p' p'' b wr wr'):ClsAt W w p wr' p'' g b s' bp m ms:=
 ⟨B,C.row.same (a.block m C.row.lt C.out C.ne),fun q=>by rcases a.rows m q with r | r; exact C.out r; have:=C.row.lt; omega,C.ne,C.new,C.plans.stepB a,C.plansm.both C.plans a,C.step.trans a,C.base⟩
theorem ClsAt.after {h':HM} (C:ClsAt W w p wr p' g b s bp m ms) (L:Live W wr' p'' g h') (a:Step p' p'' wr wr'):ClsAt W w p wr' p'' g b (h',s.2) bp m ms:=
 C.stepB (BAt.step (h:=s.1) (x:=s.2) C.at_ a L) (StepB.of_step a)
theorem ClsAt.below (C:ClsAt W w p wr p' g b s bp m ms) (hb:Below wr.heap.size wr wr'):ClsAt W w p wr' p' g b s bp m ms:=
 C.stepB (C.at_.below hb) (StepB.of_step (Step.of_below hb))
theorem ClsAt.set (C:ClsAt W w p wr p' g b s bp m ms) (i v:Nat):ClsAt W w p (wr.setCell ⟨m,i,none⟩ (.int .u32 v)) p' g b s bp m (ms.set i v):=
 have a:StepB p' p' m wr (wr.setCell ⟨m,i,none⟩ (.int .u32 v)):=(StepB.of_step (bx:=m) (Step.refl _ _)).setBox i (.int .u32 v)
 ⟨⟨C.at_.live.far2 C.out C.new i _,C.at_.blk.far (p:=⟨m,i,none⟩) (fun e=>C.ne e.symm) _,C.at_.out,C.at_.base⟩,by have:=C.row.set i (.int .u32 (v:Int)); rwa [show (u32s ms).set i (.int .u32 (v:Int))=u32s (ms.set i v) by simp [u32s,List.map_set]] at this,C.out,C.ne,C.new,
  C.plans.both C.plansm a,C.plansm.stepB a,
  ⟨a.os.trans C.step.os,a.tape.trans C.step.tape,a.output.trans C.step.output,Nat.le_trans C.step.size a.size,fun k h1 h2 h3=>(Below.heap_setCell wr ⟨m,i,none⟩ _ k (by show k≠m; have:=C.base; omega)).trans (C.step.block k h1 h2 h3),C.step.g,C.step.rows⟩,C.base⟩
theorem ClsAt.get (C:ClsAt W w p wr p' g b s bp m ms) {i:Nat} (hi:i<ms.length):wr.cell? ⟨m,i,none⟩=some (.int .u32 ((ms.getD i 0:Nat):Int)):=C.row.cell (u32s_get hi)
structure ClsB (W w:World) (p:HP) (wr:World) (p':HP) (g b:Nat) (s:BS) (bp m:Nat) (ms:List Nat) (b6:Nat) (cs:Array Value):Prop where
 cl:ClsAt W w p wr p' g b s bp m ms
 bx:Blk wr b6 84 cs
 bo:¬ p'.has b6
 bn:b6≠b
theorem ClsB.after {b6:Nat} {cs:Array Value} (K:ClsB W w p wr p' g b s bp m ms b6 cs) (L:Live W wr' p'' g h') (a:Step p' p'' wr wr'):ClsB W w p wr' p'' g b (h',s.2) bp m ms b6 cs:=
 ⟨K.cl.after L a,K.bx.same (a.block b6 K.bx.lt K.bo),fun q=>by rcases a.rows b6 q with r | r; exact K.bo r; have:=K.bx.lt; omega,K.bn⟩
theorem ClsB.below {b6:Nat} {cs:Array Value} (K:ClsB W w p wr p' g b s bp m ms b6 cs) (hb:Below wr.heap.size wr wr'):ClsB W w p wr' p' g b s bp m ms b6 cs:=
 ⟨K.cl.below hb,K.bx.below hb K.bx.lt,K.bo,K.bn⟩
theorem ClsB.of (C:ClsAt W w p wr p' g b s bp m ms) (hb:Below wr.heap.size wr wr') {b6:Nat} (hn:wr.heap.size≤b6) {cs:Array Value} (bx:Blk wr' b6 84 cs):ClsB W w p wr' p' g b s bp m ms b6 cs:=
 ⟨C.below hb,bx,fun q=>by have:=C.at_.live.at_.lt q; omega,by have:=C.at_.blk.lt; omega⟩
end
end
end Go.Proofs.YtdoahpflemgaeaaGreatDoor
