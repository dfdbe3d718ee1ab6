import Derived.Test.YtdoahpflemgaeaaGreatDoorJLive
import Derived.Test.YtdoahpflemgaeaaGreatDoorJNKp
import Derived.Laws.IdiomStrings
import Derived.Lib.ConvBytes
set_option linter.unusedVariables false
set_option linter.unusedSimpArgs false
set_option linter.unusedSectionVars false
namespace Go.Proofs.YtdoahpflemgaeaaGreatDoor
section
open Go.RowKit
def txS (t:List Nat):ByteArray:=⟨(t.map UInt8.ofNat).toArray⟩
theorem txS_size (t:List Nat):(txS t).size=t.length:=by
 unfold txS ByteArray.size
 simp
theorem ofNat_injK {xs ys:List Nat} (hx:∀ x∈xs,x<256) (hy:∀ y∈ys,y<256) (h:xs.map UInt8.ofNat=ys.map UInt8.ofNat):xs=ys:=by
 induction xs generalizing ys with
 | nil=>cases ys with
   | nil=>rfl
   | cons y ys=>simp at h
 | cons x xs ih=>
   cases ys with
   | nil=>simp at h
   | cons y ys=>
     rw [List.map_cons,List.map_cons,List.cons.injEq] at h
     have h1:x=y:=by
      have e:=congrArg UInt8.toNat h.1
      rw [UInt8.toNat_ofNat',UInt8.toNat_ofNat',Nat.mod_eq_of_lt (hx x (List.mem_cons_self ..)),Nat.mod_eq_of_lt (hy y (List.mem_cons_self ..))] at e
      exact e
     rw [h1,ih (fun z hz=>hx z (List.mem_cons_of_mem _ hz)) (fun z hz=>hy z (List.mem_cons_of_mem _ hz)) h.2]
theorem txS_beq {xs ys:List Nat} (hx:∀ x∈xs,x<256) (hy:∀ y∈ys,y<256):((txS xs).toList == (txS ys).toList)=decide (xs=ys):=by
 rw [ByteArray.toList_eq,ByteArray.toList_eq]
 unfold txS
 simp only
 by_cases h:xs=ys
 ·subst h; simp
 ·rw [decide_eq_false h,Bool.eq_false_iff]
  intro e
  exact h (ofNat_injK hx hy (eq_of_beq e))
theorem conv_txA {w:World} {ad:Addr} {c:Nat} {bs:List Nat} (h8:∀ x∈bs,x<256) (hc:∀ j (hj:j<bs.length),w.cell? (ad.add j)=some (.int .u8 (bs[j]:Nat))):
 (convert 56 9 (.slice (some ad) bs.length c)).run Tryz.prog w = .ok (.string (txS bs)) w:=by
 have:=run_convert_bytes_back (P:=Tryz.prog) w 56 9 5 ad c (bs.map UInt8.ofNat) Tryz.underlying56 Tryz.underlying5 Tryz.underlying9 (fun j hj=>by
  rw [List.length_map] at hj
  rw [hc j hj,List.getElem_map,UInt8.toNat_ofNat',Nat.mod_eq_of_lt (h8 _ (List.getElem_mem hj))])
 rw [List.length_map] at this
 exact this
theorem txBytes (w:World) (t:List Nat):
 (convert 9 56 (.string (txS t))).run Tryz.prog w = .ok (.slice (some ⟨w.heap.size,0,none⟩) t.length (grownCap w t.length 0 5)) (Lib.bytesWorld w 5 (txS t)):=by
 have:=Lib.run_convert_string_bytes (P:=Tryz.prog) w 9 56 5 (txS t) Tryz.underlying9 Tryz.underlying56 Tryz.underlying5
 rw [txS_size] at this
 exact this
theorem txWorld_below (w:World) (t:List Nat):Below w.heap.size w (Lib.bytesWorld w 5 (txS t)):=
 ⟨rfl,rfl,rfl,by rw [Lib.bytesWorld_size]; omega,fun k hk=>Lib.bytesWorld_at_old w _ _ k hk⟩
theorem txWorld_reads (w:World) {t:List Nat} (h8:∀ x∈t,x<256):Reads (Lib.bytesWorld w 5 (txS t)) (Lib.bytesWorld w 5 (txS t)).heap.size 1 (some ⟨w.heap.size,0,none⟩) t.length (u8c t):=by
 refine⟨by simp [u8c],fun _=>⟨_,rfl,by rw [Lib.bytesWorld_size]; show w.heap.size<w.heap.size+1; omega,fun j v hv=>?_⟩⟩
 rw [WideShapes.add_plain,Nat.zero_add]
 have hj:j<t.length:=by
  have:=(List.getElem?_eq_some_iff.1 hv).1
  simpa [u8c] using this
 rw [Lib.bytesWorld_cell w _ _ j (by rw [txS_size]; exact hj)]
 unfold u8c at hv
 rw [List.getElem?_map,List.getElem?_eq_getElem hj] at hv
 injection hv with hv
 rw [← hv]
 unfold txS
 simp only [List.getD_eq_getElem?_getD,List.getElem?_map,List.getElem?_eq_getElem hj,Option.map_some,Option.getD_some,UInt8.toNat_ofNat']
 rw [Nat.mod_eq_of_lt (h8 _ (List.getElem_mem hj))]
end
section
open Go.RowKit
attribute [local go_sem] Oper.semAt_some
section
variable {W w:World} {p:HP} {g:Nat} {h:HM} (L:Live W w p g h)
include L
theorem kreads_any (o:Nat) (ho:o<4294967296) (t:List Nat) (h8:∀ x∈t,x<256):Calls Tryz.prog 145 #[.pointer (some ⟨g,0,none⟩),.int .u32 o,.string (txS t)] w (Told (.bool (h.isTx o t)) w):=by
 have HL:=Lib.hid (L.length o ho)
 have HB:=Lib.hid (fun (w1:World) (hb:Below w.heap.size w w1)=>(L.after hb).bytes o ho)
 obtain⟨l,G⟩:=L.good
 have hts:=txS_size t
 have HF:=Lib.hid (show h.isTx o t=(h.isB o && (decide ((h.hd (o / 2)).fmt=2) && (decide (h.lenN o=t.length) && decide (h.bodyK o=t)))) from rfl)
 have hE:h.isE o=if h.isB o then 0 else 3:=rfl
 have HGB:=Lib.hid (fun (h1:h.isB o=true) (h2:(h.hd (o / 2)).fmt=2)=>good_body G h1 h2)
 have HNB:=Lib.hid (fun (h1:h.isB o=true) (h2:(h.hd (o / 2)).fmt≠2)=>show h.bytesE o=21 from by unfold HM.bytesE; rw [if_neg (by rw [h1]; decide),if_neg h2])
 have HLT:=Lib.hid (body_lt h o)
 have HBL:=Lib.hid (body_len h o)
 clear L G
 cases hi:h.isB o with
 | false=>
   have HR:=Lib.hid (show h.isTx o t=false from by rw [HF.out,hi]; rfl)
   rw [hi] at hE
   simp only [Bool.false_eq_true,if_false] at hE
   rw [hE] at HL
   clear HF HB HGB HNB HLT HBL hE
   generalize h.lenN o=n at *
   go_enter Tryz.func145,Tryz.ntmps145
   go_wp2_with fail
   refine HL.out.mono ?_
   rintro e w1 ⟨rfl,hb1⟩
   have HB1:=Lib.hid hb1
   clear hb1 HL
   go_wp2_with fail
   go_ret
   exact⟨by rw [HR.out]; rfl,HB1.out⟩
 | true=>
   rw [hi] at hE
   simp only [if_true] at hE
   rw [hE] at HL
   by_cases hn:h.lenN o=t.length
   rotate_left
   ·have HR:=Lib.hid (show h.isTx o t=false from by rw [HF.out,decide_eq_false hn]; simp)
    clear HF HB HGB HNB HLT HBL hE
    generalize h.lenN o=n at *
    have hq:((n:Int) != (t.length:Int))=true:=by simp; omega
    have hq2:¬ ((n:Int)=(t.length:Int)):=by omega
    clear hn
    go_enter Tryz.func145,Tryz.ntmps145
    go_wp2_with fail
    refine HL.out.mono ?_
    rintro e w1 ⟨rfl,hb1⟩
    have HB1:=Lib.hid hb1
    clear hb1 HL
    go_wp2_with fail
    go_ret
    exact⟨by rw [HR.out]; rfl,HB1.out⟩
   ·rw [hn] at HL HBL
    by_cases hf:(h.hd (o / 2)).fmt=2
    rotate_left
    ·have HR:=Lib.hid (show h.isTx o t=false from by rw [HF.out,decide_eq_false hf]; simp)
     have h21:=HNB.out hi hf
     clear HF HGB HNB HLT HBL hE hf hn
     go_enter Tryz.func145,Tryz.ntmps145
     go_wp2_with fail
     refine HL.out.mono ?_
     rintro e w1 ⟨rfl,hb1⟩
     have HB2:=Lib.hid (HB.out w1 hb1)
     have HB1:=Lib.hid hb1
     clear hb1 HL HB
     go_wp2_with fail
     refine HB2.out.mono ?_
     rintro e w2 ⟨hb2,hc⟩
     rw [h21,if_neg (by decide)] at hc
     subst hc
     have HB3:=Lib.hid (below_top HB1.out hb2)
     clear hb2 HB1 h21
     go_wp2_with fail
     go_ret
     exact⟨by rw [HR.out]; rfl,HB3.out⟩
    ·obtain⟨b1,b2,b3⟩:=HGB.out hi hf
     have HR:=Lib.hid (show h.isTx o t=decide (h.bodyK o=t) from by rw [HF.out,hi,decide_eq_true hf,decide_eq_true hn]; simp)
     have hb3:(h.hd (o / 2)).len=t.length:=b3.symm.trans hn
     have HB2':=Lib.hid b2
     clear HF HGB HNB hE hf hn b2 b3
     go_enter Tryz.func145,Tryz.ntmps145
     go_wp2_with fail
     refine HL.out.mono ?_
     rintro e w1 ⟨rfl,hb1⟩
     have HB2:=Lib.hid (HB.out w1 hb1)
     have HB1:=Lib.hid hb1
     clear hb1 HL HB
     go_wp2_with fail
     refine HB2.out.mono ?_
     rintro e w2 ⟨hb2,hc⟩
     rw [b1,if_pos rfl,hb3] at hc
     obtain⟨g1,c1,rfl,hrow,hg1⟩:=hc
     have hcv:=conv_txA (w:=w2) (ad:=⟨g1,0,none⟩) (c:=t.length) HLT.out (fun j hj=>by
      rw [WideShapes.add_plain,Nat.zero_add]
      refine hrow.cell ?_
      have e:(u8c (bytesM (h.fields o))).take (h.hd (o / 2)).len=u8c (h.bodyK o):=by rw [← HB2'.out]; unfold u8c; rw [List.map_take]
      have e2:(u8c (h.bodyK o))[j]? = some (.int .u8 ((h.bodyK o)[j]:Nat)):=by unfold u8c; rw [List.getElem?_map,List.getElem?_eq_getElem hj]; rfl
      rw [← e,List.getElem?_take] at e2
      split at e2
      ·exact e2
      ·cases e2)
     rw [HBL.out] at hcv
     have hq:=txS_beq HLT.out h8
     have HB3:=Lib.hid (below_top HB1.out hb2)
     clear hb2 HB1 hrow HB2' HLT HBL b1 hb3
     generalize h.bodyK o=body at *
     go_wp2_with fail
     go_ret
     exact⟨by rw [HR.out,← hq]; rfl,HB3.out⟩
end
end
section
open Go.RowKit
attribute [local go_sem] Oper.semAt_some
section
variable {W w:World} {p:HP} {g:Nat} {h:HM} (L:Live W w p g h)
include L
set_option maxHeartbeats 2000000 in
theorem kfoundS_any (o:Nat) (ho:o<4294967296) (P:Nat→Bool) (b1 b2:Nat) (hcl:∀ w',Below w.heap.size w w'→∀ v:Nat,v<4294967296→Calls Tryz.prog 157 #[.int .u32 v,.pointer (some ⟨b1,0,none⟩),.pointer (some ⟨b2,0,none⟩)] w' (Told (.bool (P v)) w')):
 Calls Tryz.prog 111 #[.pointer (some ⟨g,0,none⟩),.int .u32 o,.func (.func 157) #[] #[.pointer (some ⟨b1,0,none⟩),.pointer (some ⟨b2,0,none⟩)]] w (fun e w'=>∃ i:Int,e = .returned (.int .i64 i)∧FndP h o P i∧ -1≤i∧i≤16777216∧Below w.heap.size w w'):=by
 have HP:=Lib.hid (kptrs_any L o ho 0 (by omega))
 have HR:=Lib.hid (fun (w1:World) (hb:Below w.heap.size w w1)=>kroot_any (L.after hb) 0)
 have HS:=Lib.hid (fun (w1:World) (hb:Below w.heap.size w w1)=>ksize_any (L.after hb) o ho)
 have HG:=Lib.hid (fun (w1:World) (hb:Below w.heap.size w w1) (i:Int)=>(L.after hb).get o ho i)
 have HCL:=Lib.hid hcl
 have hr0:h.rootN 0=h.rt 0:=rootN_rt h (i:=0) (by omega)
 have hsz:=sizK_lt L.fit o
 have HRN:=Lib.hid (fun i:Int=>HM.readN_lt L.fit o i [1,4])
 rw [hr0] at HR
 clear L hr0 hcl
 cases hp:h.ptrsK o 0 with
 | false=>
   have HF:=Lib.hid (show FndP h o P (-1) from .inl ⟨rfl,by unfold HM.entK; rw [hp]; rfl⟩)
   rw [hp] at HP
   clear hp HR HS HG HCL
   go_enter Tryz.func111,Tryz.ntmps111
   go_wp2_with fail
   refine HP.out.mono ?_
   rintro e w1 ⟨rfl,hb1⟩
   have HB1:=Lib.hid hb1
   clear hb1 HP
   go_wp2_with fail
   go_ret
   exact⟨-1,rfl,HF.out,by omega,by omega,HB1.out⟩
 | true =>
   have HEN:=Lib.hid (show h.entK o=((List.range (h.sizK o)).map fun i:Nat=>h.readN o i [1,4]).takeWhile (· ≠h.rt 0) from by unfold HM.entK; rw [if_pos hp])
   have HPT:=Lib.hid hp
   have HLK:=Lib.hid (fun (j:Nat) (hj:j<h.sizK o)=>look_ptrs hp hj)
   rw [hp] at HP
   clear hp
   obtain⟨n,hn⟩ :∃ n,n=h.sizK o:=⟨_,rfl⟩
   obtain⟨z,hz⟩ :∃ z,z=h.rt 0:=⟨_,rfl⟩
   have HN:=Lib.hid hn
   have HZ:=Lib.hid hz
   rw [← hn] at HEN HLK HS hsz
   rw [← hz] at HEN HR
   clear hn hz
   go_enter Tryz.func111,Tryz.ntmps111
   go_wp2_with fail
   refine HP.out.mono ?_
   rintro e w1 ⟨rfl,hb1⟩
   have HR1:=Lib.hid (HR.out w1 hb1)
   have HS1:=Lib.hid (HS.out w1 hb1)
   have HB1:=Lib.hid hb1
   clear hb1 HP HR HS
   go_wp2_with fail
   refine HR1.out.mono ?_
   rintro e w2 ⟨rfl,rfl⟩
   go_wp2_with fail
   refine HS1.out.mono ?_
   rintro e w2 ⟨rfl,hb2⟩
   have HB2:=Lib.hid (below_top HB1.out hb2)
   clear hb2 HR1 HS1 HB1
   go_wp2_with fail
   go_loopw [20] (fun i wr=>∃ k:Nat,i = .int .i64 k∧k≤n∧(∀ j:Nat,j<k→h.readN o (j:Nat) [1,4]≠z∧P (h.readN o (j:Nat) [1,4])=false)∧Below w.heap.size w wr) (fun i _=>n-(intOf i).toNat)
   case atStart=>exact⟨0,rfl,Nat.zero_le _,fun j hj=>absurd hj (by omega),HB2.out⟩
   case round=>
    obtain⟨k,rfl,hk,hne,hb⟩:=hrel
    by_cases hkn:k<n
    ·have hd:decide ((k:Int)<(n:Int))=true:=by simp; omega
     have HGK:=Lib.hid (HG.out wr hb (k:Int))
     have hlk:=HLK.out k hkn
     rw [hlk] at HGK
     have HNE:=Lib.hid hne
     have HB:=Lib.hid hb
     have HK:=Lib.hid hkn
     have hv32:=HRN.out (k:Int)
     clear hne hb hlk
     obtain⟨v,hv⟩ :∃ v,v=h.readN o (k:Nat) [1,4]:=⟨_,rfl⟩
     have HV:=Lib.hid hv
     rw [← hv] at HGK hv32
     clear hv
     by_cases hvz:v=z
     ·have HF:=Lib.hid (show FndP h o P (-1) from .inl ⟨rfl,by rw [HEN.out]; exact tw_none (k:=k) HNE.out hk (.inr (by rw [← HV.out]; exact hvz))⟩)
      subst hvz
      clear HNE HEN HLK HRN HCL HG HV
      go_wp2_with fail
      refine HGK.out.mono ?_
      rintro e w3 ⟨rfl,hb3⟩
      have HB3:=Lib.hid (below_top HB.out hb3)
      clear hb3 HGK HB
      go_wp2_with fail
      go_ret
      exact⟨-1,rfl,HF.out,by omega,by omega,HB3.out⟩
     ·have hq:((v:Int) == (z:Int))=false:=by simp; omega
      have hqi:¬ ((v:Int)=(z:Int)):=by omega
      have HVZ:=Lib.hid hvz
      clear hvz
      go_wp2_with fail
      refine HGK.out.mono ?_
      rintro e w3 ⟨rfl,hb3⟩
      have HC3:=Lib.hid (HCL.out w3 (below_top HB.out hb3) v hv32)
      have HB3:=Lib.hid (below_top HB.out hb3)
      clear hb3 HGK HB
      cases hPv:P v with
      | true=>
        have HF:=Lib.hid (show FndP h o P (k:Int) from .inr ⟨k,rfl,by
         rw [HEN.out]
         exact tw_find (r:=fun i:Nat=>h.readN o i [1,4]) HNE.out HK.out (by show h.readN o (k:Nat) [1,4]≠z; rw [← HV.out]; exact HVZ.out) (by show P (h.readN o (k:Nat) [1,4])=true; rw [← HV.out]; exact hPv),by rw [← HN.out]; exact HK.out,HPT.out⟩)
        rw [hPv] at HC3
        clear HNE HEN HLK HRN HCL HG HV hPv
        go_wp2_with fail
        refine HC3.out.mono ?_
        rintro e w4 ⟨rfl,hb4⟩
        have HB4:=Lib.hid (below_top HB3.out hb4)
        clear hb4 HC3 HB3
        go_wp2_with fail
        go_ret
        exact⟨(k:Int),rfl,HF.out,by omega,by omega,HB4.out⟩
      | false=>
        have HN2:=Lib.hid (show ∀ j:Nat,j<k+1→h.readN o (j:Nat) [1,4]≠z∧P (h.readN o (j:Nat) [1,4])=false from fun j hj=>by
         rcases Nat.lt_or_ge j k with q | q
         ·exact HNE.out j q
         ·obtain rfl:j=k:=by omega
          rw [← HV.out]
          exact⟨HVZ.out,hPv⟩)
        rw [hPv] at HC3
        clear HNE HV hPv
        go_wp2_with fail
        refine HC3.out.mono ?_
        rintro e w4 ⟨rfl,hb4⟩
        have HB4:=Lib.hid (below_top HB3.out hb4)
        clear hb4 HC3 HB3
        go_wp2_with fail
        go_roundw
        case rel=>exact⟨k+1,by go_num,by omega,HN2.out,HB4.out⟩
        case measure=>simp [intOf]; omega
    ·obtain rfl:k=n:=by omega
     have hd:decide ((k:Int)<(k:Int))=false:=by simp
     have HF:=Lib.hid (show FndP h o P (-1) from .inl ⟨rfl,by rw [HEN.out]; exact tw_none (k:=k) hne (Nat.le_refl _) (.inl rfl)⟩)
     have HB:=Lib.hid hb
     clear hne hb HEN HLK HRN HCL HG
     go_wp2_with fail
     go_ret
     exact⟨-1,rfl,HF.out,by omega,by omega,HB.out⟩
theorem ksym1_any (b1 b2:Nat) (t:List Nat) (h8:∀ x∈t,x<256) (B1:Blk w b1 22 #[.pointer (some ⟨g,0,none⟩)]) (B2:Blk w b2 9 #[.string (txS t)]) (v:Nat) (hv:v<4294967296):
 Calls Tryz.prog 157 #[.int .u32 v,.pointer (some ⟨b1,0,none⟩),.pointer (some ⟨b2,0,none⟩)] w (Told (.bool (h.isTx v t)) w):=by
 have HR:=Lib.hid (kreads_any L v hv t h8)
 have c1:=B1.cell 0
 have c2:=B2.cell 0
 clear L B1 B2
 generalize h.isTx v t=r at *
 go_enter Tryz.func157,Tryz.ntmps157
 go_wp2_with fail
 refine HR.out.mono ?_
 rintro e w1 ⟨rfl,hb1⟩
 have HB:=Lib.hid hb1
 clear hb1 c1 c2
 go_wp2_with fail
 go_ret
 exact⟨rfl,HB.out⟩
theorem ksymbol_any (t:List Nat) (h8:∀ x∈t,x<256):Calls Tryz.prog 134 #[.pointer (some ⟨g,0,none⟩),.string (txS t)] w (Told (.int .u32 (h.symK t:Nat)) w):=by
 have hb1:Below w.heap.size w (w.alloc (.cells #[.pointer (some ⟨g,0,none⟩)] 22)):=(Below.refl _ _).alloc (Nat.le_refl _) _
 have hb2:Below w.heap.size w ((w.alloc (.cells #[.pointer (some ⟨g,0,none⟩)] 22)).alloc (.cells #[.string (txS t)] 9)):=hb1.alloc hb1.size _
 have HX1:=Lib.hid ((Blk.new w 22 #[.pointer (some ⟨g,0,none⟩)]).alloc (.cells #[.string (txS t)] 9))
 have HX2:=Lib.hid (Blk.new (w.alloc (.cells #[.pointer (some ⟨g,0,none⟩)] 22)) 9 #[.string (txS t)])
 have hs1:(w.alloc (.cells #[.pointer (some ⟨g,0,none⟩)] 22)).heap.size=w.heap.size+1:=by simp
 rw [hs1] at HX2
 have HB2:=Lib.hid hb2
 have HL2:=Lib.hid (L.after hb2)
 have hr3:=rootN_rt h (i:=3) (by omega)
 have hr32:=L.fit.rtN 3
 have HSY:=Lib.hid (show h.symK t=if h.bareK then 0 else ((h.entK (h.rt 3)).find? (h.isTx · t)).getD 0 from rfl)
 clear L hb1 hb2 hs1
 have hr3':h.rootN 3=h.rt 3:=hr3
 rw [hr3'] at hr32
 have HR:=Lib.hid (kroot_any HL2.out 3)
 rw [hr3'] at HR
 clear hr3 hr3'
 go_enter Tryz.func134,Tryz.ntmps134
 go_upto_region 1 with fail
 have HFD:=Lib.hid (kfoundS_any HL2.out (h.rt 3) hr32 (fun v=>h.isTx v t) w.heap.size (w.heap.size+1) (fun w' hb v hv=>ksym1_any (HL2.out.after hb) _ _ t h8 (HX1.out.below hb HX1.out.lt) (HX2.out.below hb HX2.out.lt) v hv))
 have HBR:=Lib.hid (fun (w':World) (hb:Below ((w.alloc (.cells #[.pointer (some ⟨g,0,none⟩)] 22)).alloc (.cells #[.string (txS t)] 9)).heap.size ((w.alloc (.cells #[.pointer (some ⟨g,0,none⟩)] 22)).alloc (.cells #[.string (txS t)] 9)) w')=>kbare_any (HL2.out.after hb))
 have HFL:=Lib.hid (fun (w':World) (hb:Below ((w.alloc (.cells #[.pointer (some ⟨g,0,none⟩)] 22)).alloc (.cells #[.string (txS t)] 9)).heap.size ((w.alloc (.cells #[.pointer (some ⟨g,0,none⟩)] 22)).alloc (.cells #[.string (txS t)] 9)) w') (i:Nat)=>kfield_any (HL2.out.after hb) (h.rt 3) hr32 i)
 clear HL2 hr32
 generalize (w.alloc (.cells #[.pointer (some ⟨g,0,none⟩)] 22)).alloc (.cells #[.string (txS t)] 9)=w2 at *
 have c1:=HX1.out.cell 0
 go_wp2_with fail
 refine HR.out.mono ?_
 rintro e w3 ⟨rfl,rfl⟩
 go_wp2_with fail
 refine HFD.out.mono ?_
 rintro e w3 ⟨i,rfl,hF,hi1,hi2,hb3⟩
 have HS:=Lib.hid hF.sym
 have HX3:=Lib.hid (HX1.out.below hb3 HX1.out.lt)
 have HBB:=Lib.hid hb3
 have HB3:=Lib.hid (below_top HB2.out hb3)
 have hc1:=HX3.out.cell 0
 clear hF hb3 HFD HR c1 HX1 HX2 HB2
 by_cases hi:i<0
 ·have hd:decide (i<0)=true:=decide_eq_true hi
  have HV:=Lib.hid (show h.symK t=0 from by rw [HSY.out,HS.out,if_pos hi]; split <;> rfl)
  clear HS HSY HBR HFL HBB HX3
  go_wp2_with fail
  go_ret
  exact⟨by rw [HV.out]; rfl,HB3.out⟩
 ·have hd:decide (i<0)=false:=decide_eq_false hi
  obtain⟨k,rfl⟩:=Int.eq_ofNat_of_zero_le (show 0≤i by omega)
  have HV:=Lib.hid (show h.symK t=if h.bareK then 0 else h.fldK (h.rt 3) k from by rw [HSY.out,HS.out,if_neg hi,Int.toNat_natCast])
  have HBR3:=Lib.hid (HBR.out w3 HBB.out)
  clear HS HSY HBR hi
  go_wp2_with fail
  refine HBR3.out.mono ?_
  rintro e w4 ⟨rfl,hb4⟩
  have HB4:=Lib.hid (below_top HB3.out hb4)
  have HFL4:=Lib.hid (HFL.out w4 (below_top HBB.out hb4) k)
  have hd1:=(HX3.out.below hb4 HX3.out.lt).cell 0
  clear hb4 HBR3 HB3 HBB HFL hc1 HX3
  cases hbk:h.bareK with
  | true=>
    have HV2:=Lib.hid (show h.symK t=0 from by rw [HV.out,hbk]; rfl)
    clear HV HFL4 hbk
    go_wp2_with fail
    go_ret
    exact⟨by rw [HV2.out]; rfl,HB4.out⟩
  | false=>
    have HV2:=Lib.hid (show h.symK t=h.fldK (h.rt 3) k from by rw [HV.out,hbk]; rfl)
    clear HV hbk
    generalize h.rt 3=r3 at *
    go_wp2_with fail
    refine HFL4.out.mono ?_
    rintro e w5 ⟨rfl,hb5⟩
    have HB5:=Lib.hid (below_top HB4.out hb5)
    clear hb5 HFL4 HB4
    go_wp2_with fail
    go_ret
    exact⟨by rw [HV2.out]; rfl,HB5.out⟩
end
end
section
open Go.RowKit
attribute [local go_sem] Oper.semAt_some
theorem fld_lt {h:HM} (f:h.Fit) (o i:Nat):h.fldK o i<4294967296:=by
 unfold HM.fldK
 split
 ·exact HM.readN_lt f _ _ _
 ·omega
section
variable {W w:World} {p:HP} {g:Nat} {h:HM} (L:Live W w p g h)
include L
set_option maxHeartbeats 2000000 in
theorem kfoundG_any (o:Nat) (ho:o<4294967296) (P:Nat→Bool) (b1 b2:Nat) (hcl:∀ w',Below w.heap.size w w'→∀ v:Nat,v<4294967296→Calls Tryz.prog 112 #[.int .u32 v,.pointer (some ⟨b1,0,none⟩),.pointer (some ⟨b2,0,none⟩)] w' (Told (.bool (P v)) w')):
 Calls Tryz.prog 111 #[.pointer (some ⟨g,0,none⟩),.int .u32 o,.func (.func 112) #[] #[.pointer (some ⟨b1,0,none⟩),.pointer (some ⟨b2,0,none⟩)]] w (fun e w'=>∃ i:Int,e = .returned (.int .i64 i)∧FndP h o P i∧ -1≤i∧i≤16777216∧Below w.heap.size w w'):=by
 have HP:=Lib.hid (kptrs_any L o ho 0 (by omega))
 have HR:=Lib.hid (fun (w1:World) (hb:Below w.heap.size w w1)=>kroot_any (L.after hb) 0)
 have HS:=Lib.hid (fun (w1:World) (hb:Below w.heap.size w w1)=>ksize_any (L.after hb) o ho)
 have HG:=Lib.hid (fun (w1:World) (hb:Below w.heap.size w w1) (i:Int)=>(L.after hb).get o ho i)
 have HCL:=Lib.hid hcl
 have hr0:h.rootN 0=h.rt 0:=rootN_rt h (i:=0) (by omega)
 have hsz:=sizK_lt L.fit o
 have HRN:=Lib.hid (fun i:Int=>HM.readN_lt L.fit o i [1,4])
 rw [hr0] at HR
 clear L hr0 hcl
 cases hp:h.ptrsK o 0 with
 | false=>
   have HF:=Lib.hid (show FndP h o P (-1) from .inl ⟨rfl,by unfold HM.entK; rw [hp]; rfl⟩)
   rw [hp] at HP
   clear hp HR HS HG HCL
   go_enter Tryz.func111,Tryz.ntmps111
   go_wp2_with fail
   refine HP.out.mono ?_
   rintro e w1 ⟨rfl,hb1⟩
   have HB1:=Lib.hid hb1
   clear hb1 HP
   go_wp2_with fail
   go_ret
   exact⟨-1,rfl,HF.out,by omega,by omega,HB1.out⟩
 | true =>
   have HEN:=Lib.hid (show h.entK o=((List.range (h.sizK o)).map fun i:Nat=>h.readN o i [1,4]).takeWhile (· ≠h.rt 0) from by unfold HM.entK; rw [if_pos hp])
   have HPT:=Lib.hid hp
   have HLK:=Lib.hid (fun (j:Nat) (hj:j<h.sizK o)=>look_ptrs hp hj)
   rw [hp] at HP
   clear hp
   obtain⟨n,hn⟩ :∃ n,n=h.sizK o:=⟨_,rfl⟩
   obtain⟨z,hz⟩ :∃ z,z=h.rt 0:=⟨_,rfl⟩
   have HN:=Lib.hid hn
   have HZ:=Lib.hid hz
   rw [← hn] at HEN HLK HS hsz
   rw [← hz] at HEN HR
   clear hn hz
   go_enter Tryz.func111,Tryz.ntmps111
   go_wp2_with fail
   refine HP.out.mono ?_
   rintro e w1 ⟨rfl,hb1⟩
   have HR1:=Lib.hid (HR.out w1 hb1)
   have HS1:=Lib.hid (HS.out w1 hb1)
   have HB1:=Lib.hid hb1
   clear hb1 HP HR HS
   go_wp2_with fail
   refine HR1.out.mono ?_
   rintro e w2 ⟨rfl,rfl⟩
   go_wp2_with fail
   refine HS1.out.mono ?_
   rintro e w2 ⟨rfl,hb2⟩
   have HB2:=Lib.hid (below_top HB1.out hb2)
   clear hb2 HR1 HS1 HB1
   go_wp2_with fail
   go_loopw [20] (fun i wr=>∃ k:Nat,i = .int .i64 k∧k≤n∧(∀ j:Nat,j<k→h.readN o (j:Nat) [1,4]≠z∧P (h.readN o (j:Nat) [1,4])=false)∧Below w.heap.size w wr) (fun i _=>n-(intOf i).toNat)
   case atStart=>exact⟨0,rfl,Nat.zero_le _,fun j hj=>absurd hj (by omega),HB2.out⟩
   case round=>
    obtain⟨k,rfl,hk,hne,hb⟩:=hrel
    by_cases hkn:k<n
    ·have hd:decide ((k:Int)<(n:Int))=true:=by simp; omega
     have HGK:=Lib.hid (HG.out wr hb (k:Int))
     have hlk:=HLK.out k hkn
     rw [hlk] at HGK
     have HNE:=Lib.hid hne
     have HB:=Lib.hid hb
     have HK:=Lib.hid hkn
     have hv32:=HRN.out (k:Int)
     clear hne hb hlk
     obtain⟨v,hv⟩ :∃ v,v=h.readN o (k:Nat) [1,4]:=⟨_,rfl⟩
     have HV:=Lib.hid hv
     rw [← hv] at HGK hv32
     clear hv
     by_cases hvz:v=z
     ·have HF:=Lib.hid (show FndP h o P (-1) from .inl ⟨rfl,by rw [HEN.out]; exact tw_none (k:=k) HNE.out hk (.inr (by rw [← HV.out]; exact hvz))⟩)
      subst hvz
      clear HNE HEN HLK HRN HCL HG HV
      go_wp2_with fail
      refine HGK.out.mono ?_
      rintro e w3 ⟨rfl,hb3⟩
      have HB3:=Lib.hid (below_top HB.out hb3)
      clear hb3 HGK HB
      go_wp2_with fail
      go_ret
      exact⟨-1,rfl,HF.out,by omega,by omega,HB3.out⟩
     ·have hq:((v:Int) == (z:Int))=false:=by simp; omega
      have hqi:¬ ((v:Int)=(z:Int)):=by omega
      have HVZ:=Lib.hid hvz
      clear hvz
      go_wp2_with fail
      refine HGK.out.mono ?_
      rintro e w3 ⟨rfl,hb3⟩
      have HC3:=Lib.hid (HCL.out w3 (below_top HB.out hb3) v hv32)
      have HB3:=Lib.hid (below_top HB.out hb3)
      clear hb3 HGK HB
      cases hPv:P v with
      | true=>
        have HF:=Lib.hid (show FndP h o P (k:Int) from .inr ⟨k,rfl,by
         rw [HEN.out]
         exact tw_find (r:=fun i:Nat=>h.readN o i [1,4]) HNE.out HK.out (by show h.readN o (k:Nat) [1,4]≠z; rw [← HV.out]; exact HVZ.out) (by show P (h.readN o (k:Nat) [1,4])=true; rw [← HV.out]; exact hPv),by rw [← HN.out]; exact HK.out,HPT.out⟩)
        rw [hPv] at HC3
        clear HNE HEN HLK HRN HCL HG HV hPv
        go_wp2_with fail
        refine HC3.out.mono ?_
        rintro e w4 ⟨rfl,hb4⟩
        have HB4:=Lib.hid (below_top HB3.out hb4)
        clear hb4 HC3 HB3
        go_wp2_with fail
        go_ret
        exact⟨(k:Int),rfl,HF.out,by omega,by omega,HB4.out⟩
      | false=>
        have HN2:=Lib.hid (show ∀ j:Nat,j<k+1→h.readN o (j:Nat) [1,4]≠z∧P (h.readN o (j:Nat) [1,4])=false from fun j hj=>by
         rcases Nat.lt_or_ge j k with q | q
         ·exact HNE.out j q
         ·obtain rfl:j=k:=by omega
          rw [← HV.out]
          exact⟨HVZ.out,hPv⟩)
        rw [hPv] at HC3
        clear HNE HV hPv
        go_wp2_with fail
        refine HC3.out.mono ?_
        rintro e w4 ⟨rfl,hb4⟩
        have HB4:=Lib.hid (below_top HB3.out hb4)
        clear hb4 HC3 HB3
        go_wp2_with fail
        go_roundw
        case rel=>exact⟨k+1,by go_num,by omega,HN2.out,HB4.out⟩
        case measure=>simp [intOf]; omega
    ·obtain rfl:k=n:=by omega
     have hd:decide ((k:Int)<(k:Int))=false:=by simp
     have HF:=Lib.hid (show FndP h o P (-1) from .inl ⟨rfl,by rw [HEN.out]; exact tw_none (k:=k) hne (Nat.le_refl _) (.inl rfl)⟩)
     have HB:=Lib.hid hb
     clear hne hb HEN HLK HRN HCL HG
     go_wp2_with fail
     go_ret
     exact⟨-1,rfl,HF.out,by omega,by omega,HB.out⟩
theorem kisGlo_any (o:Nat) (ho:o<4294967296) (t:List Nat) (h8:∀ x∈t,x<256):Calls Tryz.prog 113 #[.pointer (some ⟨g,0,none⟩),.int .u32 o,.string (txS t)] w (Told (.bool (h.isGlo t o)) w):=by
 have HP:=Lib.hid (kptrs_any L o ho 2 (by omega))
 have HFL:=Lib.hid (fun (w1:World) (hb:Below w.heap.size w w1)=>kfield_any (L.after hb) o ho 0)
 have HRD:=Lib.hid (fun (w1:World) (hb:Below w.heap.size w w1)=>kreads_any (L.after hb) (h.fldK o 0) (fld_lt L.fit o 0) t h8)
 have HF:=Lib.hid (show h.isGlo t o=(h.ptrsK o 2 && h.isTx (h.fldK o 0) t) from rfl)
 clear L
 cases hp:h.ptrsK o 2 with
 | false=>
   have HV:=Lib.hid (show h.isGlo t o=false from by rw [HF.out,hp]; rfl)
   rw [hp] at HP
   clear HFL HRD HF hp
   go_enter Tryz.func113,Tryz.ntmps113
   go_wp2_with fail
   refine HP.out.mono ?_
   rintro e w1 ⟨rfl,hb1⟩
   have HB1:=Lib.hid hb1
   clear hb1 HP
   go_wp2_with fail
   go_ret
   exact⟨by rw [HV.out]; rfl,HB1.out⟩
 | true=>
   have HV:=Lib.hid (show h.isGlo t o=h.isTx (h.fldK o 0) t from by rw [HF.out,hp]; rfl)
   rw [hp] at HP
   clear HF hp
   go_enter Tryz.func113,Tryz.ntmps113
   go_wp2_with fail
   refine HP.out.mono ?_
   rintro e w1 ⟨rfl,hb1⟩
   have HF1:=Lib.hid (HFL.out w1 hb1)
   have HB1:=Lib.hid hb1
   clear hb1 HP HFL
   go_wp2_with fail
   refine HF1.out.mono ?_
   rintro e w2 ⟨rfl,hb2⟩
   have HR2:=Lib.hid (HRD.out w2 (below_top HB1.out hb2))
   have HB2:=Lib.hid (below_top HB1.out hb2)
   clear hb2 HF1 HB1 HRD
   go_wp2_with fail
   refine HR2.out.mono ?_
   rintro e w3 ⟨rfl,hb3⟩
   have HB3:=Lib.hid (below_top HB2.out hb3)
   clear hb3 HR2 HB2
   generalize h.isTx (h.fldK o 0) t=r at *
   go_wp2_with fail
   go_ret
   exact⟨by rw [HV.out]; rfl,HB3.out⟩
theorem kglo1_any (b1 b2:Nat) (t:List Nat) (h8:∀ x∈t,x<256) (B1:Blk w b1 22 #[.pointer (some ⟨g,0,none⟩)]) (B2:Blk w b2 9 #[.string (txS t)]) (v:Nat) (hv:v<4294967296):
 Calls Tryz.prog 112 #[.int .u32 v,.pointer (some ⟨b1,0,none⟩),.pointer (some ⟨b2,0,none⟩)] w (Told (.bool (h.isGlo t v)) w):=by
 have HR:=Lib.hid (kisGlo_any L v hv t h8)
 have c1:=B1.cell 0
 have c2:=B2.cell 0
 clear L B1 B2
 generalize h.isGlo t v=r at *
 go_enter Tryz.func112,Tryz.ntmps112
 go_wp2_with fail
 refine HR.out.mono ?_
 rintro e w1 ⟨rfl,hb1⟩
 have HB:=Lib.hid hb1
 clear hb1 c1 c2
 go_wp2_with fail
 go_ret
 exact⟨rfl,HB.out⟩
theorem kglobal_any (t:List Nat) (h8:∀ x∈t,x<256):Calls Tryz.prog 67 #[.pointer (some ⟨g,0,none⟩),.string (txS t)] w (Told (.int .u32 (h.gloK t:Nat)) w):=by
 have hb1:Below w.heap.size w (w.alloc (.cells #[.pointer (some ⟨g,0,none⟩)] 22)):=(Below.refl _ _).alloc (Nat.le_refl _) _
 have hb2:Below w.heap.size w ((w.alloc (.cells #[.pointer (some ⟨g,0,none⟩)] 22)).alloc (.cells #[.string (txS t)] 9)):=hb1.alloc hb1.size _
 have HX1:=Lib.hid ((Blk.new w 22 #[.pointer (some ⟨g,0,none⟩)]).alloc (.cells #[.string (txS t)] 9))
 have HX2:=Lib.hid (Blk.new (w.alloc (.cells #[.pointer (some ⟨g,0,none⟩)] 22)) 9 #[.string (txS t)])
 have hs1:(w.alloc (.cells #[.pointer (some ⟨g,0,none⟩)] 22)).heap.size=w.heap.size+1:=by simp
 rw [hs1] at HX2
 have HB2:=Lib.hid hb2
 have HL2:=Lib.hid (L.after hb2)
 have hr3:=rootN_rt h (i:=4) (by omega)
 have hr32:=L.fit.rtN 4
 have HSY:=Lib.hid (show h.gloK t=if h.bareK then 0 else ((h.entK (h.rt 4)).find? (h.isGlo t)).getD 0 from rfl)
 clear L hb1 hb2 hs1
 have hr3':h.rootN 4=h.rt 4:=hr3
 rw [hr3'] at hr32
 have HR:=Lib.hid (kroot_any HL2.out 4)
 rw [hr3'] at HR
 clear hr3 hr3'
 go_enter Tryz.func67,Tryz.ntmps67
 go_upto_region 1 with fail
 have HFD:=Lib.hid (kfoundG_any HL2.out (h.rt 4) hr32 (fun v=>h.isGlo t v) w.heap.size (w.heap.size+1) (fun w' hb v hv=>kglo1_any (HL2.out.after hb) _ _ t h8 (HX1.out.below hb HX1.out.lt) (HX2.out.below hb HX2.out.lt) v hv))
 have HBR:=Lib.hid (fun (w':World) (hb:Below ((w.alloc (.cells #[.pointer (some ⟨g,0,none⟩)] 22)).alloc (.cells #[.string (txS t)] 9)).heap.size ((w.alloc (.cells #[.pointer (some ⟨g,0,none⟩)] 22)).alloc (.cells #[.string (txS t)] 9)) w')=>kbare_any (HL2.out.after hb))
 have HFL:=Lib.hid (fun (w':World) (hb:Below ((w.alloc (.cells #[.pointer (some ⟨g,0,none⟩)] 22)).alloc (.cells #[.string (txS t)] 9)).heap.size ((w.alloc (.cells #[.pointer (some ⟨g,0,none⟩)] 22)).alloc (.cells #[.string (txS t)] 9)) w') (i:Nat)=>kfield_any (HL2.out.after hb) (h.rt 4) hr32 i)
 clear HL2 hr32
 generalize (w.alloc (.cells #[.pointer (some ⟨g,0,none⟩)] 22)).alloc (.cells #[.string (txS t)] 9)=w2 at *
 have c1:=HX1.out.cell 0
 go_wp2_with fail
 refine HR.out.mono ?_
 rintro e w3 ⟨rfl,rfl⟩
 go_wp2_with fail
 refine HFD.out.mono ?_
 rintro e w3 ⟨i,rfl,hF,hi1,hi2,hb3⟩
 have HS:=Lib.hid hF.sym
 have HX3:=Lib.hid (HX1.out.below hb3 HX1.out.lt)
 have HBB:=Lib.hid hb3
 have HB3:=Lib.hid (below_top HB2.out hb3)
 have hc1:=HX3.out.cell 0
 clear hF hb3 HFD HR c1 HX1 HX2 HB2
 by_cases hi:i<0
 ·have hd:decide (i<0)=true:=decide_eq_true hi
  have HV:=Lib.hid (show h.gloK t=0 from by rw [HSY.out,HS.out,if_pos hi]; split <;> rfl)
  clear HS HSY HBR HFL HBB HX3
  go_wp2_with fail
  go_ret
  exact⟨by rw [HV.out]; rfl,HB3.out⟩
 ·have hd:decide (i<0)=false:=decide_eq_false hi
  obtain⟨k,rfl⟩:=Int.eq_ofNat_of_zero_le (show 0≤i by omega)
  have HV:=Lib.hid (show h.gloK t=if h.bareK then 0 else h.fldK (h.rt 4) k from by rw [HSY.out,HS.out,if_neg hi,Int.toNat_natCast])
  have HBR3:=Lib.hid (HBR.out w3 HBB.out)
  clear HS HSY HBR hi
  go_wp2_with fail
  refine HBR3.out.mono ?_
  rintro e w4 ⟨rfl,hb4⟩
  have HB4:=Lib.hid (below_top HB3.out hb4)
  have HFL4:=Lib.hid (HFL.out w4 (below_top HBB.out hb4) k)
  have hd1:=(HX3.out.below hb4 HX3.out.lt).cell 0
  clear hb4 HBR3 HB3 HBB HFL hc1 HX3
  cases hbk:h.bareK with
  | true=>
    have HV2:=Lib.hid (show h.gloK t=0 from by rw [HV.out,hbk]; rfl)
    clear HV HFL4 hbk
    go_wp2_with fail
    go_ret
    exact⟨by rw [HV2.out]; rfl,HB4.out⟩
  | false=>
    have HV2:=Lib.hid (show h.gloK t=h.fldK (h.rt 4) k from by rw [HV.out,hbk]; rfl)
    clear HV hbk
    generalize h.rt 4=r3 at *
    go_wp2_with fail
    refine HFL4.out.mono ?_
    rintro e w5 ⟨rfl,hb5⟩
    have HB5:=Lib.hid (below_top HB4.out hb5)
    clear hb5 HFL4 HB4
    go_wp2_with fail
    go_ret
    exact⟨by rw [HV2.out]; rfl,HB5.out⟩
end
end
section
open Go.RowKit
section
variable {h:HM} {l:List Ob}
theorem unhd_of {x:Hd} (f:x.Fit) (c r:Nat):unhd x.w0 c r=⟨x.size,x.fmt,x.spare,c,r⟩:=by
 have h1:=f.size
 have h2:=f.fmt
 have h3:=f.spare
 unfold unhd Hd.w0
 congr 1 <;> omega
theorem push_isB (G:h.Good l) (x:Hd) (ys:List Nat):(h.pushH x ys).isB (2*h.words.length)=true:=by
 have h1:=G.fit.one
 have h2:=G.fit.marks
 unfold HM.isB
 simp only [Bool.and_eq_true]
 refine⟨(objB_iff _).2 (by omega),?_⟩
 rw [show 2*h.words.length / 2=h.words.length by omega]
 unfold HM.pushH
 simp only
 rw [List.getD_eq_getElem?_getD,List.getElem?_append_right (by omega),h2,Nat.sub_self]
 rfl
theorem push_hd (h:HM) {x:Hd} (f:x.Fit) (ys:List Nat):(h.pushH x ys).hd (2*h.words.length / 2)=⟨x.size,x.fmt,x.spare,x.cls,h.last+1⟩:=by
 rw [show 2*h.words.length / 2=h.words.length by omega]
 have e:∀ j v,([x.w0,x.cls,h.last+1]:List Nat)[j]? = some v→(h.pushH x ys).w (h.words.length+j)=v:=fun j v hv=>by
  have hj:j<3:=by
   have:=(List.getElem?_eq_some_iff.1 hv).1
   simpa using this
  unfold HM.w HM.pushH
  simp only
  rw [List.append_assoc,List.getD_eq_getElem?_getD,List.getElem?_append_right (by omega),Nat.add_sub_cancel_left,List.getElem?_append_left (by simp; omega),hv]
  rfl
 have e0:=e 0 _ rfl
 have e1:=e 1 _ rfl
 have e2:=e 2 _ rfl
 rw [Nat.add_zero] at e0
 unfold HM.hd
 rw [e0,e1,e2]
 exact unhd_of f _ _
theorem alloc_new (G:h.Good l) {c:Nat} {f n:Int} (hc:c<4294967296) (h0:h.AllocE c f n=0):
 (h.AllocH c f n).isB (2*h.words.length)=true∧((h.AllocH c f n).hd (2*h.words.length / 2)).fmt=f.toNat∧((h.AllocH c f n).hd (2*h.words.length / 2)).size=n.toNat∧1≤f∧f≤4∧0≤n∧n≤65535:=by
 have h1:=h0
 unfold HM.AllocE at h1
 split at h1
 ·rename_i hok
  have hok2:=hok
  unfold allocOk at hok
  simp only [Bool.and_eq_true,decide_eq_true_eq] at hok
  obtain⟨⟨⟨a1,a2⟩,a3⟩,a4⟩:=hok
  have hf:(mkHd c f n).Fit:=⟨by show n.toNat<16777216; omega,by show f.toNat<8; omega,by show 0<4; omega,hc,by show 0<4294967296; omega⟩
  rw [alloc_push h0,push_hd h hf]
  exact⟨push_isB G _ _,rfl,rfl,a1,a2,a3,a4⟩
 ·omega
theorem size_le (G:h.Good l) {a:Nat} (hb:h.isB a=true):(h.hd (a / 2)).size≤65535:=by
 obtain⟨x,b,c,rfl,rfl⟩:=(G.laid.isB_iff a).1 hb
 rw [half_pos,G.laid.hd_at]
 have:=G.laid.ok_at.may
 unfold Hd.may at this
 simp only [Bool.and_eq_true,decide_eq_true_eq] at this
 exact this.1.1.1
theorem putE_ok {a i v:Nat} (hp:h.ptrsK a 0=true) (hi:i<h.sizK a) (hv:h.valB v=true):h.putE a i v=0:=by
 unfold HM.putE
 rw [if_pos (look_ptrs hp hi),if_pos hv]
theorem used_ent {a:Nat} (hp:h.ptrsK a 0=true):h.usedK a=(h.entK a).length:=by
 unfold HM.usedK HM.entK
 rw [if_pos hp]
 rcases Nat.lt_or_ge ((List.range (h.sizK a)).findIdx fun i:Nat=>decide (h.lookE a i [1,4]≠0) || decide (h.readN a i [1,4]=h.rt 0)) (h.sizK a) with hlt | hge
 ·generalize hk:(List.range (h.sizK a)).findIdx (fun i:Nat=>decide (h.lookE a i [1,4]≠0) || decide (h.readN a i [1,4]=h.rt 0))=k at *
  have hkl:k<(List.range (h.sizK a)).length:=by rw [List.length_range]; exact hlt
  obtain⟨e1,e2⟩:=(List.findIdx_eq hkl).1 hk
  rw [List.getElem_range] at e1
  refine (tw_len (r:=fun i:Nat=>h.readN a i [1,4]) (fun j hj=>?_) (Nat.le_of_lt hlt) (.inr ?_)).symm
  ·have:=e2 j hj
   rw [List.getElem_range] at this
   simp at this
   exact this.2
  ·rw [look_ptrs hp hlt] at e1
   simpa using e1
 ·have hk:(List.range (h.sizK a)).findIdx (fun i:Nat=>decide (h.lookE a i [1,4]≠0) || decide (h.readN a i [1,4]=h.rt 0))=(List.range (h.sizK a)).length:=by
   rw [List.length_range]
   have:=List.findIdx_le_length (xs:=List.range (h.sizK a)) (p:=fun i:Nat=>decide (h.lookE a i [1,4]≠0) || decide (h.readN a i [1,4]=h.rt 0))
   rw [List.length_range] at this
   omega
  rw [hk,List.length_range]
  rw [List.findIdx_eq_length] at hk
  refine (tw_len (r:=fun i:Nat=>h.readN a i [1,4]) (fun j hj=>?_) (Nat.le_refl _) (.inl rfl)).symm
  have:=hk j (by simpa using hj)
  simp at this
  exact this.2
end
end
end Go.Proofs.YtdoahpflemgaeaaGreatDoor
