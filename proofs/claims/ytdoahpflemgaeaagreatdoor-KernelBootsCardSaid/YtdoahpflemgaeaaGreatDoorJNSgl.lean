import Derived.Test.YtdoahpflemgaeaaGreatDoorJNInt
import Derived.Test.YtdoahpflemgaeaaGreatDoorJNAwB
set_option linter.unusedVariables false
set_option linter.unusedSimpArgs false
set_option linter.unusedSectionVars false
namespace Go.Proofs.YtdoahpflemgaeaaGreatDoor
section
open Go.RowKit
attribute [local go_sem] Oper.semAt_some
theorem glo_lt {h:HM} (f:h.Fit) (t:List Nat):h.gloK t<4294967296:=by
 unfold HM.gloK
 split
 ·omega
 ·cases hq:(h.entK (h.rt 4)).find? (h.isGlo t) with
  | none=>simp
  | some x=>
    have hm:=List.mem_of_find?_eq_some hq
    unfold HM.entK at hm
    split at hm
    ·have:=(List.takeWhile_sublist _).subset hm
     obtain⟨i,_,rfl⟩:=List.mem_map.1 this
     exact HM.readN_lt f _ _ _
    ·cases hm
section
variable {W w:World} {p:HP} {g:Nat} {h:HM} (L:Live W w p g h)
include L
set_option maxRecDepth 100000 in
set_option maxHeartbeats 8000000 in
theorem ksetGlobal_any (t:List Nat) (v:Nat) (h8:∀ x∈t,x<256) (hlen:t.length≤9223372036854775807) (hv32:v<4294967296):
 Calls Tryz.prog 48 #[.pointer (some ⟨g,0,none⟩),.string (txS t),.int .u32 v] w (Done W p g (h.setGloK t v).1 (.tuple #[.int .u32 ((h.setGloK t v).2.1:Nat),.int .i64 ((h.setGloK t v).2.2:Nat)]) w):=by
 have hb1:Below w.heap.size w (w.alloc (.cells #[.pointer (some ⟨g,0,none⟩)] 22)):=(Below.refl _ _).alloc (Nat.le_refl _) _
 have hb2:Below w.heap.size w ((w.alloc (.cells #[.pointer (some ⟨g,0,none⟩)] 22)).alloc (.cells #[.string (txS t)] 9)):=hb1.alloc hb1.size _
 have hb3:Below w.heap.size w (((w.alloc (.cells #[.pointer (some ⟨g,0,none⟩)] 22)).alloc (.cells #[.string (txS t)] 9)).alloc (.cells #[.int .u32 (v:Nat)] 38)):=hb2.alloc hb2.size _
 have hs1:(w.alloc (.cells #[.pointer (some ⟨g,0,none⟩)] 22)).heap.size=w.heap.size+1:=by simp
 have hs2:((w.alloc (.cells #[.pointer (some ⟨g,0,none⟩)] 22)).alloc (.cells #[.string (txS t)] 9)).heap.size=w.heap.size+1+1:=by simp
 have HX1:=Lib.hid (((Blk.new w 22 #[.pointer (some ⟨g,0,none⟩)]).alloc (.cells #[.string (txS t)] 9)).alloc (.cells #[.int .u32 (v:Nat)] 38))
 have HX2:=Lib.hid ((Blk.new (w.alloc (.cells #[.pointer (some ⟨g,0,none⟩)] 22)) 9 #[.string (txS t)]).alloc (.cells #[.int .u32 (v:Nat)] 38))
 have HX4:=Lib.hid (Blk.new ((w.alloc (.cells #[.pointer (some ⟨g,0,none⟩)] 22)).alloc (.cells #[.string (txS t)] 9)) 38 #[.int .u32 (v:Nat)])
 rw [hs1] at HX2
 rw [hs2] at HX4
 have HB2:=Lib.hid hb3
 have HL2:=Lib.hid (L.after hb3)
 have HPL:=Lib.hid (show ∀ k,p.has k→k<w.heap.size from fun k hk=>L.at_.lt hk)
 have HWw:=Lib.hid (show W.heap.size≤w.heap.size from L.below.size)
 have hr4:h.rootN 4=h.rt 4:=rootN_rt h (i:=4) (by omega)
 have HR32:=Lib.hid (show h.rt 4<4294967296 from L.fit.root 4); have HR4:=Lib.hid hr4; have H8:=Lib.hid h8
 have HI:=Lib.hid (show h.setGloK t v=if h.bareK then (h,0,40)
  else if h.valB v=false then (h,0,3)
  else if h.gloK t≠0 then (h.putH (h.gloK t) 1 v,h.gloK t,0)
  else if h.ptrsK (h.rt 4) 0=false then (h,0,40)
  else if (h.internK t).2.2≠0 then (h,0,(h.internK t).2.2)
  else if (h.internK t).1.AllocE ((h.internK t).1.rt 23) 1 2≠0 then (h,0,(h.internK t).1.AllocE ((h.internK t).1.rt 23) 1 2)
  else if (segH (h.internK t).1 (h.internK t).2.1 v).2≠0 then (h,0,(segH (h.internK t).1 (h.internK t).2.1 v).2)
  else ((segH (h.internK t).1 (h.internK t).2.1 v).1,2*(h.internK t).1.words.length,0) from rfl)
 have hgl:=glo_lt L.fit t
 clear L hb1 hb2 hb3 hs1 hs2 h8 hr4
 go_enter Tryz.func48,Tryz.ntmps48
 go_upto_region 1 with fail
 generalize ((w.alloc (.cells #[.pointer (some ⟨g,0,none⟩)] 22)).alloc (.cells #[.string (txS t)] 9)).alloc (.cells #[.int .u32 (v:Nat)] 38)=w2 at *
 have c1:=HX1.out.cell 0
 have HBR:=Lib.hid (kbare_any HL2.out)
 go_wp2_with fail
 refine HBR.out.mono ?_
 rintro e w3 ⟨rfl,hb3⟩
 have HX13:=Lib.hid (HX1.out.below hb3 HX1.out.lt); have HX23:=Lib.hid (HX2.out.below hb3 HX2.out.lt); have HX43:=Lib.hid (HX4.out.below hb3 HX4.out.lt)
 have HL3:=Lib.hid (HL2.out.after hb3); have HB3:=Lib.hid (below_top HB2.out hb3)
 clear hb3 HBR c1 HX1 HX2 HX4 HL2 HB2
 cases hbk:h.bareK with
 | true=>
   have HI2:=Lib.hid (HI.out.trans (if_pos hbk))
   clear HI hbk
   go_wp2_with fail
   go_ret2
   rw [HI2.out]
   exact⟨p,rfl,HL3.out,Step.of_below HB3.out⟩
 | false =>
   have HI2:=Lib.hid (HI.out.trans (if_neg (by rw [hbk]; decide)))
   clear HI hbk
   have c1:=HX13.out.cell 0; have c4:=HX43.out.cell 0
   have HKD:=Lib.hid (kind_any v hv32 w3)
   have HIS:=Lib.hid (HL3.out.is v hv32)
   by_cases hval:h.valB v=true
   rotate_left
   ·have hvf:h.valB v=false:=by cases q:h.valB v with | true=>exact absurd q hval | false=>rfl
    have hk2:kindM v=2∧h.isB v=false:=by
     unfold HM.valB objB at hvf
     simpa using hvf
    rw [hk2.1] at HKD
    rw [hk2.2] at HIS
    have HI3:=Lib.hid (HI2.out.trans (if_pos hvf))
    clear HI2 hval hvf hk2
    go_wp2_with fail
    refine HKD.out.mono ?_
    rintro e w4 ⟨rfl,rfl⟩
    go_wp2_with fail
    refine HIS.out.mono ?_
    rintro e w4 ⟨rfl,rfl⟩
    go_wp2_with fail
    go_ret2
    rw [HI3.out]
    exact⟨p,rfl,HL3.out,Step.of_below HB3.out⟩
   have HI3:=Lib.hid (HI2.out.trans (if_neg (by rw [hval]; decide)))
   have HVAL:=Lib.hid hval
   have HGL:=Lib.hid (kglobal_any HL3.out t H8.out)
   clear HI2
   have hkk:kindM v≠2∨(kindM v=2∧h.isB v=true):=by
    unfold HM.valB objB at hval
    simp only [Bool.or_eq_true,Bool.not_eq_true',decide_eq_false_iff_not] at hval
    by_cases q:kindM v=2
    ·exact .inr ⟨q,hval.resolve_left (fun r=>r q)⟩
    ·exact .inl q
   clear hval
   go_upto_region 3 with fail
   go_cut [21] (fun v21 wx=>v21 = .bool false∧wx=w3)
   case first=>
    rcases hkk with hk | ⟨hk,hi⟩
    ·generalize kindM v=kd at *
     have hq:((kd:Int) == 2)=false:=by simp; omega
     clear hk
     go_wp2_with fail
     refine HKD.out.mono ?_
     rintro e w4 ⟨rfl,rfl⟩
     go_wp2_with fail
     go_meet
     exact⟨rfl,rfl⟩
    ·rw [hk] at HKD
     rw [hi] at HIS
     clear hk hi
     go_wp2_with fail
     refine HKD.out.mono ?_
     rintro e w4 ⟨rfl,rfl⟩
     go_wp2_with fail
     refine HIS.out.mono ?_
     rintro e w4 ⟨rfl,rfl⟩
     go_wp2_with fail
     go_meet
     exact⟨rfl,rfl⟩
   case rest=>
    obtain⟨rfl,hwc⟩:=hcut
    subst hwc
    clear HKD HIS hkk c4
    have c2:=HX23.out.cell 0
    go_wp2_with fail
    refine HGL.out.mono ?_
    rintro e w4 ⟨rfl,hb4⟩
    have HX14:=Lib.hid (HX13.out.below hb4 HX13.out.lt); have HX24:=Lib.hid (HX23.out.below hb4 HX23.out.lt); have HX44:=Lib.hid (HX43.out.below hb4 HX43.out.lt)
    have HL4:=Lib.hid (HL3.out.after hb4); have HB4:=Lib.hid (below_top HB3.out hb4)
    clear hb4 HGL c1 c2 HX13 HX23 HX43 HL3 HB3
    by_cases hg0:h.gloK t=0
    rotate_left
    ·have HI4:=Lib.hid (HI3.out.trans (if_pos hg0))
     have HGV:=Lib.hid hgl
     generalize h.gloK t=gv at *
     have hnei:¬ ((gv:Int)=0):=by omega
     have HPUT:=Lib.hid (HL4.out.put gv HGV.out 1 v hv32)
     have c1:=HX14.out.cell 0; have c4:=HX44.out.cell 0
     clear HI3 hg0 hgl
     go_wp2_with fail
     refine HPUT.out.mono ?_
     rintro e w5 ⟨p5,rfl,L5,s5⟩
     have HL5:=Lib.hid L5; have HS5:=Lib.hid ((Step.of_below HB4.out).trans s5)
     clear L5 s5
     go_wp2_with fail
     go_ret2
     rw [HI4.out]
     exact⟨p5,rfl,HL5.out,HS5.out⟩
    have HI4:=Lib.hid (HI3.out.trans (if_neg (fun q=>q hg0)))
    rw [hg0]
    clear HI3 hg0 hgl
    go_upto_region 9 with fail
    have HRT:=Lib.hid (fun (w':World) (hb:Below w4.heap.size w4 w')=>kroot_any (HL4.out.after hb) 4)
    rw [HR4.out] at HRT
    have HPT:=Lib.hid (fun (w':World) (hb:Below w4.heap.size w4 w')=>kptrs_any (HL4.out.after hb) (h.rt 4) HR32.out 0 (by omega))
    have HINV:=Lib.hid (fun (w':World) (hb:Below w4.heap.size w4 w')=>show w'.cell? ⟨w.heap.size,0,none⟩=some (.pointer (some ⟨g,0,none⟩))∧True from⟨(HX14.out.below hb HX14.out.lt).cell 0,trivial⟩)
    go_cut [36] (fun v36 wx=>v36 = .bool (!h.ptrsK (h.rt 4) 0)∧Below w4.heap.size w4 wx)
    case first=>
     have hB0:Below w4.heap.size w4 w4.drew:=below_drew (Below.refl _ _)
     generalize h.rt 4=r4 at *
     refine wp_region_U 4 (fun w'=>w'.cell? ⟨w.heap.size,0,none⟩=some (.pointer (some ⟨g,0,none⟩))∧True) (by kernel_rfl) ?_
     have hS:=HINV.out _ hB0
     refine U_readC 0 [3,4] (v:=(.pointer (some ⟨g,0,none⟩))) rfl (by kernel_rfl) (fun _ _ _ h=>h) hS (by kernel_rfl) (fun w' hw'=>by obtain⟨h0,h1⟩:=hw'; go_simp) ?_
     try simp only [Act.put,List.setIfInBounds_toArray,List.set_cons_zero,List.set_cons_succ]
     refine U_readC 1 [2,3,4] (v:=(.pointer (some ⟨g,0,none⟩))) rfl (by kernel_rfl) (fun _ _ _ h=>h) hS (by kernel_rfl) (fun w' hw'=>by obtain⟨h0,h1⟩:=hw'; go_simp) ?_
     try simp only [Act.put,List.setIfInBounds_toArray,List.set_cons_zero,List.set_cons_succ]
     refine U_one 2 (by kernel_rfl) rfl rfl (fun K hK=>?_)
     go_simp
     refine (HRT.out _ hB0).mono ?_
     rintro e w6 ⟨rfl,rfl⟩
     refine hK _ _ (fun _=>hS) ?_
     clear hK K
     try simp only [Act.put,List.setIfInBounds_toArray,List.set_cons_zero,List.set_cons_succ]
     refine U_one 3 (by kernel_rfl) rfl rfl (fun K hK=>?_)
     go_simp
     refine (HPT.out _ hB0).mono ?_
     rintro e w7 ⟨rfl,hb7⟩
     have hB7:=below_top hB0 hb7
     refine hK _ _ (fun _=>HINV.out _ hB7) ?_
     clear hK K
     try simp only [Act.put,List.setIfInBounds_toArray,List.set_cons_zero,List.set_cons_succ]
     generalize h.ptrsK r4 0=b at *
     refine U_one 4 (by kernel_rfl) rfl rfl (fun K hK=>?_)
     go_simp
     refine hK _ _ (fun h=>absurd h (by decide)) ?_
     clear hK K
     try simp only [Act.put,List.setIfInBounds_toArray,List.set_cons_zero,List.set_cons_succ]
     refine U_done (by kernel_rfl) ?_ _
     simp only [Calm,Exit.then]
     go_wp2_with fail
     go_meet
     exact⟨rfl,hB7⟩
    case rest=>
     obtain⟨rfl,hbc⟩:=hcut
     have HBC:=Lib.hid hbc
     have hsz4:w.heap.size+1+1<w4.heap.size:=HX44.out.lt
     have hszc:=hbc.size
     clear hbc HRT HPT HINV
     cases hc:h.ptrsK (h.rt 4) 0 with
     | false=>
       have HI5:=Lib.hid (HI4.out.trans (if_pos hc))
       have HLF:=Lib.hid (HL4.out.after HBC.out)
       have HBF:=Lib.hid (below_top HB4.out HBC.out)
       clear hc HI4
       go_wp2_with fail
       go_ret2
       rw [HI5.out]
       exact⟨p,rfl,HLF.out,Step.of_below HBF.out⟩
     | true=>
       have HI5:=Lib.hid (HI4.out.trans (if_neg (by rw [hc]; decide)))
       have hb5:Below wc.heap.size wc (wc.alloc (.cells #[.int .u32 0] 38)):=(Below.refl _ _).alloc (Nat.le_refl _) _
       have hbt:=below_top HBC.out hb5
       have HX15:=Lib.hid (HX14.out.below hbt HX14.out.lt)
       have HX25:=Lib.hid (HX24.out.below hbt HX24.out.lt)
       have HX45:=Lib.hid (HX44.out.below hbt HX44.out.lt)
       have HX35:=Lib.hid (Blk.new wc 38 #[.int .u32 0])
       have HL5:=Lib.hid (HL4.out.after hbt)
       have HBW5:=Lib.hid (below_top HB4.out hbt)
       have hx3:wc.heap.size<(wc.alloc (.cells #[.int .u32 0] 38)).heap.size:=by simp
       have HUN:=Lib.hid (kundoG_any HL5.out w.heap.size (w.heap.size+1) wc.heap.size (w.heap.size+1+1) wc.heap.size hx3 (GloR h t v wc.heap.size) (fun w1 hb=>kseg1_any (HL5.out.after hb) w.heap.size (w.heap.size+1) wc.heap.size (w.heap.size+1+1) t v H8.out hlen
       ⟨HX15.out.below hb HX15.out.lt,HX25.out.below hb HX25.out.lt,HX35.out.below hb HX35.out.lt,HX45.out.below hb HX45.out.lt,fun q=>by have:=HPL.out _ q; omega,fun q=>by have:=HPL.out _ q; omega,fun q=>by have:=HPL.out _ q; omega,fun q=>by have:=HPL.out _ q; omega,by omega,by omega,by omega⟩ (by have:=HWw.out; omega) hc HVAL.out hv32))
       have d1:=HX15.out.cell 0
       clear hc HI4 hb5 hbt HX14 HX24 HX44 HL4 HX25 HX35 HX45 HL5 HB4 HBC
       go_upto_region 12 with fail
       generalize wc.alloc (.cells #[.int .u32 0] 38)=w5 at *
       generalize hb3:wc.heap.size=b3 at *
       have HB3:=Lib.hid hb3
       clear hb3
       go_wp2_with fail
       refine HUN.out.mono ?_
       rintro e w6 ⟨E,h',p',rfl,L6,s6,hne,h1,w1,hR,hz⟩
       have HS6:=Lib.hid (s6.step HBW5.out HPL.out (by omega))
       have HL6:=Lib.hid L6
       have hR2:=hR
       unfold GloR at hR2
       by_cases hE:E=0
       ·obtain⟨e1,e2⟩:=hz hE
        subst e1 e2
        have hm1:(h.internK t).2.2=0:=Classical.byContradiction fun q=>by
         rw [if_pos q] at hR2
         omega
        rw [if_neg (fun q=>q hm1)] at hR2
        have hm2:(h.internK t).1.AllocE ((h.internK t).1.rt 23) 1 2=0:=Classical.byContradiction fun q=>by
         rw [if_pos q] at hR2
         omega
        rw [if_neg (fun q=>q hm2)] at hR2
        obtain⟨f1,f2,f3⟩:=hR2
        have HI6:=Lib.hid (((HI5.out.trans (if_neg (fun q=>q hm1))).trans (if_neg (fun q=>q hm2))).trans (if_neg (fun q=>q (f1.symm.trans hE))))
        rw [← f2] at HI6
        have c3:=f3.cell 0
        subst hE
        clear L6 s6 hne hR hz hm1 hm2 f1 f2 f3 HUN HI5
        generalize 2*(h.internK t).1.words.length=o at *
        go_wp2_with fail
        go_ret2
        rw [HI6.out]
        exact⟨p',rfl,HL6.out,HS6.out⟩
       ·have hh:=hne hE
        have HI6:=Lib.hid (show h.setGloK t v=(h,0,E) from by
         rw [HI5.out]
         by_cases hm1:(h.internK t).2.2=0
         ·rw [if_neg (fun q=>q hm1)] at hR2 ⊢
          by_cases hm2:(h.internK t).1.AllocE ((h.internK t).1.rt 23) 1 2=0
          ·rw [if_neg (fun q=>q hm2)] at hR2 ⊢
           rw [if_pos (by rw [← hR2.1]; exact hE),← hR2.1]
          ·rw [if_pos hm2] at hR2 ⊢
           rw [hR2]
         ·rw [if_pos hm1] at hR2 ⊢
          rw [hR2])
        subst hh
        have hnEi:¬ ((E:Int)=0):=by omega
        clear L6 s6 hne hR hz hR2 HUN HI5 hE
        go_wp2_with fail
        go_ret2
        rw [HI6.out]
        exact⟨p',rfl,HL6.out,HS6.out⟩
end
end
section
open Go.RowKit
attribute [local go_sem] Oper.semAt_some
structure RowU (p:HP) (w:World) (A:Option Addr) (xs:List Nat):Prop where
 at_:∀ i,i<xs.length→∃ ad,A=some ad∧ad.block<w.heap.size∧¬ p.has ad.block∧w.cell? (ad.add i)=some (.int .u32 (xs.getD i 0:Nat))
theorem RowU.step {p p':HP} {w w':World} {A:Option Addr} {xs:List Nat} (R:RowU p w A xs) (s:Step p p' w w'):RowU p' w' A xs:=⟨fun i hi=>by
 obtain⟨ad,h1,h2,h3,h4⟩:=R.at_ i hi
 refine⟨ad,h1,Nat.lt_of_lt_of_le h2 s.size,fun q=>?_,(World.cell?_of_block (a:=ad.add i) (by rw [block_of_add]; exact s.block _ h2 h3)).trans h4⟩
 rcases s.rows _ q with q | q
 ·exact h3 q
 ·omega⟩
theorem RowU.below {p:HP} {w w':World} {A:Option Addr} {xs:List Nat} (R:RowU p w A xs) (s:Below w.heap.size w w'):RowU p w' A xs:=R.step (Step.of_below s)
theorem anyA_none {P:Nat→Bool} {xs:List Nat} (h:∀ i,i<xs.length→P (xs.getD i 0)=false):xs.any P=false:=by
 rw [List.any_eq_false]
 intro x hx
 obtain⟨i,hi,rfl⟩:=List.getElem_of_mem hx
 have:=h i hi
 rw [List.getD_eq_getElem?_getD,List.getElem?_eq_getElem hi] at this
 simpa using this
theorem anyA_get {P:Nat→Bool} {xs:List Nat} {i:Nat} (hi:i<xs.length) (h:P (xs.getD i 0)=true):xs.any P=true:=by
 rw [List.any_eq_true]
 rw [List.getD_eq_getElem?_getD,List.getElem?_eq_getElem hi] at h
 exact⟨_,List.getElem_mem hi,h⟩
theorem getA_lt {xs:List Nat} (h:∀ x∈xs,x<4294967296) (i:Nat):xs.getD i 0<4294967296:=by
 rw [List.getD_eq_getElem?_getD]
 rcases Nat.lt_or_ge i xs.length with q | q
 ·rw [List.getElem?_eq_getElem q]; exact h _ (List.getElem_mem q)
 ·rw [List.getElem?_eq_none q]; simp
section
variable {W w:World} {p:HP} {g:Nat} {h:HM} (L:Live W w p g h)
include L
set_option maxRecDepth 100000 in
set_option maxHeartbeats 8000000 in
theorem karray_any (A:Option Addr) (c:Nat) (xs:List Nat) (R:RowU p w A xs) (hx:∀ x∈xs,x<4294967296) (hlen:xs.length≤9223372036854775807):
 Calls Tryz.prog 93 #[.pointer (some ⟨g,0,none⟩),.slice A xs.length c] w (Done W p g (h.arrK xs).1 (.tuple #[.int .u32 ((h.arrK xs).2.1:Nat),.int .i64 ((h.arrK xs).2.2:Nat)]) w):=by
 have HBR:=Lib.hid (kbare_any L)
 have HL:=Lib.hid L; have HR:=Lib.hid R; have HX:=Lib.hid hx
 have HI:=Lib.hid (show h.arrK xs=if h.bareK then (h,0,40)
  else if xs.any (fun o=> !h.valB o) then (h,0,3)
  else if 65535<xs.length then (h,0,2)
  else if h.AllocE (h.rt 20) 1 xs.length≠0 then (h,0,h.AllocE (h.rt 20) 1 xs.length)
  else ((h.AllocH (h.rt 20) 1 xs.length).copyK (2*h.words.length) (fun i=>xs.getD i 0) xs.length,2*h.words.length,0) from rfl)
 clear L R hx
 obtain⟨n,hn⟩ :∃ n,n=xs.length:=⟨_,rfl⟩
 have HN:=Lib.hid hn
 rw [← hn] at HI hlen
 rw [← hn]
 clear hn
 go_enter Tryz.func93,Tryz.ntmps93
 go_wp2_with fail
 refine HBR.out.mono ?_
 rintro e w1 ⟨rfl,hb1⟩
 have HL1:=Lib.hid (HL.out.after hb1); have HB1:=Lib.hid hb1; have HR1:=Lib.hid (HR.out.below hb1)
 clear hb1 HL HBR HR
 cases hbk:h.bareK with
 | true=>
   have HI2:=Lib.hid (HI.out.trans (if_pos hbk))
   clear HI hbk
   go_wp2_with fail
   go_ret2
   rw [HI2.out]
   exact⟨p,rfl,HL1.out,Step.of_below HB1.out⟩
 | false =>
   have HI2:=Lib.hid (HI.out.trans (if_neg (by rw [hbk]; decide)))
   clear HI hbk
   go_wp2_with fail
   go_loopw [16] (fun i wr=>∃ k:Nat,i = .int .i64 k∧k≤n∧(∀ j,j<k→h.valB (xs.getD j 0)=true)∧w1=wr) (fun i _=>n-(intOf i).toNat)
   case atStart=>exact⟨0,rfl,Nat.zero_le _,fun j hj=>by omega,rfl⟩
   case round=>
    obtain⟨k,rfl,hk,hok,rfl⟩:=hrel
    have HOK:=Lib.hid hok
    clear hok
    by_cases hkn:k<n
    ·have hd:decide ((k:Int)<(n:Int))=true:=by simp; omega
     obtain⟨ad,hA,hb,-,hc⟩:=HR1.out.at_ k (by rw [← HN.out]; exact hkn)
     subst hA
     have hv32:=getA_lt HX.out k
     obtain⟨v,hv⟩ :∃ v,v=xs.getD k 0:=⟨_,rfl⟩
     have HV:=Lib.hid hv
     rw [← hv] at hc hv32
     clear hv hb
     have HKD:=Lib.hid (kind_any v hv32 w1)
     have HIS:=Lib.hid (HL1.out.is v hv32)
     by_cases hval:h.valB v=true
     ·have HNX:=Lib.hid (show ∀ j,j<k+1→h.valB (xs.getD j 0)=true from fun j hj=>by
       rcases Nat.lt_or_ge j k with q | q
       ·exact HOK.out j q
       ·obtain rfl:j=k:=by omega
        rw [← HV.out]; exact hval)
      have hkk:kindM v≠2∨(kindM v=2∧h.isB v=true):=by
       unfold HM.valB objB at hval
       simp only [Bool.or_eq_true,Bool.not_eq_true',decide_eq_false_iff_not] at hval
       by_cases q:kindM v=2
       ·exact .inr ⟨q,hval.resolve_left (fun r=>r q)⟩
       ·exact .inl q
      clear hval HOK HV
      rcases hkk with hk2 | ⟨hk2,hi⟩
      ·generalize kindM v=kd at *
       have hq:((kd:Int) == 2)=false:=by simp; omega
       clear hk2 HIS
       go_wp2_with fail
       refine HKD.out.mono ?_
       rintro e w4 ⟨rfl,rfl⟩
       go_wp2_with fail
       go_roundw
       case rel=>exact⟨k+1,by go_num,by omega,HNX.out,trivial⟩
       case measure=>simp [intOf]; omega
      ·rw [hk2] at HKD
       rw [hi] at HIS
       clear hk2 hi
       go_wp2_with fail
       refine HKD.out.mono ?_
       rintro e w4 ⟨rfl,rfl⟩
       go_wp2_with fail
       refine HIS.out.mono ?_
       rintro e w4 ⟨rfl,rfl⟩
       go_wp2_with fail
       go_roundw
       case rel=>exact⟨k+1,by go_num,by omega,HNX.out,trivial⟩
       case measure=>simp [intOf]; omega
     ·have hvf:h.valB v=false:=by cases q:h.valB v with | true=>exact absurd q hval | false=>rfl
      have hk2:kindM v=2∧h.isB v=false:=by
       unfold HM.valB objB at hvf
       simpa using hvf
      have HI3:=Lib.hid (HI2.out.trans (if_pos (anyA_get (i:=k) (by rw [← HN.out]; exact hkn) (by rw [← HV.out,hvf]; rfl))))
      rw [hk2.1] at HKD
      rw [hk2.2] at HIS
      clear HI2 hval hvf hk2 HOK HV
      go_wp2_with fail
      refine HKD.out.mono ?_
      rintro e w4 ⟨rfl,rfl⟩
      go_wp2_with fail
      refine HIS.out.mono ?_
      rintro e w4 ⟨rfl,rfl⟩
      go_wp2_with fail
      go_ret2
      rw [HI3.out]
      exact⟨p,rfl,HL1.out,Step.of_below HB1.out⟩
    ·obtain rfl:k=n:=by omega
     have hd:decide ((k:Int)<(k:Int))=false:=by simp
     have HI3:=Lib.hid (HI2.out.trans (if_neg (by rw [anyA_none (fun i hi=>by rw [HOK.out i (by rw [HN.out]; exact hi)]; rfl)]; decide)))
     clear HOK HI2
     by_cases hbig:65535<k
     ·have HI4:=Lib.hid (HI3.out.trans (if_pos hbig))
      have hd2:decide ((65535:Int)<(k:Int))=true:=by simp; omega
      have hd3:(65535:Int)<(k:Int):=by omega
      clear HI3 hbig
      go_wp2_with fail
      go_ret2
      rw [HI4.out]
      exact⟨p,rfl,HL1.out,Step.of_below HB1.out⟩
     ·have HI4:=Lib.hid (HI3.out.trans (if_neg hbig))
      have hd2:decide ((65535:Int)<(k:Int))=false:=by simp; omega
      have hd3:¬ (65535:Int)<(k:Int):=by omega
      have HRT:=Lib.hid (kroot_any HL1.out 20)
      have hr20:h.rootN 20=h.rt 20:=rootN_rt h (i:=20) (by omega)
      rw [hr20] at HRT
      have hc32:h.rt 20<4294967296:=by rw [← hr20]; exact HL1.out.fit.rtN 20
      have HAL:=Lib.hid (HL1.out.alloc (h.rt 20) hc32 1 (k:Int))
      have hE4:=AllocE_lt h (h.rt 20) 1 (k:Int)
      have HAH:=Lib.hid (fun h0:h.AllocE (h.rt 20) 1 (k:Int)≠0=>show h.AllocH (h.rt 20) 1 (k:Int)=h from by rw [HM.AllocH_eq,if_neg h0])
      have HAO:=Lib.hid (fun h0:h.AllocE (h.rt 20) 1 (k:Int)=0=>show h.AllocO (h.rt 20) 1 (k:Int)=2*h.words.length from by unfold HM.AllocO; rw [if_pos h0])
      obtain⟨E,hE⟩ :∃ E,E=h.AllocE (h.rt 20) 1 (k:Int):=⟨_,rfl⟩
      obtain⟨O,hO⟩ :∃ O,O=h.AllocO (h.rt 20) 1 (k:Int):=⟨_,rfl⟩
      have hO32:O<4294967296:=by rw [hO]; exact AllocO_lt HL1.out.fit _ _ _
      rw [← hE] at HAL HI4 HAH HAO hE4
      rw [← hO] at HAL HAO
      clear hE hO HI3 hr20 hc32 hbig
      go_wp2_with fail
      refine HRT.out.mono ?_
      rintro e w2 ⟨rfl,rfl⟩
      go_wp2_with fail
      refine HAL.out.mono ?_
      rintro e w2 ⟨p2,rfl,L2,s2⟩
      have HL2:=Lib.hid L2
      have HS2:=Lib.hid ((Step.of_below HB1.out).trans s2)
      have HR2:=Lib.hid (HR1.out.step s2)
      clear L2 s2 HAL HRT HB1 HR1
      by_cases hE0:E=0
      rotate_left
      ·have hne:((E:Int) != 0)=true:=by simp; omega
       have hnei:¬ ((E:Int)=0):=by omega
       have HI5:=Lib.hid (HI4.out.trans (if_pos hE0))
       have hh:=HAH.out hE0
       have HL3:=Lib.hid (show Live W w2 p2 g h by have:=HL2.out; rw [hh] at this; exact this)
       clear HI4 HAH HAO hh HL2 hE0
       go_wp2_with fail
       go_ret2
       rw [HI5.out]
       exact⟨p2,rfl,HL3.out,HS2.out⟩
      ·have hO:=HAO.out hE0
       subst hE0
       have HI5:=Lib.hid (show h.arrK xs=((h.AllocH (h.rt 20) 1 (k:Int)).copyK O (fun i=>xs.getD i 0) k,O,0) from by rw [hO]; exact HI4.out.trans (if_neg (fun q=>q rfl)))
       clear HI4 HAH HAO hO
       generalize h.AllocH (h.rt 20) 1 (k:Int)=h1 at *
       go_wp2_with fail
       go_loopw [47] (fun i wr=>∃ (j:Nat) (p':HP),i = .int .i64 j∧j≤k∧Live W wr p' g (h1.copyK O (fun i=>xs.getD i 0) j)∧RowU p' wr A xs∧Step p p' w wr) (fun i _=>k-(intOf i).toNat)
       case atStart=>exact⟨0,p2,rfl,Nat.zero_le _,HL2.out,HR2.out,HS2.out⟩
       case round=>
        clear HL2 HS2 HR2
        obtain⟨j,p3,rfl,hj,L3,R3,s3⟩:=hrel
        by_cases hjn:j<k
        ·have hdj:decide ((j:Int)<(k:Int))=true:=by simp; omega
         obtain⟨ad,hA,-,-,hc⟩:=R3.at_ j (by rw [← HN.out]; exact hjn)
         subst hA
         have HPT:=Lib.hid (L3.put O hO32 (j:Int) (xs.getD j 0) (getA_lt HX.out j))
         rw [show (h1.copyK O (fun i=>xs.getD i 0) j).putH O (j:Int) (xs.getD j 0)=h1.copyK O (fun i=>xs.getD i 0) (j+1) from (copy_succ h1 O (fun i=>xs.getD i 0) j).symm] at HPT
         have HS3:=Lib.hid s3
         have HR3:=Lib.hid R3
         clear L3 s3 R3
         generalize xs.getD j 0=v at *
         go_wp2_with fail
         refine HPT.out.mono ?_
         rintro e w4 ⟨p4,rfl,L4,s4⟩
         have HL4:=Lib.hid L4
         have HS4:=Lib.hid (HS3.out.trans s4)
         have HR4:=Lib.hid (HR3.out.step s4)
         clear L4 s4 HPT HS3 HR3
         go_wp2_with fail
         go_roundw
         case rel=>exact⟨j+1,p4,by go_num,by omega,HL4.out,HR4.out,HS4.out⟩
         case measure=>simp [intOf]; omega
        ·obtain rfl:j=k:=by omega
         have hdj:decide ((j:Int)<(j:Int))=false:=by simp
         have HL3:=Lib.hid L3
         have HS3:=Lib.hid s3
         clear L3 s3 R3
         go_wp2_with fail
         go_ret2
         rw [HI5.out]
         exact⟨p3,rfl,HL3.out,HS3.out⟩
end
end
section
open Go.RowKit
attribute [local go_sem] Oper.semAt_some
theorem symsK_snoc (t:List Nat):∀ (a:List (List Nat)) (h:HM),(h.symsK a).2.2=0→h.symsK (a++[t])=if ((h.symsK a).1.internK t).2.2≠0 then (((h.symsK a).1.internK t).1,(h.symsK a).2.1,((h.symsK a).1.internK t).2.2) else (((h.symsK a).1.internK t).1,(h.symsK a).2.1++[((h.symsK a).1.internK t).2.1],0)
 | [],h,_=>by
   rfl
 | x :: a,h,h0=>by
   by_cases e:(h.internK x).2.2=0
   ·have e1:∀ l,h.symsK (x :: l)=(((h.internK x).1.symsK l).1,(h.internK x).2.1 :: ((h.internK x).1.symsK l).2.1,((h.internK x).1.symsK l).2.2):=fun l=>by
     show (if (h.internK x).2.2≠0 then _ else _)=_
     rw [if_neg (fun q=>q e)]
    rw [e1] at h0
    rw [List.cons_append,e1,e1,symsK_snoc t a _ h0]
    by_cases q:(((h.internK x).1.symsK a).1.internK t).2.2=0
    ·rw [if_neg (fun r=>r q),if_neg (fun r=>r q)]; rfl
    ·rw [if_pos q,if_pos q]
   ·have e1:∀ l,h.symsK (x :: l)=((h.internK x).1,[],(h.internK x).2.2):=fun l=>by
     show (if (h.internK x).2.2≠0 then _ else _)=_
     rw [if_pos e]
    rw [e1] at h0
    exact absurd h0 e
theorem symsK_stop (b:List (List Nat)):∀ (a:List (List Nat)) (h:HM),(h.symsK a).2.2≠0→(h.symsK (a++b)).1=(h.symsK a).1∧(h.symsK (a++b)).2.2=(h.symsK a).2.2
 | [],h,h0=>absurd rfl h0
 | x :: a,h,h0=>by
   by_cases e:(h.internK x).2.2=0
   ·have e1:∀ l,h.symsK (x :: l)=(((h.internK x).1.symsK l).1,(h.internK x).2.1 :: ((h.internK x).1.symsK l).2.1,((h.internK x).1.symsK l).2.2):=fun l=>by
     show (if (h.internK x).2.2≠0 then _ else _)=_
     rw [if_neg (fun q=>q e)]
    rw [e1] at h0
    rw [List.cons_append,e1,e1]
    exact symsK_stop b a _ h0
   ·have e1:∀ l,h.symsK (x :: l)=((h.internK x).1,[],(h.internK x).2.2):=fun l=>by
     show (if (h.internK x).2.2≠0 then _ else _)=_
     rw [if_pos e]
    rw [List.cons_append,e1,e1]
    exact⟨rfl,rfl⟩
structure RowT (p:HP) (w:World) (A:Option Addr) (ts:List (List Nat)):Prop where
 at_:∀ i,i<ts.length→∃ ad,A=some ad∧ad.block<w.heap.size∧¬ p.has ad.block∧w.cell? (ad.add i)=some (.string (txS (ts.getD i [])))
theorem RowT.step {p p':HP} {w w':World} {A:Option Addr} {ts:List (List Nat)} (R:RowT p w A ts) (s:Step p p' w w'):RowT p' w' A ts:=⟨fun i hi=>by
 obtain⟨ad,h1,h2,h3,h4⟩:=R.at_ i hi
 refine⟨ad,h1,Nat.lt_of_lt_of_le h2 s.size,fun q=>?_,(World.cell?_of_block (a:=ad.add i) (by rw [block_of_add]; exact s.block _ h2 h3)).trans h4⟩
 rcases s.rows _ q with q | q
 ·exact h3 q
 ·omega⟩
theorem RowT.below {p:HP} {w w':World} {A:Option Addr} {ts:List (List Nat)} (R:RowT p w A ts) (s:Below w.heap.size w w'):RowT p w' A ts:=R.step (Step.of_below s)
theorem ownU_keep {w w':World} {B s n:Nat} {e:TypeId} {v:Value} {xs:List Value} (h:w.ownsRow B e s v n xs) (hs:∀ k,v.ownBlock=some k→w'.heap[k]? = w.heap[k]?):w'.ownsRow B e s v n xs:=by
 refine⟨h.1,?_⟩
 rcases h.2 with h1 | ⟨g,cap,cur,h1,h2,h3,h4⟩
 ·exact .inl h1
 ·exact .inr ⟨g,cap,cur,h1,h2,(hs g (by rw [h1]; rfl)).trans h3,h4⟩
theorem ownU_val {w:World} {B s n:Nat} {e:TypeId} {v:Value} {xs:List Value} (h:w.ownsRow B e s v n xs):∃ A c,v = .slice A n c:=by
 rcases h.2 with ⟨rfl,h0⟩ | ⟨g,cap,cur,rfl,_⟩
 ·subst h0
  exact⟨none,0,rfl⟩
 ·exact ⟨_,_,rfl⟩
structure OwnU (p:HP) (N:Nat) (w:World) (v:Value) (xs:List Nat):Prop where
 own:w.ownsRow N 38 1 v xs.length (u32s xs)
 out:∀ q,v.ownBlock=some q→¬ p.has q
section
variable {p p':HP} {N:Nat} {w w':World} {v:Value} {xs:List Nat}
theorem OwnU.step (O:OwnU p N w v xs) (s:Step p p' w w'):OwnU p' N w' v xs:=
 ⟨ownU_keep O.own fun k hk=>s.block k (O.own.lt k hk).2 (O.out k hk),fun q hq h=>by
   rcases s.rows q h with r | r
   ·exact O.out q hq r
   ·have:=(O.own.lt q hq).2; omega⟩
theorem OwnU.row (O:OwnU p N w v xs):∃ A c,v = .slice A xs.length c∧RowU p w A xs:=by
 rcases Nat.eq_zero_or_pos xs.length with h0 | h0
 ·obtain⟨A,c,rfl⟩:=ownU_val O.own
  exact⟨A,c,rfl,⟨fun i hi=>by omega⟩⟩
 ·obtain⟨g,c,rfl,hr,-,-⟩:=Row.of_any O.own h0
  refine⟨_,_,rfl,⟨fun i hi=>⟨_,rfl,hr.lt,O.out g rfl,?_⟩⟩⟩
  rw [WideShapes.add_plain,Nat.zero_add]
  refine hr.cell ?_
  unfold u32s
  rw [List.getElem?_map,List.getElem?_eq_getElem hi,List.getD_eq_getElem?_getD,List.getElem?_eq_getElem hi]
  rfl
theorem Live.grown {W:World} {g:Nat} {h:HM} (L:Live W w p g h) {row:Option Nat} (hg:w.grownBy w' row) (hr:∀ q,row=some q→¬ p.has q∧W.heap.size≤q):Live W w' p g h:=
 ⟨L.at_.same (fun j hj=>hg.block j (L.at_.lt hj) (fun e=>(hr j e.symm).1 hj)),L.hg,L.good,L.env,L.new,⟨hg.os.trans L.below.os,hg.tape.trans L.below.tape,hg.output.trans L.below.output,Nat.le_trans L.below.size hg.size,fun j hj=>(hg.block j (by have:=L.below.size; omega) (fun e=>by have:=(hr j e.symm).2; omega)).trans (L.below.block j hj)⟩⟩
theorem Step.grown {w0:World} {p0:HP} (s:Step p0 p w0 w) {row:Option Nat} (hg:w.grownBy w' row) (hr:∀ q,row=some q→w0.heap.size≤q):Step p0 p w0 w':=
 ⟨hg.os.trans s.os,hg.tape.trans s.tape,hg.output.trans s.output,Nat.le_trans s.size hg.size,fun j hj hn=>(hg.block j (by have:=s.size; omega) (fun e=>by have:=hr j e.symm; omega)).trans (s.block j hj hn),s.g,s.rows⟩
theorem RowT.grown {A:Option Addr} {ts:List (List Nat)} (R:RowT p w A ts) {row:Option Nat} (hg:w.grownBy w' row) (hr:∀ q,row=some q→∀ ad,A=some ad→0<ts.length→ad.block≠q):RowT p w' A ts:=⟨fun i hi=>by
 obtain⟨ad,h1,h2,h3,h4⟩:=R.at_ i hi
 exact⟨ad,h1,Nat.lt_of_lt_of_le h2 hg.size,h3,(World.cell?_of_block (a:=ad.add i) (by rw [block_of_add]; exact hg.block _ h2 (fun e=>hr _ e.symm ad h1 (by omega) rfl))).trans h4⟩⟩
end
theorem u32s_snoc (xs:List Nat) (x:Nat):u32s xs++u32s [x]=u32s (xs++[x]):=by unfold u32s; rw [List.map_append]
theorem arrK_lt {h:HM} (f:h.Fit) (l:List Nat):(h.arrK l).2.1<4294967296:=by
 have h1:=f.room
 have h2:=f.hi
 unfold HM.arrK
 split
 ·simp
 split
 ·simp
 split
 ·simp
 split
 ·simp
 ·simp only; omega
section
variable {W w:World} {p:HP} {g:Nat} {h:HM} (L:Live W w p g h)
include L
set_option maxRecDepth 100000 in
set_option maxHeartbeats 8000000 in
theorem kownFields_any (c:Nat) (hc:c<4294967296) (A:Option Addr) (cap:Nat) (ts:List (List Nat)) (R:RowT p w A ts) (h8:∀ t∈ts,∀ x∈t,x<256) (hl:∀ t∈ts,t.length≤9223372036854775807) (hn:ts.length≤1000):
 Calls Tryz.prog 50 #[.pointer (some ⟨g,0,none⟩),.int .u32 c,.slice A ts.length cap] w (Done W p g (h.ownK c ts).1 (.int .i64 ((h.ownK c ts).2:Nat)) w):=by
 have HL:=Lib.hid L; have HR:=Lib.hid R; have H8:=Lib.hid h8; have HLN:=Lib.hid hl
 have HI:=Lib.hid (show h.ownK c ts=if (h.symsK ts).2.2≠0 then ((h.symsK ts).1,(h.symsK ts).2.2)
  else if ((h.symsK ts).1.arrK (h.symsK ts).2.1).2.2≠0 then (((h.symsK ts).1.arrK (h.symsK ts).2.1).1,((h.symsK ts).1.arrK (h.symsK ts).2.1).2.2)
  else (((h.symsK ts).1.arrK (h.symsK ts).2.1).1.putH c 3 ((h.symsK ts).1.arrK (h.symsK ts).2.1).2.1,((h.symsK ts).1.arrK (h.symsK ts).2.1).1.putE c 3 ((h.symsK ts).1.arrK (h.symsK ts).2.1).2.1) from rfl)
 have HWw:=Lib.hid (show W.heap.size≤w.heap.size from L.below.size)
 have HLT:=Lib.hid (fun i hi=>show ∀ ad,A=some ad→ad.block<w.heap.size from fun ad ha=>by
  obtain⟨ad',h1,h2,_⟩:=R.at_ i hi
  rw [ha] at h1
  injection h1 with h1
  subst h1
  exact h2)
 obtain⟨i0,hi0,hz0,hz1,hz2⟩:=info_parts info_oop
 clear L R h8 hl
 obtain⟨n,hnn⟩ :∃ n,n=ts.length:=⟨_,rfl⟩
 have HN:=Lib.hid hnn
 rw [← hnn] at hn
 rw [← hnn]
 clear hnn
 go_enter Tryz.func50,Tryz.ntmps50
 go_wp2_with fail
 go_loopw [7,16] (fun sv iv wr=>∃ (k:Nat) (p':HP) (h':HM) (xs:List Nat),iv = .int .i64 k∧k≤n∧h.symsK (ts.take k)=(h',xs,0)∧xs.length=k∧(∀ x∈xs,x<4294967296)∧Live W wr p' g h'∧Step p p' w wr∧RowT p' wr A ts∧OwnU p' w.heap.size wr sv xs) (fun _ iv _=>n-(intOf iv).toNat)
 case atStart=>exact⟨0,p,h,[],rfl,Nat.zero_le _,rfl,rfl,(by intro x hx; simp at hx),HL.out,Step.refl _ _,HR.out,⟨⟨rfl,.inl ⟨rfl,rfl⟩⟩,fun q hq=>by cases hq⟩⟩
 case round=>
  clear HL HR
  obtain⟨k,p1,h1,xs,rfl,hk,hsy,hxl,hx32,L1,s1,R1,O1⟩:=hrel
  by_cases hkn:k<n
  ·have hd:decide ((k:Int)<(n:Int))=true:=by simp; omega
   have hkt:k<ts.length:=by rw [← HN.out]; exact hkn
   obtain⟨ad,hA,-,-,hcell⟩:=R1.at_ k hkt
   have hmem:ts.getD k []∈ts:=by rw [List.getD_eq_getElem?_getD,List.getElem?_eq_getElem hkt]; exact List.getElem_mem hkt
   have htk:ts.take (k+1)=ts.take k++[ts.getD k []]:=by rw [List.take_add_one,List.getD_eq_getElem?_getD,List.getElem?_eq_getElem hkt]; rfl
   have hsn:=symsK_snoc (ts.getD k []) (ts.take k) h (by rw [hsy])
   rw [← htk,hsy] at hsn
   have hi32:(h1.internK (ts.getD k [])).2.1<4294967296:=by obtain⟨l,G⟩:=L1.good; exact intern_lt G _
   have HIN:=Lib.hid (kintern_any L1 (ts.getD k []) (H8.out _ hmem) (HLN.out _ hmem))
   have HSN:=Lib.hid hsn
   have HTK:=Lib.hid (show ts=ts.take (k+1)++ts.drop (k+1) from (List.take_append_drop _ _).symm)
   have HS1:=Lib.hid s1; have HR1:=Lib.hid R1; have HO1:=Lib.hid O1; have HX:=Lib.hid (And.intro hxl hx32)
   have HSY:=Lib.hid hsy
   subst hA
   have HAD:=Lib.hid (HLT.out k hkt ad rfl)
   clear hmem htk hsn hsy hx32 L1 s1 R1 O1
   generalize ts.getD k []=t at *
   generalize h1.internK t=q at *
   obtain⟨h2,o2,E2⟩:=q
   simp only at HIN hi32 HSN
   go_wp2_with fail
   refine HIN.out.mono ?_
   rintro e w2 ⟨p2,rfl,L2,s2⟩
   have HL2:=Lib.hid L2
   have HS2:=Lib.hid (HS1.out.trans s2)
   have HR2:=Lib.hid (HR1.out.step s2)
   have HO2:=Lib.hid (HO1.out.step s2)
   clear L2 s2 HIN HS1 HR1 HO1
   by_cases hE:E2=0
   rotate_left
   ·have hne:((E2:Int) != 0)=true:=by simp; omega
    have hnei:¬ ((E2:Int)=0):=by omega
    have HI2:=Lib.hid (show h.ownK c ts=(h2,E2) from by
     have h3:=HSN.out
     rw [if_pos hE] at h3
     have h4:=symsK_stop (ts.drop (k+1)) (ts.take (k+1)) h (by rw [h3]; exact hE)
     rw [← HTK.out,h3] at h4
     rw [HI.out,if_pos (by rw [h4.2]; exact hE),h4.1,h4.2])
    clear HI HSN HTK HSY hE HO2
    go_wp2_with fail
    go_ret
    rw [HI2.out]
    exact⟨p2,rfl,HL2.out,HS2.out⟩
   ·subst hE
    have HSN2:=Lib.hid (show h.symsK (ts.take (k+1))=(h2,xs++[o2],0) from by rw [HSN.out,if_neg (fun q=>q rfl)])
    clear HSN HTK HSY
    have hbn:w.heap.size≤w2.heap.size:=HS2.out.size
    have hown:=HO2.out.own
    rw [HX.out.1] at hown
    have HOW:=Lib.hid hown
    clear hown
    go_wp2_with (at_builtin; refine wpList_append_any _ rfl (.tmp 29) (.tmp 31) _ rfl w.heap.size 38 i0 _ 1 4 Tryz.underlying55 hi0 hz0 hz1 hz2 rfl (by omega) u7 k _ rfl (ownU_keep HOW.out (fun q hq=>Below.heap_alloc w2 (.cells #[.int .u32 (o2:Int)] 38) q (HOW.out.lt q hq).2)) (w2.heap.size+1) (some ⟨w2.heap.size,0,none⟩) 1 1 (u32s [o2]) rfl ⟨rfl,fun _=>⟨_,rfl,by simp,cell_one_new _ _ _⟩⟩ (one_u32s _) (by simp only [maxLen]; omega) (by omega) (by simp; omega) ?_; intro v1 w3 hown3 hgrow3 hat3)
    have hrow:∀ q,u7.ownBlock=some q→¬ p2.has q∧W.heap.size≤q∧w.heap.size≤q:=fun q hq=>⟨HO2.out.out q hq,by have:=HWw.out; have:=(HO2.out.own.lt q hq).1; omega,(HO2.out.own.lt q hq).1⟩
    have hb0:Below w2.heap.size w2 (w2.alloc (.cells #[.int .u32 (o2:Int)] 38)):=(Below.refl _ _).alloc (Nat.le_refl _) _
    have HL3:=Lib.hid ((HL2.out.after hb0).grown hgrow3 (fun q hq=>⟨(hrow q hq).1,(hrow q hq).2.1⟩))
    have HS3:=Lib.hid ((HS2.out.below' hb0).grown hgrow3 (fun q hq=>(hrow q hq).2.2))
    have HR3:=Lib.hid ((HR2.out.below hb0).grown hgrow3 (fun q hq ad' ha _=>by
     injection ha with ha
     subst ha
     have h1:=(hrow q hq).2.2
     have h2:=HAD.out
     omega))
    have HO3:=Lib.hid (show OwnU p2 w.heap.size w3 v1 (xs++[o2]) from⟨by rw [u32s_snoc] at hown3; rw [List.length_append,HX.out.1]; exact hown3,fun q hq=>by
     rcases hat3 with e | e
     ·rw [e] at hq; exact (hrow q hq).1
     ·rw [e] at hq
      injection hq with hq
      subst hq
      intro hh
      have h1:=(HL2.out.after hb0).at_.lt hh
      omega⟩)
    have HX3:=Lib.hid (show (xs++[o2]).length=k+1∧∀ x∈xs++[o2],x<4294967296 from⟨by rw [List.length_append,HX.out.1]; rfl,fun x hx=>by
     rcases List.mem_append.1 hx with q | q
     ·exact HX.out.2 x q
     ·rw [List.mem_singleton] at q; rw [q]; exact hi32⟩)
    clear hrow hb0 hown3 hgrow3 hat3 HO2 HL2 HS2 HR2 HOW HX
    go_wp2_with fail
    go_roundw
    case rel=>exact⟨k+1,p2,h2,xs++[o2],by go_num,by omega,HSN2.out,HX3.out.1,HX3.out.2,HL3.out,HS3.out,HR3.out,HO3.out⟩
    case measure=>simp [intOf]; omega
  ·obtain rfl:k=n:=by omega
   have hd:decide ((k:Int)<(k:Int))=false:=by simp
   have htk:ts.take k=ts:=by rw [HN.out]; exact List.take_length
   rw [htk] at hsy
   have HI2:=Lib.hid (HI.out.trans (if_neg (by rw [hsy]; exact fun q=>q rfl)))
   rw [hsy] at HI2
   simp only at HI2
   obtain⟨A2,c2,rfl,RU⟩:=O1.row
   have HAR:=Lib.hid (karray_any L1 A2 c2 xs RU hx32 (by omega))
   rw [hxl] at HAR
   have HS1:=Lib.hid s1
   have ho32:=arrK_lt L1.fit xs
   clear HI hsy htk O1 RU L1 s1 R1
   generalize h1.arrK xs=q at *
   obtain⟨h2,o2,E2⟩:=q
   simp only at HAR HI2 ho32
   rw [hxl]
   go_wp2_with fail
   refine HAR.out.mono ?_
   rintro e w2 ⟨p2,rfl,L2,s2⟩
   have HL2:=Lib.hid L2
   have HS2:=Lib.hid (HS1.out.trans s2)
   have HPT:=Lib.hid (L2.put c hc (3:Nat) o2 ho32)
   clear L2 s2 HAR HS1
   by_cases hE:E2=0
   rotate_left
   ·have hne:((E2:Int) != 0)=true:=by simp; omega
    have hnei:¬ ((E2:Int)=0):=by omega
    have HI3:=Lib.hid (HI2.out.trans (if_pos hE))
    clear HI2 hE HPT
    go_wp2_with fail
    go_ret
    rw [HI3.out]
    exact⟨p2,rfl,HL2.out,HS2.out⟩
   ·subst hE
    have HI3:=Lib.hid (HI2.out.trans (if_neg (fun q=>q rfl)))
    clear HI2 HL2
    go_wp2_with fail
    refine HPT.out.mono ?_
    rintro e w3 ⟨p3,rfl,L3,s3⟩
    have HL3:=Lib.hid L3
    have HS3:=Lib.hid (HS2.out.trans s3)
    clear L3 s3 HPT HS2
    go_wp2_with fail
    go_ret
    rw [HI3.out]
    exact⟨p3,rfl,HL3.out,HS3.out⟩
end
end
section
open Go.RowKit
attribute [local go_sem] Oper.semAt_some
def lenW (v:Value):Nat:=match v with | .slice _ n _=>n | _=>0
theorem below_grow5 {B:Nat} {w w1 w2:World} {row:Option Nat} (hb:Below B w w1) (hg:w1.grownBy w2 row) (hr:∀ q,row=some q→B≤q) (hB:B≤w1.heap.size):Below B w w2:=
 ⟨hg.os.trans hb.os,hg.tape.trans hb.tape,hg.output.trans hb.output,Nat.le_trans hb.size hg.size,fun j hj=>(hg.block j (by omega) (fun e=>by have:=hr j e.symm; omega)).trans (hb.block j hj)⟩
def RowB (b:Bool) (xs:List Nat) (w:World) (e:Ending) (w':World):Prop:=
 ∃ A c,e = .returned (.tuple #[.slice A xs.length c,.bool b])∧Below w.heap.size w w'∧w'.ownsRow w.heap.size 38 1 (.slice A xs.length c) xs.length (u32s xs)
theorem chainK_len (h:HM):∀ f c,(h.chainK f c).1.length≤f
 | 0,c=>Nat.le_refl _
 | f+1,c=>by
   unfold HM.chainK
   split
   ·simp
   split
   ·simp
   ·simp only [List.length_cons]
    have:=chainK_len h f (h.fldK c 1)
    omega
theorem chainK_end {h:HM} {x:Nat} (hx:x=h.rt 0):∀ f,h.chainK f x=([],true)
 | 0=>by unfold HM.chainK; rw [decide_eq_true hx]
 | f+1=>by unfold HM.chainK; rw [if_pos hx]
theorem chainK_bad {h:HM} {x:Nat} (hx:x≠h.rt 0) (hp:h.ptrsK x 6=false):∀ f,h.chainK f x=([],false)
 | 0=>by unfold HM.chainK; rw [decide_eq_false hx]
 | f+1=>by unfold HM.chainK; rw [if_neg hx,if_pos hp]
theorem own_base5 {w:World} {B B' s n:Nat} {e:TypeId} {v:Value} {xs:List Value} (h:w.ownsRow B e s v n xs) (hb:B'≤B):w.ownsRow B' e s v n xs:=by
 refine⟨h.1,?_⟩
 rcases h.2 with h1 | ⟨g,cap,cur,h1,h2,h3⟩
 ·exact .inl h1
 ·exact .inr ⟨g,cap,cur,h1,Nat.le_trans hb h2,h3⟩
theorem own_below5 {w w':World} {B s n:Nat} {e:TypeId} {v:Value} {xs:List Value} (h:w.ownsRow B e s v n xs) (hb:Below w.heap.size w w'):w'.ownsRow B e s v n xs:=ownU_keep h fun k hk=>hb.block k (h.lt k hk).2
theorem own_new5 (w:World) (xs:List Nat) (n:Nat) (hl:xs.length=n) (hn:n≤maxLen):(w.alloc (.cells (u32s xs).toArray 38)).ownsRow w.heap.size 38 1 (.slice (some ⟨w.heap.size,0,none⟩) n n) n (u32s xs):=by
 subst hl
 exact⟨by simp [u32s_len],.inr ⟨w.heap.size,xs.length,(u32s xs).toArray,rfl,Nat.le_refl _,heap_alloc_new w _,Nat.le_refl _,hn,by simp [u32s_len],by rw [Nat.mul_one,List.take_of_length_le (by simp [u32s])]⟩⟩
theorem own_cut5 {w:World} {B n k c:Nat} {e:TypeId} {A:Option Addr} {xs:List Value} (h:w.ownsRow B e 1 (.slice A n c) n xs) (hk:k≤n):w.ownsRow B e 1 (.slice A k c) k (xs.take k):=by
 have h0:=h.1
 refine⟨by rw [List.length_take]; omega,?_⟩
 rcases h.2 with ⟨h1,h2⟩ | ⟨g,cap,cur,h1,h2,h3,h4,h5,h6,h7⟩
 ·injection h1 with e1 e2 e3
  subst e1 e3
  obtain rfl:k=0:=by omega
  exact .inl ⟨rfl,rfl⟩
 ·injection h1 with e1 e2 e3
  subst e1 e3
  refine .inr ⟨g,c,cur,rfl,h2,h3,Nat.le_trans hk h4,h5,h6,?_⟩
  rw [← h7,List.take_take]
  congr 1
  omega
theorem own_cap5 {w:World} {B n c:Nat} {e:TypeId} {A:Option Addr} {xs:List Value} (h:w.ownsRow B e 1 (.slice A n c) n xs) (h0:0<n):n≤c:=by
 rcases h.2 with ⟨h1,h2⟩ | ⟨g,cap,cur,h1,h2,h3,h4,h5,h6,h7⟩
 ·injection h1 with e1 e2 e3
  omega
 ·injection h1 with e1 e2 e3
  omega
theorem own_reads5 {w:World} {base n c B:Nat} {e:TypeId} {A:Option Addr} {xs:List Value} (h:w.ownsRow base e 1 (.slice A n c) n xs) (hB:B=w.heap.size):Reads w B 1 A n xs:=by
 subst hB
 refine⟨by have:=h.1; omega,fun h0=>?_⟩
 obtain⟨g,c',e1,hr,-,-⟩:=Row.of_any h h0
 injection e1 with e1 _ _
 subst e1
 exact⟨_,rfl,hr.lt,fun i v hv=>by
  rw [WideShapes.add_plain,Nat.zero_add]
  exact hr.cell hv⟩
section
variable {W w:World} {p:HP} {g:Nat} {h:HM} (L:Live W w p g h)
include L
set_option maxRecDepth 100000 in
set_option maxHeartbeats 4000000 in
theorem kchain_any (c:Nat) (hc:c<4294967296):Calls Tryz.prog 118 #[.pointer (some ⟨g,0,none⟩),.int .u32 c] w (RowB (h.chainK 1000 c).2 (h.chainK 1000 c).1 w):=by
 have HRT:=Lib.hid (fun (w1:World) (hb:Below w.heap.size w w1)=>kroot_any (L.after hb) 0)
 have hr0:h.rootN 0=h.rt 0:=rootN_rt h (i:=0) (by omega)
 rw [hr0] at HRT
 have HSH:=Lib.hid (fun (x:Nat) (hx:x<4294967296) (w1:World) (hb:Below w.heap.size w w1)=>kshaped_any (L.after hb) x hx)
 have HFL:=Lib.hid (fun (x:Nat) (hx:x<4294967296) (w1:World) (hb:Below w.heap.size w w1)=>kfield_any (L.after hb) x hx 1)
 have HF32:=Lib.hid (fun x=>fld_lt L.fit x 1)
 obtain⟨i0,hi0,hz0,hz1,hz2⟩:=info_parts info_oop
 clear L hr0
 go_enter Tryz.func118,Tryz.ntmps118
 go_wp2_with fail
 go_loopw [1,6] (fun cv sv wr=>∃ (k x:Nat) (xs:List Nat),cv = .int .u32 x∧x<4294967296∧k≤1000∧xs.length=k∧h.chainK 1000 c=(xs++(h.chainK (1000-k) x).1,(h.chainK (1000-k) x).2)∧Below w.heap.size w wr∧wr.ownsRow w.heap.size 38 1 sv k (u32s xs)) (fun _ sv _=>1000-lenW sv)
 case atStart=>exact⟨0,c,[],rfl,hc,by omega,rfl,rfl,Below.refl _ _,⟨rfl,.inl ⟨rfl,rfl⟩⟩⟩
 case round=>
  obtain⟨k,x,xs,rfl,hx,hk,hxl,hch,hb,hown⟩:=hrel
  obtain⟨A,cp,rfl⟩:=ownU_val hown
  have HR:=Lib.hid (HRT.out wr hb)
  have HS:=Lib.hid (HSH.out x hx wr hb)
  by_cases hx0:x=h.rt 0
  ·rw [chainK_end hx0,List.append_nil] at hch
   have HCH:=Lib.hid hch; have HB:=Lib.hid hb; have HO:=Lib.hid hown
   have hq:((x:Int) != (h.rt 0:Nat))=false:=by simp; omega
   clear hch hb hown HS HSH HFL
   generalize h.rt 0=r0 at *
   go_wp2_with fail
   refine HR.out.mono ?_
   rintro e w1 ⟨rfl,rfl⟩
   go_wp2_with fail
   go_ret2
   rw [HCH.out]
   subst hxl
   exact⟨_,_,rfl,HB.out,HO.out⟩
  have hq:((x:Int) != (h.rt 0:Nat))=true:=by simp; omega
  have HB:=Lib.hid hb; have HO:=Lib.hid hown
  cases hp:h.ptrsK x 6 with
  | false=>
    rw [chainK_bad hx0 hp,List.append_nil] at hch
    have HCH:=Lib.hid hch
    rw [hp] at HS
    clear hch hb hown HSH HFL hx0 hp
    generalize h.rt 0=r0 at *
    go_wp2_with fail
    refine HR.out.mono ?_
    rintro e w1 ⟨rfl,rfl⟩
    go_wp2_with fail
    refine HS.out.mono ?_
    rintro e w2 ⟨rfl,hb2⟩
    have HB2:=Lib.hid (below_top HB.out hb2); have HO2:=Lib.hid (own_below5 HO.out hb2)
    clear hb2
    go_wp2_with fail
    go_ret2
    rw [HCH.out]
    subst hxl
    exact⟨_,_,rfl,HB2.out,HO2.out⟩
  | true=>
    rw [hp] at HS
    by_cases hk1:k=1000
    ·subst hk1
     have HCH:=Lib.hid (show h.chainK 1000 c=(xs,false) from by
      rw [hch,show 1000-1000=0 from rfl]
      unfold HM.chainK
      rw [decide_eq_false hx0,List.append_nil])
     clear hch hb hown HSH HFL hx0 hp
     generalize h.rt 0=r0 at *
     go_wp2_with fail
     refine HR.out.mono ?_
     rintro e w1 ⟨rfl,rfl⟩
     go_wp2_with fail
     refine HS.out.mono ?_
     rintro e w2 ⟨rfl,hb2⟩
     have HB2:=Lib.hid (below_top HB.out hb2); have HO2:=Lib.hid (own_below5 HO.out hb2)
     clear hb2
     go_wp2_with fail
     go_ret2
     rw [HCH.out]
     rw [← hxl] at HO2 ⊢
     exact⟨_,_,rfl,HB2.out,HO2.out⟩
    ·have HCH:=Lib.hid (show h.chainK 1000 c=((xs++[x])++(h.chainK (1000-(k+1)) (h.fldK x 1)).1,(h.chainK (1000-(k+1)) (h.fldK x 1)).2) from by
      rw [hch,show 1000-k=(1000-(k+1))+1 by omega]
      simp only [HM.chainK,if_neg hx0,hp,Bool.true_eq_false,if_false,List.append_assoc,List.cons_append,List.nil_append])
     have hkq:((k:Int) == 1000)=false:=by simp; omega
     have hk2:k<1000:=by omega
     have hx1:h.fldK x 1<4294967296:=HF32.out x
     clear hch hb hown HSH hx0 hp hk1
     generalize h.rt 0=r0 at *
     go_wp2_with fail
     refine HR.out.mono ?_
     rintro e w1 ⟨rfl,rfl⟩
     go_wp2_with fail
     refine HS.out.mono ?_
     rintro e w2 ⟨rfl,hb2⟩
     have HB2:=Lib.hid (below_top HB.out hb2); have HO2:=Lib.hid (own_below5 HO.out hb2)
     clear hb2 HR HS HB HO
     have hsz:=HB2.out.size
     go_wp2_with (at_builtin; refine wpList_append_any _ rfl (.tmp 21) (.tmp 23) _ rfl w.heap.size 38 i0 _ 1 4 Tryz.underlying55 hi0 hz0 hz1 hz2 rfl (by omega) (.slice A k cp) k _ rfl (own_below5 HO2.out ((Below.refl _ _).alloc (Nat.le_refl _) _)) (w2.heap.size+1) (some ⟨w2.heap.size,0,none⟩) 1 1 (u32s [x]) rfl ⟨rfl,fun _=>⟨_,rfl,by simp,cell_one_new _ _ _⟩⟩ (one_u32s _) (by simp only [maxLen]; omega) (by omega) (by simp; omega) ?_; intro v1 w3 hown3 hgrow3 hat3)
     have hb3:=below_grow5 (below_top HB2.out ((Below.refl _ _).alloc (Nat.le_refl _) (.cells #[.int .u32 (x:Int)] 38))) hgrow3 (fun q hq=>(HO2.out.lt q hq).1) (by simp; omega)
     have HB3:=Lib.hid hb3
     have HO3:=Lib.hid (show w3.ownsRow w.heap.size 38 1 v1 (k+1) (u32s (xs++[x])) from by rw [← u32s_snoc]; exact hown3)
     have HG:=Lib.hid (HFL.out x hx w3 hb3)
     obtain⟨A3,c3,rfl⟩:=ownU_val hown3
     clear hb3 hown3 hgrow3 hat3 HB2 HO2 HFL
     generalize h.fldK x 1=y at *
     go_wp2_with fail
     refine HG.out.mono ?_
     rintro e w4 ⟨rfl,hb4⟩
     have HB4:=Lib.hid (below_top HB3.out hb4); have HO4:=Lib.hid (own_below5 HO3.out hb4)
     clear hb4 HG HB3 HO3
     go_wp2_with fail
     go_roundw
     case rel=>exact⟨k+1,y,xs++[x],rfl,hx1,by omega,by simp [hxl],HCH.out,HB4.out,HO4.out⟩
     case measure=>simp only [lenW]; omega
set_option maxRecDepth 100000 in
set_option maxHeartbeats 4000000 in
theorem kchainF_any (c:Nat) (hc:c<4294967296):Calls Tryz.prog 74 #[.pointer (some ⟨g,0,none⟩),.int .u32 c] w (RowB (h.chainFK c).2 (h.chainFK c).1 w):=by
 have HF:=Lib.hid (kfield_any L c hc 1)
 have HCH:=Lib.hid (fun (w1:World) (hb:Below w.heap.size w w1)=>kchain_any (L.after hb) (h.fldK c 1) (fld_lt L.fit c 1))
 have HV:=Lib.hid (show h.chainFK c=((c :: (h.chainK 1000 (h.fldK c 1)).1).take 1000,(h.chainK 1000 (h.fldK c 1)).2 && decide ((h.chainK 1000 (h.fldK c 1)).1.length<1000)) from rfl)
 have hlen:=chainK_len h 1000 (h.fldK c 1)
 obtain⟨i0,hi0,hz0,hz1,hz2⟩:=info_parts info_oop
 clear L
 generalize h.chainK 1000 (h.fldK c 1)=q at *
 generalize h.fldK c 1=y at *
 obtain⟨xs,b⟩:=q
 simp only at HCH HV hlen
 go_enter Tryz.func74,Tryz.ntmps74
 go_wp2_with fail
 refine HF.out.mono ?_
 rintro e w1 ⟨rfl,hb1⟩
 have HC:=Lib.hid (HCH.out w1 hb1)
 have HB1:=Lib.hid hb1
 clear hb1 HF HCH
 go_wp2_with fail
 refine HC.out.mono ?_
 rintro e w2 ⟨A,cp,rfl,hb2,hown⟩
 have HB2:=Lib.hid (below_top HB1.out hb2)
 have HO:=Lib.hid (own_base5 hown HB1.out.size)
 obtain⟨n,hn⟩ :∃ n,n=xs.length:=⟨_,rfl⟩
 rw [← hn] at HO hlen ⊢
 have HN:=Lib.hid hn
 clear hb2 hown HC HB1 hn
 have hsz:=HB2.out.size
 go_wp2_with (at_builtin; refine wpList_append_any _ rfl (.tmp 17) (.tmp 18) _ rfl w.heap.size 38 i0 _ 1 4 Tryz.underlying55 hi0 hz0 hz1 hz2 rfl (by omega) (.slice (some ⟨w2.heap.size,0,none⟩) 1 1) 1 _ rfl (own_base5 (own_new5 w2 [c] 1 rfl (by simp only [maxLen]; omega)) hsz) (w2.heap.size+1) A n cp (u32s xs) rfl (own_reads5 (own_below5 HO.out ((Below.refl _ _).alloc (Nat.le_refl _) _)) (by simp)) (one_u32s _) (by simp only [maxLen]; omega) (by omega) (by simp; omega) ?_; intro v1 w3 hown3 hgrow3 hat3)
 have HB3:=Lib.hid (below_grow5 (below_top HB2.out ((Below.refl _ _).alloc (Nat.le_refl _) (.cells #[.int .u32 (c:Int)] 38))) hgrow3 (fun q hq=>by injection hq with hq; subst hq; exact hsz) (by simp; omega))
 have HO3:=Lib.hid (show w3.ownsRow w.heap.size 38 1 v1 (n+1) (u32s (c :: xs)) from by rw [Nat.add_comm]; exact hown3)
 obtain⟨A3,c3,rfl⟩:=ownU_val hown3
 clear hown3 hgrow3 hat3 HB2 HO
 have h1n:1+n=n+1:=Nat.add_comm _ _
 rw [h1n] at HO3 ⊢
 by_cases hk:n=1000
 ·subst hk
  have HV2:=Lib.hid (show h.chainFK c=((c :: xs).take 1000,false) from by rw [HV.out,decide_eq_false (by have:=HN.out; omega)]; simp)
  have hcap:1001≤c3:=own_cap5 HO3.out (by omega)
  have hcapI:(1000:Int)≤(c3:Int):=by omega
  clear HV
  go_wp2_with fail
  go_ret2
  rw [HV2.out]
  have hl:((c :: xs).take 1000).length=1000:=by rw [List.length_take,List.length_cons]; have:=HN.out; omega
  refine⟨A3,c3,by rw [hl]; rfl,HB3.out,?_⟩
  rw [hl]
  have:=own_cut5 HO3.out (show 1000≤1000+1 by omega)
  rw [show u32s ((c :: xs).take 1000)=(u32s (c :: xs)).take 1000 from by unfold u32s; rw [List.map_take]]
  exact this
 ·have HV2:=Lib.hid (show h.chainFK c=(c :: xs,b) from by rw [HV.out,decide_eq_true (by have:=HN.out; omega),List.take_of_length_le (by rw [List.length_cons]; have:=HN.out; omega)]; simp)
  obtain⟨m,hm⟩ :∃ m,m=n+1:=⟨_,rfl⟩
  rw [← hm] at HO3 ⊢
  have hm2:m≤9223372036854775807:=by omega
  have hq:decide ((m:Int)>1000)=false:=by simp; omega
  have HM:=Lib.hid hm
  clear hm HV h1n hk hlen
  go_wp2_with fail
  go_simp
  go_wp2_with fail
  go_ret2
  rw [HV2.out]
  have hl:(c :: xs).length=m:=by rw [List.length_cons,← HN.out,HM.out]
  refine⟨A3,c3,by rw [hl]; rfl,HB3.out,?_⟩
  rw [hl]
  exact HO3.out
end
end
end Go.Proofs.YtdoahpflemgaeaaGreatDoor
