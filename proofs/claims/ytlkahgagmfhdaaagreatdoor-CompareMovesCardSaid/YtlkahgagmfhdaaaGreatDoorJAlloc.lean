import Derived.Test.YtlkahgagmfhdaaaGreatDoorJClone
import Derived.Test.YtlkahgagmfhdaaaGreatDoorJZeros
import Derived.StillTailTactics
import Derived.Deep.DeepCutAuto
set_option linter.unusedVariables false
set_option linter.unusedSimpArgs false
set_option linter.unusedSectionVars false
open List renaming replicate→ae,getD_eq_getElem?_getD→ah,length_append→ai,getElem?_eq_getElem→ar,mem_of_getElem?→au,eq_nil_of_length_eq_zero→aw,append_assoc→ay,mem_drop_iff_getElem→az,mem_of_mem_take→aI,getElem?_map→aN,take_length→aP,all_eq_true→aQ,map_append→aU,length→aX
open Nat renaming le_refl→af,le_trans→aj,mul_one→aq,add_sub_cancel→ax,zero_add→aA,lt_of_lt_of_le→aK,sub_zero→aL,eq_zero_or_pos→aM,mod_one→aW
open Go.Value renaming ownBlock→ag,slice→aD,cells→aF,int→aV
open Go.WideShapes renaming add_plain→ak
open Go.IntKind renaming u8→aJ,i64→aO
set_option maxRecDepth 100000
set_option maxHeartbeats 4000000
namespace Go.Proofs.YtlkahgagmfhdaaaGreatDoor
section
open Go.RowKit
def HM.apG (h:HM)(x:Hd):Nat:=if h.apo x.cls=false then 3 else if h.size<h.words.length+3+x.size\/h.last=4294967295 then 4 else 0
def HM.fill (h:HM)(x:Hd):Nat:=if x.apb then h.roots.getD 0 0 else 0
def HM.apN (h:HM)(x:Hd)(ys:List Nat):HM:=
 { h with words:=h.words++[x.w0,x.cls,h.last+1]++ys,starts:=h.starts++(true :: ae (2+x.size) false),last:=h.last+1 }
def HM.apy (h:HM)(x:Hd):HM:=if h.apG x=0 then h.apN x (ae x.size (h.fill x)) else h
def HM.apJ (h:HM)(x:Hd):Value:=.tuple #[.int .u32 ((if h.apG x=0 then 2*h.words.length else 0:Nat):Int),.int .i64 (h.apG x)]
def LR (p:HP)(h':HM)(v:Value)(w:World)(e:Ending)(w':World):Prop:=∃ p',e= .returned v/\fO w' p' h'/\Step p p' w w'
def nz (p:HP)(h:HM)(n t s c l1 w0 gB:Nat)(w:World)(ys:List Nat)(wr:World):Prop:=
 ∃ pk:HP,fO wr pk { h with last:=l1,words:=h.words++[w0,c,l1]++ys }/\eW wr gB 75 #[.int .i64 n,.int .i64 t,.int .i64 s,.int .u32 c,.int .u32 l1]/\Step p pk w wr
theorem nz.grow {p pk:HP}{h:HM}{n t s c l1 w0 gB k fl L g5 c5:Nat}{w wr w5:World}{o:Obj}
 (Hk:fO wr pk { h with last:=l1,words:=h.words++[w0,c,l1]++ae k fl })(Bk:eW wr gB 75 #[.int .i64 n,.int .i64 t,.int .i64 s,.int .u32 c,.int .u32 l1])(sk:Step p pk w wr)
 (EA:pk.g=p.g)(hlk:(h.words++[w0,c,l1]++ae k fl).length=L)
 (hr:Row w5 g5 32 c5 (eN (h.words++[w0,c,l1]++ae k fl)++eN [fl]))
 (hg:(wr.alloc o).grownBy w5 (aD (some ⟨pk.gw,0,none⟩) L pk.cw).ownBlock)
 (hat:(aD (some ⟨g5,0,none⟩) (L+1) c5).ownBlock=(aD (some ⟨pk.gw,0,none⟩) L pk.cw).ownBlock\/(aD (some ⟨g5,0,none⟩) (L+1) c5).ownBlock=some (wr.alloc o).heap.size):
 nz p h n t s c l1 w0 gB w (ae (k+1) fl) (w5.setCell ⟨p.g,0,none⟩ (.slice (some ⟨g5,0,none⟩) (L+1) c5)):=by
 have hb:Below wr.heap.size wr (wr.alloc o):=(Below.refl _ _).alloc (af _) _;have he:h.words++[w0,c,l1]++ae (k+1) fl=(h.words++[w0,c,l1]++ae k fl)++[fl]:=by
  rw[List.replicate_succ',<-ay]
 have hu:eN (h.words++[w0,c,l1]++ae k fl)++eN [fl]=eN ((h.words++[w0,c,l1]++ae k fl)++[fl]):=by simp[eN]
 rw[hu]at hr;have hl:((h.words++[w0,c,l1]++ae k fl)++[fl]).length=L+1:=by rw[ai,hlk];rfl
 obtain⟨H6,s6⟩:=fO.aqB (Hk.below hb) (ys:=[fl]) hr hg (by
  rcases hat with e|e
  .left;simpa[ag] using e
  .right;simp[ag]at e;simp[e])
 rw[EA]at H6 s6;rw[show ((({ h with last:=l1,words:=h.words++[w0,c,l1]++ae k fl }:HM).words++[fl]).length)=L+1 from hl]at H6 s6;have n1:gB≠pk.gw:=fun e=>Row.aph Hk.2.1 Bk (by decide) e.symm;have n2:gB≠p.g:=by rw[<-EA];exact fun e=>Bk.ne_ Hk.1 (by decide) e
 refine⟨_,?_,((Bk.alloc o).same (hg.block gB (Bk.alloc o).lt (by simpa[ag] using n1))).far (p:=⟨p.g,0,none⟩) n2 _,(sk.ap_ hb).trans s6⟩;rw[he];exact H6
theorem LY {w:World}{p:HP}{h:HM}(H:fO w p h)(f:h.Fit)(hs:eX w)(hp:V8 p)(x:Hd)(hx:x.Fit)(h0:x.ser=0)(hm:x.may=true):
 Calls Tryz.prog 158 #[ptr p.g,x.val] w (LR p (h.apy x) (h.apJ x) w):=by
 have hb0:∀ o,Below w.heap.size w (w.alloc o):=fun o=>(Below.refl _ _).alloc (af _) _;have pR:=aa (fun z=>CG (H.below (hb0 z)) f x.cls hx.cls);cases hc:h.apo x.cls
 .rw[hc]at pR;have HF:=aa (show h.apJ x= .tuple #[.int .u32 0,.int .i64 3]/\h.apy x=h by simp[HM.apJ,HM.apy,HM.apG,hc]);clear hc;unfold ptr at pR ⊢;unfold Hd.val;go_enter Tryz.func158,Tryz.ntmps158;go_wp2_with fail;refine (pR.o _).mono ?_;rintro e w1 ⟨rfl,rfl⟩;go_wp2_with fail;go_ret2;exact⟨p,by rw[HF.o.1];rfl,by rw[HF.o.2];exact H.below (hb0 _),.apa (hb0 _)⟩
 .rw[hc]at pR;have hlen:=f.room;have Br:=f.hi;have amS:=f.l32;obtain⟨n,t,s,c,r⟩:=x;obtain⟨f1,f2,f3,f4,f5⟩:=hx;simp only at f1 f2 f3 f4 f5 h0 pR hc;subst h0;have hn:n<=65535:=by simp[Hd.may]at hm;omega
  by_cases XQ:h.size<h.words.length+3+n
  .have HF:=aa (show h.apJ ⟨n,t,s,c,0⟩= .tuple #[.int .u32 0,.int .i64 4]/\h.apy ⟨n,t,s,c,0⟩=h by simp[HM.apJ,HM.apy,HM.apG,hc,XQ]);generalize hW:w.alloc (.cells #[.int .i64 n,.int .i64 t,.int .i64 s,.int .u32 c,.int .u32 0] 75)=W;have HW:fO W p h:=hW ▸ H.below (hb0 _);have c0:=HW.c0;have c3:=HW.c3;have c4:=HW.c4;have BW:eW W w.heap.size 75 #[.int .i64 n,.int .i64 t,.int .i64 s,.int .u32 c,.int .u32 0]:=hW ▸ eW.new w _ _;obtain⟨d0,d1,d2,d3,d4⟩:=BW.apd;have Kq:=aa (fun k=>kg (HW.drewN k) (by have:=f.lo;omega) f.hi);have Vi:=aa hW;have hd:decide ((h.words.length:Int)+3+(n:Int)>(h.size:Int))=true:=(by simp;omega);have hd':(h.size:Int)<(h.words.length:Int)+3+(n:Int):=(by omega);clear hc hW;unfold ptr at pR Kq ⊢;unfold Hd.val;go_enter Tryz.func158,Tryz.ntmps158;go_wp2_with fail;refine (pR.o _).mono ?_;rintro e w1 ⟨rfl,rfl⟩;rw[Vi.o];go_wp2_with fail
   go_quiet ((go_at_call 83;exact (Kq.o _).mono fun _ _ ⟨he,hm⟩=>⟨he,_,hm.symm⟩))
   go_wp2_with fail;go_ret2;refine⟨p,by rw[HF.o.1];rfl,?_,?_⟩
   .rw[HF.o.2];first|exact HW|exact HW.drewN _
   .rw[<-Vi.o];first|exact .apa (hb0 _)|exact (Step.apa (hb0 _)).drewN _
  .by_cases vk:h.last=4294967295
   .have HF:=aa (show h.apJ ⟨n,t,s,c,0⟩= .tuple #[.int .u32 0,.int .i64 4]/\h.apy ⟨n,t,s,c,0⟩=h by simp[HM.apJ,HM.apy,HM.apG,hc,vk]);generalize hW:w.alloc (.cells #[.int .i64 n,.int .i64 t,.int .i64 s,.int .u32 c,.int .u32 0] 75)=W;have HW:fO W p h:=hW ▸ H.below (hb0 _);have c0:=HW.c0;have c3:=HW.c3;have c4:=HW.c4;have BW:eW W w.heap.size 75 #[.int .i64 n,.int .i64 t,.int .i64 s,.int .u32 c,.int .u32 0]:=hW ▸ eW.new w _ _;obtain⟨d0,d1,d2,d3,d4⟩:=BW.apd;have Kq:=aa (fun k=>kg (HW.drewN k) (by have:=f.lo;omega) f.hi);have Vi:=aa hW;have hd:decide ((h.words.length:Int)+3+(n:Int)>(h.size:Int))=false:=(by simp;omega);have hd':(h.words.length:Int)+3+(n:Int)<=(h.size:Int):=(by omega);have qY:((h.last:Int) == 4294967295)=true:=(by rw[vk];rfl);clear hc hW vk XQ;unfold ptr at pR Kq ⊢;unfold Hd.val;go_enter Tryz.func158,Tryz.ntmps158;go_wp2_with fail;refine (pR.o _).mono ?_;rintro e w1 ⟨rfl,rfl⟩;rw[Vi.o];go_wp2_with fail
    go_quiet ((go_at_call 83;exact (Kq.o _).mono fun _ _ ⟨he,hm⟩=>⟨he,_,hm.symm⟩))
    go_wp2_with fail;go_ret2;refine⟨p,by rw[HF.o.1];rfl,?_,?_⟩
    .rw[HF.o.2];first|exact HW|exact HW.drewN _
    .rw[<-Vi.o];first|exact .apa (hb0 _)|exact (Step.apa (hb0 _)).drewN _
   .have HF:=aa (show h.apJ ⟨n,t,s,c,0⟩= .tuple #[.int .u32 (2*h.words.length:Nat),.int .i64 0]/\h.apy ⟨n,t,s,c,0⟩=h.apN ⟨n,t,s,c,0⟩ (ae n (h.fill ⟨n,t,s,c,0⟩)) by
     have e:h.apG ⟨n,t,s,c,0⟩=0:=(by simp[HM.apG,hc];omega);simp[HM.apJ,HM.apy,e])
    generalize hW:w.alloc (.cells #[.int .i64 n,.int .i64 t,.int .i64 s,.int .u32 c,.int .u32 0] 75)=W;have HW:fO W p h:=hW ▸ H.below (hb0 _);have sW:Step p p w W:=hW ▸ .apa (hb0 _);have c0:=HW.c0;have c3:=HW.c3;have c4:=HW.c4;have f4:W.frozen? ⟨p.g,4,none⟩=false:=HW.1.frozen 4;have BW:eW W w.heap.size 75 #[.int .i64 n,.int .i64 t,.int .i64 s,.int .u32 c,.int .u32 0]:=hW ▸ eW.new w _ _;obtain⟨d0,d1,d2,d3,d4⟩:=BW.apd;have z4:W.frozen? ⟨w.heap.size,4,none⟩=false:=BW.frozen 4;have hgB:p.g≠w.heap.size:=(by have:=H.lt (.inl rfl);omega);have abW:w.heap.size≠p.g:=hgB.symm;have Kq:=aa (fun k=>kg (HW.drewN k) (by have:=f.lo;omega) f.hi);have Vi:=aa hW;have hd:decide ((h.words.length:Int)+3+(n:Int)>(h.size:Int))=false:=(by simp;omega);have hd':(h.words.length:Int)+3+(n:Int)<=(h.size:Int):=(by omega);have qY:((h.last:Int) == 4294967295)=false:=beq_eq_false_iff_ne.2 (by omega);have hl1:h.last+1<4294967296:=(by omega);clear hc hW vk XQ;unfold ptr at pR Kq ⊢;unfold Hd.val;go_enter Tryz.func158,Tryz.ntmps158;go_wp2_with fail;refine (pR.o _).mono ?_;rintro e w1 ⟨rfl,rfl⟩;rw[Vi.o];go_wp2_with fail
    go_quiet ((go_at_call 83;exact (Kq.o _).mono fun _ _ ⟨he,hm⟩=>⟨he,_,hm.symm⟩))
    go_wp2_with fail;obtain⟨l1,ach⟩ :∃ l1:Nat,l1=h.last+1:=⟨_,rfl⟩;rw[show (h.last:Int)+1=(l1:Int) by omega];have acg:l1<4294967296:=(by omega);have HL1:=aa ach;clear ach hl1;generalize hW2:((W.drewN nq).setCell ⟨p.g,4,none⟩ (.int .u32 (l1:Int))).setCell ⟨w.heap.size,4,none⟩ (.int .u32 (l1:Int))=W2;have H2:fO W2 p { h with last:=l1 }:=by
     rw[<-hW2];have hh:=(HW.drewN nq).aqz l1;refine hh.same fun k hk=>Below.heap_setCell _ _ _ _ ?_;have:=H.lt hk;simp;omega
    have s2:Step p p w W2:=by
     rw[<-hW2];exact (((sW.drewN nq).setCell (.inl (.inl rfl)) _).setCell (.inr (by simp)) _)
    have B2:eW W2 w.heap.size 75 #[.int .i64 n,.int .i64 t,.int .i64 s,.int .u32 c,.int .u32 l1]:=by
     rw[<-hW2];exact ((BW.drewN nq).far (p:=⟨p.g,4,none⟩) abW _).apg 4 _
    have hs2:eX W2:=s2.apl hp hs;clear hW2 c0 c3 c4 f4 d0 d1 d2 d3 d4 z4 Kq Vi hd qY pR;have pT:=aa (y7 ⟨n,t,s,c,l1⟩ ⟨f1,f2,f3,f4,acg⟩ (by simpa[Hd.may] using hm) W2 hs2);unfold Hd.val Hd.packed at pT;refine pT.o.mono ?_;rintro e w3 ⟨rfl,hb3⟩;clear pT;generalize hw0:Hd.w0 ⟨n,t,s,c,l1⟩=w0 at*;have Fl:=aa hw0;clear hw0;go_wp2_with fail;generalize Sy:w3.alloc _=W4;have hb4:Below W2.heap.size W2 W4:=(by rw[<-Sy];exact hb3.alloc hb3.size _);have H4:fO W4 p { h with last:=l1 }:=H2.below hb4;have s4:Step p p w W4:=s2.ap_ hb4;have B4:=B2.below hb4 B2.lt;have BT:eW W4 w3.heap.size 248 #[.int .u32 w0,.int .u32 c,.int .u32 l1]:=(by rw[<-Sy];exact eW.new w3 _ _);clear Sy hb4 hb3 hs2 H2 s2 B2;generalize w3.heap.size=gT at*;have k0:=H4.c0;have z0:W4.frozen? ⟨p.g,0,none⟩=false:=H4.1.frozen 0;obtain⟨i0,iF,hz0,hz1,hz2⟩:=info_parts jR;have hown:=H4.2.1.owns;rw[eY]at hown;have HO:=aa hown;have hnews:eQ W4 W4.heap.size 1 (some ⟨gT,0,none⟩) 3 (eN [w0,c,l1]):=⟨rfl,fun _=>⟨_,rfl,BT.lt,fun j u hj=>by
     rw[ak,aA,BT.cell];simpa[eN] using hj⟩⟩
    have HN:=aa hnews;clear hown hnews;have n1:p.g≠p.gw:=fun e=>Row.aph H4.2.1 H4.1 (by decide) e.symm;have VH:p.gw<W4.heap.size:=H4.lt (.inr (.inl rfl));have Ue:p.g<W4.heap.size:=H4.lt (.inl rfl)
    go_region_law
     ((refine yo _ (by rfl) _ _ _ (by rfl) 0 32 i0 _ 1 4 Tryz.underlying84 iF hz0 hz1 hz2 rfl (by omega) (.slice (some ⟨p.gw,0,none⟩) h.words.length p.cw) h.words.length (eN h.words) (by rfl) HO.o.drew W4.heap.size (some ⟨gT,0,none⟩) 3 3 (eN [w0,c,l1]) (by rfl) HN.o.drew (fU _) (by simp only[maxLen];omega) (by omega) (by omega) ?_;intro v1 w5 fe hgrow j0;obtain⟨g5,c5,rfl,jr,zB,_⟩:=Row.apk fe (by omega);have k5:=(hgrow.cell_far ⟨p.g,0,none⟩ Ue (by simp[ag];exact n1)).trans k0;have z5:=(hgrow.frozen_far ⟨p.g,0,none⟩ Ue (by simp[ag];exact n1)).trans z0;clear fe))
    have VT:eN h.words++eN [w0,c,l1]=eN (h.words++[w0,c,l1]):=(by simp[eN]);have hl6:h.words.length+3=(h.words++[w0,c,l1]).length:=(by simp);rw[VT]at jr
    obtain⟨H6,s6⟩:=fO.aqB H4.drew jr hgrow (by
     rcases j0 with e|e
     .left;simpa[ag] using e
     .right;simp[ag]at e;simp[e])
    rw[<-hl6]at H6 s6;have B6:eW (w5.setCell ⟨p.g,0,none⟩ (.slice (some ⟨g5,0,none⟩) (h.words.length+3) c5)) w.heap.size 75 #[.int .i64 n,.int .i64 t,.int .i64 s,.int .u32 c,.int .u32 l1]:=by
     have hne:w.heap.size≠p.gw:=(by have:=H.lt (.inr (.inl rfl));omega);exact (B4.same (hgrow.block w.heap.size B4.lt (by simpa[ag] using hne))).far (p:=⟨p.g,0,none⟩) abW _
    have s6':=Step.trans s4.drew s6;clear hgrow j0 zB jr k5 z5 s6 VT HO HN BT H4 s4 B4 k0 z0 n1 VH Ue;generalize hW6:w5.setCell ⟨p.g,0,none⟩ (.slice (some ⟨g5,0,none⟩) (h.words.length+3) c5)=W6 at*;clear hW6;have Vj:=aa (show Hd.apb ⟨n,t,s,c,l1⟩=Hd.apb ⟨n,t,s,c,0⟩ from rfl);have uM:=aa (vS ⟨n,t,s,c,l1⟩ ⟨f1,f2,f3,f4,acg⟩ W6);rw[Vj.o]at uM;unfold Hd.val at uM;obtain⟨e0,e1,e2,e3,e4⟩:=B6.apd;go_wp2_with fail;refine uM.o.mono ?_;rintro e w7 ⟨rfl,kT⟩;clear e0 e1 e2 e3 e4;have H7:=H6.below kT;have B7:=B6.below kT B6.lt;have s7:=s6'.ap_ kT;have HR0:=aa (show w7.cell? ⟨p.gr,0,none⟩=some (.int .u32 ((h.roots.getD 0 0:Nat):Int)) from H7.root (i:=0) (by show 0<h.roots.length;rw[f.roots];omega));have k2:=H7.c2;clear uM Vj kT H6 B6 s6';obtain⟨e0,e1,e2,e3,e4⟩:=B7.apd;have VO:h.roots.length=64:=f.roots;simp only[VO]at k2;obtain⟨fl,uD⟩ :∃ fl:Nat,h.fill ⟨n,t,s,c,0⟩=fl:=⟨_,rfl⟩;rw[uD]at HF;have hft:=aa (show ∀ b,Hd.apb ⟨n,t,s,c,0⟩=b->fl=if b then h.roots.getD 0 0 else 0 from fun b e=>by rw[<-uD,<-e];rfl);have Cv:=aa (show nz p h n t s c l1 w0 w.heap.size w [] w7 from⟨_,by simpa using H7,B7,s7⟩);clear uD VO H7 B7 s7;generalize h.roots.getD 0 0=r0 at*;generalize Hd.apb ⟨n,t,s,c,0⟩=pb at*;simp only[]
    go_upto_if 75 with fail
    go_cut [9] (fun s9 wx=>s9= .int .u32 fl/\nz p h n t s c l1 w0 w.heap.size w [] wx)
    case first=>
     cases pb
     .have uD:=hft.o _ rfl;simp only[Bool.false_eq_true,if_false]at uD;subst uD;clear hft;go_wp2_with fail;go_meet;exact⟨rfl,Cv.o⟩
     .have uD:=hft.o _ rfl;simp only[if_true]at uD;subst uD;clear hft;have hcell:=HR0.o;go_wp2_with fail;go_meet;exact⟨rfl,Cv.o⟩
    case rest=>
     obtain⟨rfl,Mx⟩:=hcut;clear hft Cv HR0 k2 e0 e1 e2 e3 e4;obtain⟨p7,H7,B7,s7⟩:=Mx;obtain⟨e0,e1,e2,e3,e4⟩:=B7.apd;go_wp2_with fail;have yx:=aa (show nz p h n t s c l1 w0 w.heap.size w (ae 0 fl) wc from⟨p7,H7,B7,s7⟩);clear H7 B7 s7 e0 e1 e2 e3 e4
     go_loopw [84] (fun i wr=>∃ k:Nat,k<=n/\i= .int .i64 k/\nz p h n t s c l1 w0 w.heap.size w (ae k fl) wr) (fun i _=>n-(intOf i).toNat)
     case atStart=>exact⟨0,by omega,rfl,yx.o⟩
     case round=>
      clear yx;obtain⟨k,hk,rfl,Mx⟩:=hrel;by_cases hlt:k<n
      .obtain⟨pk,Hk,Bk,sk⟩:=Mx;obtain⟨L,hlk⟩ :∃ L,(h.words++[w0,c,l1]++ae k fl).length=L:=⟨_,rfl⟩;have hLb:L<=1048575:=(by rw[<-hlk];simp;omega);have hL0:1<=L:=(by rw[<-hlk];simp;omega);have EA:=sk.g;have k0:=Hk.c0;have zz:=Hk.1.frozen 0;have hown:=Hk.2.1.owns;simp only[hlk]at k0;rw[eY]at hown;simp only[hlk]at hown;rw[EA]at k0 zz;have n1:p.g≠pk.gw:=fun e=>Row.aph Hk.2.1 Hk.1 (by decide) (by rw[EA];exact e.symm);have Ue:p.g<wr.heap.size:=(by have:=Hk.lt (.inl rfl);omega);have HO:=aa hown;have HK:=aa Hk;have Tc:=aa EA;have Ti:=aa hlk;obtain⟨i0,iF,hz0,hz1,hz2⟩:=info_parts jR;clear hown Hk EA hlk;go_wp2_with (at_builtin;refine eM _ rfl (.tmp 90) (.tmp 92) _ rfl 0 32 i0 _ 1 4 Tryz.underlying84 iF hz0 hz1 hz2 rfl (by omega) (.slice (some ⟨pk.gw,0,none⟩) L pk.cw) L _ rfl (HO.o.alloc _) (wr.heap.size+1) (some ⟨wr.heap.size,0,none⟩) 1 1 (eN [fl]) rfl ⟨rfl,fun _=>⟨_,rfl,by simp,cell_one_new _ _ _⟩⟩ (fU _) (by simp only[maxLen];omega) (by omega) (by omega) ?_;intro v1 w5 fe hgrow j0;obtain⟨g5,c5,rfl,jr,zB,_⟩:=Row.apk fe (by omega);have k5:=(hgrow.cell_far ⟨p.g,0,none⟩ (by simp;omega) (by simp[ag];exact n1)).trans (show (wr.alloc _).cell? _=_ from (World.cell?_alloc_lt wr _ _ Ue).trans k0);have z5:=(hgrow.frozen_far ⟨p.g,0,none⟩ (by simp;omega) (by simp[ag];exact n1)).trans (World.frozen?_alloc_old _ _ _ (by simp;omega) |>.trans zz);clear fe);go_roundw
       case rel=>exact⟨k+1,by omega,by go_num,nz.grow HK.o Bk sk Tc.o Ti.o jr hgrow j0⟩
       case measure=>simp[intOf];omega
      .obtain rfl:k=n:=(by omega);obtain⟨pk,Hk,Bk,sk⟩:=Mx;have EA:=sk.g;have k1:=Hk.c1;have zz:=Hk.1.frozen 1;rw[EA]at k1 zz;have HS:=aa Hk.2.2.1;have HK:=aa Hk;have Tc:=aa EA;have n1:p.g≠pk.gs:=fun e=>Row.aph Hk.2.2.1 Hk.1 (by decide) (by rw[EA];exact e.symm);have Ue:p.g<wr.heap.size:=(by have:=Hk.lt (.inl rfl);omega);have Iw:(bools h.starts).length=h.starts.length:=oY _;have X4:h.starts.length=h.words.length:=f.marks;have X9:h.starts.length<=1048576:=(by omega);have Su:=aa Iw;have Z6:=aa X4;clear Hk EA Iw X4;obtain⟨e0,e1,e2,e3,e4⟩:=Bk.apd;obtain⟨i0,iF,hz0,hz1,hz2⟩:=info_parts wS;have a1:aO.wrap (3+(k:Int))=3+(k:Int):=IntWalk.i64_in _ (by omega);go_wp2_with fail
       go_region_law
        ((refine wj (by rfl) _ _ _ _ (by rfl) (show Row wr.drew pk.gs 4 pk.cs (bools h.starts) from HS.o) i0 _ 1 Tryz.underlying108 Tryz.underlying3 iF hz0 hz1 hz2 rfl rfl h.starts.length (3+k) Su.o (by omega) (by simp only[maxLen];omega) (by omega) (by rfl) (by first|rfl|(simp;omega)) ?_;intro g6 c6 w6 CZ EB T6;have k6:=(EB.cell_far ⟨p.g,1,none⟩ Ue (by simpa using n1)).trans k1;have z6:=(EB.frozen_far ⟨p.g,1,none⟩ Ue (by simpa using n1)).trans zz))
       all_goals
        have hu:bools h.starts++ae (3+k) (Value.bool false)=bools (h.starts++ae (3+k) false):=(by simp[bools]);have XZ:(h.starts++ae (3+k) false).length=h.starts.length+(3+k):=(by simp);rw[hu]at CZ
        obtain⟨H9,s9⟩:=fO.aqQ (ys:=ae (3+k) false) (show fO wr.drew pk _ from HK.o) CZ EB (by
         rcases T6 with e|e
         .exact .inl e
         .right;rw[e];exact af _)
        have s9':=sk.drew.trans s9;rw[Tc.o]at H9 s9';simp only[XZ]at H9 s9';have k9:=H9.c1;simp only[XZ]at k9;have m9:=H9.mark (i:=h.starts.length) (by show h.starts.length<(h.starts++ae (3+k) false).length;rw[XZ];omega);have z9:(w6.setCell ⟨p.g,1,none⟩ (.slice (some ⟨g6,0,none⟩) (h.starts.length+(3+k)) c6)).frozen? ⟨g6,h.starts.length,none⟩=false:=H9.2.2.1.frozen _;have Wt:=aa (H9.aqc h.starts.length true);have S9:=aa s9';have Cp:=aa (fun w=>yG h.words.length f.one (by omega) w);have Gt:h.words.length=h.starts.length:=Z6.o.symm;clear CZ EB T6 s9 s9' hu XZ a1 H9 k6 z6 e0 e1 e2 e3 e4;generalize w6.setCell ⟨p.g,1,none⟩ (.slice (some ⟨g6,0,none⟩) (h.starts.length+(3+k)) c6)=W9 at*;generalize (h.starts++ae (3+k) false).getD h.starts.length false=b9 at*;have k9':W9.cell? ⟨p.g,1,none⟩=some (.slice (some ⟨g6,0,none⟩) (h.starts.length+(3+k)) c6):=k9;have m9':W9.cell? ⟨g6,h.starts.length,none⟩=some (.bool b9):=m9;clear k9 m9;rw[Gt]at Cp ⊢;have amW:(h.starts.length:Int)<((h.starts.length+(3+k):Nat):Int):=(by omega);clear Gt;go_wp2_with fail;refine (Cp.o _).mono ?_;rintro e w10 ⟨rfl,rfl⟩;go_wp2_with fail;go_ret2;refine⟨_,?_,?_,S9.o.setCell (S9.o.rows g6 (.inr (.inr (.inl rfl)))) _⟩
        .rw[HF.o.1,<-Z6.o];simp
        .rw[HF.o.2];have e1:Hd.w0 ⟨k,t,s,c,0⟩=w0:=Fl.o;have e2:(h.starts++ae (3+k) false).set h.starts.length true=h.starts++(true :: ae (2+k) false):=by
          rw[List.set_append_right _ _ (by omega),Nat.sub_self,show 3+k=(2+k)+1 by omega,List.replicate_succ];rfl
         have e3:=Wt.o;rw[e2]at e3;unfold HM.apN;rw[e1,<-HL1.o];exact e3
end
section
open Go.RowKit
def j4 (f n:Int):Bool:=decide (1<=f) && decide (f<=4) && decide (0<=n) && decide (n<=65535)
def GJ (c:Nat)(f n:Int):Hd:=⟨n.toNat,f.toNat,0,c,0⟩
def HM.apI (h:HM)(c:Nat)(f n:Int):HM:=if j4 f n then h.apy (GJ c f n) else h
def HM.ap4 (h:HM)(c:Nat)(f n:Int):Value:=if j4 f n then h.apJ (GJ c f n) else .tuple #[.int .u32 0,.int .i64 1]
theorem LA {w:World}{p:HP}{h:HM}(H:fO w p h)(f:h.Fit)(hs:eX w)(hp:V8 p)(c:Nat)(hc:c<4294967296)(t n:Int):
 Calls Tryz.prog 75 #[ptr p.g,.int .u32 c,.int .i64 t,.int .i64 n] w (LR p (h.apI c t n) (h.ap4 c t n) w):=by
 have bad:j4 t n=false->(h.apI c t n=h/\h.ap4 c t n= .tuple #[.int .u32 0,.int .i64 1]):=fun e=>by simp[HM.apI,HM.ap4,e]
 by_cases h1:t<1
 .have HF:=aa (bad (by simp[j4];omega));clear bad;go_enter Tryz.func75,Tryz.ntmps75;go_wp2_with fail;go_ret2;exact⟨p,by rw[HF.o.2];rfl,by rw[HF.o.1];exact H,Step.refl _ _⟩
 by_cases h2:4<t
 .have HF:=aa (bad (by simp[j4];omega));clear bad;go_enter Tryz.func75,Tryz.ntmps75;go_wp2_with fail;go_ret2;exact⟨p,by rw[HF.o.2];rfl,by rw[HF.o.1];exact H,Step.refl _ _⟩
 by_cases h3:n<0
 .have HF:=aa (bad (by simp[j4];omega));clear bad;go_enter Tryz.func75,Tryz.ntmps75;go_wp2_with fail;go_ret2;exact⟨p,by rw[HF.o.2];rfl,by rw[HF.o.1];exact H,Step.refl _ _⟩
 by_cases h4:65535<n
 .have HF:=aa (bad (by simp[j4];omega));clear bad;go_enter Tryz.func75,Tryz.ntmps75;go_wp2_with fail;go_ret2;exact⟨p,by rw[HF.o.2];rfl,by rw[HF.o.1];exact H,Step.refl _ _⟩
 clear bad;obtain⟨k,rfl⟩:=Int.eq_ofNat_of_zero_le (by omega:0<=n);obtain⟨s,rfl⟩:=Int.eq_ofNat_of_zero_le (by omega:0<=t);have HF:=aa (show h.apI c s k=h.apy ⟨k,s,0,c,0⟩/\h.ap4 c s k=h.apJ ⟨k,s,0,c,0⟩ by
  have e:j4 s k=true:=by simp[j4];omega
  simp[HM.apI,HM.ap4,e,GJ])
 have HA:=aa (LY H f hs hp ⟨k,s,0,c,0⟩ ⟨by simp;omega,by simp;omega,by simp,hc,by simp⟩ rfl (by simp[Hd.may];omega));unfold Hd.val at HA;generalize h.apy ⟨k,s,0,c,0⟩=h2 at*;have hv:∃ a b:Int,h.apJ ⟨k,s,0,c,0⟩= .tuple #[.int .u32 a,.int .i64 b]:=⟨_,_,rfl⟩;obtain⟨a,b,hv⟩:=hv;rw[hv]at HA HF;clear hv;go_enter Tryz.func75,Tryz.ntmps75;go_wp2_with fail;refine HA.o.mono ?_;rintro e w1 ⟨p1,rfl,H1,s1⟩;go_wp2_with fail;go_ret2;exact⟨p1,by rw[HF.o.2];rfl,by rw[HF.o.1];exact H1,s1⟩
theorem GY (n:Nat)(hn:n<=9223372036854775807)(w:World):
 Calls Tryz.prog 235 #[.int .i64 n] w fun e w'=>e= .returned (.tuple (if 262140<n then #[.int .i64 0,.int .i64 0,.int .i64 1] else #[.int .i64 ((n+3)/4:Nat),.int .i64 (4*((n+3)/4)-n:Nat),.int .i64 0]))/\w=w':=by
 by_cases h1:262140<n
 .rw[if_pos h1];have h1':(262140:Int)<n:=by omega
  go_enter Tryz.func235,Tryz.ntmps235;go_wp2_with fail
  go_ret3
  exact⟨by simp,rfl⟩
 .rw[if_neg h1];have h1':(n:Int)<=262140:=by omega
  have e1:(((n+3)/4:Nat):Int)=((n:Int)+3)/4:=by omega
  have e2:((4*((n+3)/4)-n:Nat):Int)=4*(((n:Int)+3)/4)-n:=by omega
  rw[e2,e1];clear e1 e2 h1;go_enter Tryz.func235,Tryz.ntmps235;go_wp2_with fail
  go_ret3
  exact⟨by simp,rfl⟩
end
section
open Go.RowKit
theorem mI {P:Program}(t e:TypeId)(i:TypeInfo)(z:Value)(ht:P.underlying t=some (.slice e))(hi:P.info? e=some i)(hz:i.zero=some z)
 (kl kc:IntKind)(n c:Nat)(hnc:n<=c)(hbytes:i.bytes*c<=281474976710656)(h63:c<=9223372036854775807)(w:World):
 (Instr.makeSlice t (.int kl (n:Int)) (.int kc (c:Int))).run P w= .ok (.slice (some ⟨w.heap.size,0,none⟩) n c) (w.alloc (.cells (madeCells z.cells (c*i.size)) e)):=by
 have hb:(i.bytes:Int)*(c:Int)<=281474976710656:=by
  have h:((i.bytes*c:Nat):Int)<=281474976710656:=by omega
  rwa[Int.natCast_mul]at h
 have hr:=run_make (P:=P) w t e i z ht hi hz kl kc n c (by omega) (by omega) hb (by omega);simp only[Int.toNat_natCast]at hr;exact hr
def fM (z:Value)(n:Nat):Array Value:=Array.replicate n z
theorem QP (F:Nat)(hF:F<=1048576)(w:World):
 (Instr.makeSlice 84 (.int .i64 (F:Int)) (.int .i64 (F:Int))).run Tryz.prog w= .ok (.slice (some ⟨w.heap.size,0,none⟩) F F) (w.alloc (.cells (fM (.int .u32 0) F) 32)):=by
 obtain⟨i0,iF,hz0,hz1,hz2⟩:=info_parts jR;have:=mI (P:=Tryz.prog) 84 32 i0 _ Tryz.underlying84 iF hz0 .i64 .i64 F F (af _) (by rw[hz2];omega) (by omega) w;have e:madeCells (aV .u32 0).cells (F*1)=fM (.int .u32 0) F:=by
  apply Array.ext
  .simp[madeCells,fM,aF]
  .intro i h1 h2;simp[madeCells,fM,aF,aW]
 rw[this,hz1,e]
theorem Kj (w:World)(e:TypeId)(F x:Nat)(hF:F<=maxLen):Row (w.alloc (.cells (fM (.int .u32 x) F) e)) w.heap.size e F (eN (ae F x)):=
 ⟨fM (.int .u32 x) F,eW.new w _ _,by simp[eN],hF,by simp[fM],by simp[fM,eN]⟩
def Ej (bs:List Nat)(w:World)(d:Ending)(w':World):Prop:=
 ∃ g,d= .returned (.tuple #[.slice (some ⟨g,0,none⟩) (mO bs).length (mO bs).length,.int .i64 (4*((bs.length+3)/4)-bs.length:Nat),.int .i64 0])/\
   Row w' g 32 (mO bs).length (eN (mO bs))/\w.heap.size<=g/\Below w.heap.size w w'
theorem Yq {zs:List Nat}{k:Nat}{u:Value}(h:(fP zs)[k]? = some u):∃ x,zs[k]? = some x/\u= .int .u8 (x:Int):=by
 unfold fP at h;rw[aN]at h
 cases hz:zs[k]? with
 | none=>rw[hz]at h;cases h
 | some x=>rw[hz]at h;exact⟨x,rfl,by injection h with h;exact h.symm⟩
theorem oL {w:World}(A:Option Addr)(n c B:Nat)(bs:List Nat)(hn:n<=262140)(hr:eQ w B 1 A n (fP bs))(hB:B<=w.heap.size)(hb:∀ x∈bs,x<256):
 Calls Tryz.prog 179 #[.slice A n c] w (Ej bs w):=by
 have hl:bs.length=n:=by have:=hr.1;simpa[fP] using this
 subst hl;have HL:=aa (GY bs.length (by omega) w);rw[if_neg (by omega)]at HL;have uN:=aa hr;have SU:=aa hb;have Gn:=QP ((bs.length+3)/4) (by omega);have tO:=aa (Ds bs);have hpk:mO bs=l6 ((bs.length+3)/4) bs bs.length:=rfl;have pT:=aa hpk;clear hr hb hpk;have hF:bs.length<=4*((bs.length+3)/4):=by omega
 have hF2:(bs.length+3)/4<=65535:=by omega
 generalize hFe:(bs.length+3)/4=F at*;have Sj:=aa hFe;clear hFe;generalize hN:bs.length=N at*;have HN:=aa hN;clear hN;go_enter Tryz.func179,Tryz.ntmps179;go_wp2_with fail;refine HL.o.mono ?_;rintro e w1 ⟨rfl,rfl⟩;go_wp2_with fail;have HS:=aa (show Row (w.alloc (.cells (fM (.int .u32 0) F) 32)) w.heap.size 32 F (eN (l6 F bs 0)) from by rw[JU];exact Kj w _ F 0 (by simp only[maxLen];omega));have j8:=aa (show Below w.heap.size w (w.alloc (.cells (fM (.int .u32 0) F) 32)) from (Below.refl _ _).alloc (af _) _);clear Gn
 go_loopw [24] (fun i wr=>∃ k:Nat,k<=N/\i= .int .i64 k/\Row wr w.heap.size 32 F (eN (l6 F bs k))/\Below w.heap.size w wr) (fun i _=>N-(intOf i).toNat)
 case atStart=>exact⟨0,by omega,rfl,HS.o,j8.o⟩
 case round=>
  clear HS j8;obtain⟨k,hk,rfl,hrow,kG⟩:=hrel;by_cases hlt:k<N
  .obtain⟨ad,u0,hA,_,hx,P_⟩:=(uN.o.below (kG.mono hB)).at_ hlt;obtain⟨x,QC,rfl⟩:=Yq hx;have hx8:=SU.o x (au QC);have hkF:k/4<F:=(by omega);have hcw:=hrow.cell (i:=k/4) (u:=.int .u32 ((iU (bs.take k) (k/4):Nat):Int)) (by simp[eN,Nh F bs k _ hkF]);have Mp:=hrow.frozen (k/4);have hold:=N8 (bs.take k) (fun y hy=>SU.o y (aI hy)) (k/4);have hstep:=JT F bs SU.o k hkF;have hxg:bs.getD k 0=x:=(by simp[List.getD,QC]);rw[hxg]at hstep;have tr:=hrow.set (k/4) (.int .u32 ((iU (bs.take k) (k/4) ||| (x*2 ^ (8*(k%4))):Nat):Int));rw[show (eN (l6 F bs k)).set (k/4) (.int .u32 ((iU (bs.take k) (k/4) ||| (x*2 ^ (8*(k%4))):Nat):Int))=eN (l6 F bs (k+1)) by rw[<-hstep];simp[eN]]at tr;have hsh:x*2 ^ (8*(k%4))<4294967296:=by
    rcases (by omega:k%4=0\/k%4=1\/k%4=2\/k%4=3) with r|r|r|r <;> rw[r] <;> omega
   have Ow:=u32_or_nat (iU (bs.take k) (k/4)) (x*2 ^ (8*(k%4))) hold hsh;have aau:=aa tr;have HOR:=aa Ow;clear tr Ow hstep hxg QC hx hrow hsh;generalize iU (bs.take k) (k/4)=old at*;generalize KY:(old ||| x*2 ^ (8*(k%4)))=nw at*;clear KY;obtain⟨j,hj⟩ :∃ j,k/4=j:=⟨_,rfl⟩;have amp:(k:Int)/4=(j:Int):=(by omega);rw[hj]at hcw Mp aau hkF;clear hj;have lJ:=aa kG;clear kG;have hjF:(j:Int)<(F:Int):=(by omega);have Ug:(0:Int)<=(j:Int):=(by omega);subst hA;rcases (by omega:k%4=0\/k%4=1\/k%4=2\/k%4=3) with hr|hr|hr|hr
   all_goals
    have Ow:=HOR.o;rw[hr]at Ow;have ahl:(k:Int)%4=((k%4:Nat):Int):=(by omega);rw[hr]at ahl;simp at Ow;clear hr;go_wp2_with fail
    go_region
   all_goals
    go_wp2_with fail;go_roundw
    case rel=>exact⟨k+1,by omega,by go_num,aau.o,(lJ.o.setCell (by simp) _).drew⟩
    case measure=>simp[intOf];omega
  .obtain rfl:k=N:=(by omega);have HR:=aa hrow;have lJ:=aa kG;clear hrow kG;go_wp2_with fail
   go_ret3
   refine⟨w.heap.size,?_,?_,af _,lJ.o⟩
   .rw[tO.o,HN.o,Sj.o];simp
   .rw[tO.o,pT.o];exact HR.o
end
section
open Go.RowKit
def jZ (x:Nat):List Nat:=[x%256,x/256%256,x/65536%256,x/16777216%256]
def fg (ys:List Nat):List Nat:=ys.flatMap jZ
theorem gK (ys:List Nat):(fg ys).length=4*ys.length:=by
 induction ys with
 | nil=>rfl
 | cons x ys ih=>
   have:fg (x :: ys)=jZ x++fg ys:=rfl;rw[this,ai,ih];simp[jZ];omega
theorem xC (ys:List Nat)(k x:Nat)(h:ys[k]? = some x):fg (ys.take (k+1))=fg (ys.take k)++jZ x:=by
 rw[List.take_add_one,h];simp[fg,List.flatMap_append]
def ic (ys:List Nat)(s:Nat):Nat:=if ((fg ys).drop (4*ys.length-s)).all (· == 0) then 0 else 10
def LS (ys:List Nat)(s:Nat)(w:World)(d:Ending)(w':World):Prop:=
 Below w.heap.size w w'/\if ic ys s=0 then ∃ g c,d= .returned (.tuple #[.slice (some ⟨g,0,none⟩) (4*ys.length-s) (4*ys.length-s),.int .i64 0])/\Row w' g 5 c (fP (fg ys))/\w.heap.size<=g
  else d= .returned (.tuple #[.slice none 0 0,.int .i64 10])
theorem E3 {zs:List Nat}{k:Nat}{u:Value}(h:(eN zs)[k]? = some u):∃ x,zs[k]? = some x/\u= .int .u32 (x:Int):=by
 unfold eN at h;rw[aN]at h
 cases hz:zs[k]? with
 | none=>rw[hz]at h;cases h
 | some x=>rw[hz]at h;exact⟨x,rfl,by injection h with h;exact h.symm⟩
theorem kX (l:List Nat):∀ u∈fP l,u.oneCell'=true:=by
 intro u hu;obtain⟨x,_,rfl⟩:=List.mem_map.1 hu;rfl
theorem Uz (F:Nat)(hF:F<=4194304)(w:World):
 (Instr.makeSlice 22 (.int .i64 0) (.int .i64 (F:Int))).run Tryz.prog w= .ok (.slice (some ⟨w.heap.size,0,none⟩) 0 F) (w.alloc (.cells (fM (.int .u8 0) F) 5)):=by
 obtain⟨i0,iF,hz0,hz1,hz2⟩:=info_parts kW;have:=mI (P:=Tryz.prog) 22 5 i0 _ Tryz.underlying22 iF hz0 .i64 .i64 0 F (by omega) (by rw[hz2];omega) (by omega) w;have e:madeCells (aV .u8 0).cells (F*1)=fM (.int .u8 0) F:=by
  apply Array.ext
  .simp[madeCells,fM,aF]
  .intro i h1 h2;simp[madeCells,fM,aF,aW]
 have e0:((0:Nat):Int)=0:=rfl;rw[e0]at this;rw[this,hz1,e]
theorem Ic (w:World)(e:TypeId)(F:Nat)(z:Value)(hF:F<=maxLen):Row (w.alloc (.cells (fM z F) e)) w.heap.size e F []:=
 ⟨fM z F,eW.new w _ _,by simp,hF,by simp[fM],by simp⟩
theorem Row.ownsB {w:World}{g c B L:Nat}{e:TypeId}{xs:List Value}(h:Row w g e c xs)(hB:B<=g)(hl:xs.length=L):w.ownsRow B e 1 (.slice (some ⟨g,0,none⟩) L c) L xs:=by
 subst hl;obtain⟨cur,hb,hl,hm,hc,hx⟩:=h;exact⟨by simp,.inr ⟨g,c,cur,rfl,hB,hb,hl,hm,by simpa using hc,by simpa using hx⟩⟩
theorem zZ {w:World}{B e n:Nat}{v:Value}{xs:List Value}(h:w.ownsRow B e 1 v n xs)(o:Obj):(w.alloc o).ownsRow B e 1 v n xs:=by
 obtain⟨h1,h2⟩:=h;refine⟨h1,?_⟩;rcases h2 with h2|⟨g,c,cur,hv,hB,hb,r⟩
 .exact .inl h2
 .exact .inr ⟨g,c,cur,hv,hB,eW.alloc hb o,r⟩
theorem Aw (w:World)(e:TypeId)(a b c d:Value):eQ (w.alloc (.cells #[a,b,c,d] e)) (w.heap.size+1) 1 (some ⟨w.heap.size,0,none⟩) 4 [a,b,c,d]:=
 ⟨rfl,fun _=>⟨_,rfl,by simp,fun j u hj=>by
   rw[ak,aA,(eW.new w _ _).cell];simpa using hj⟩⟩
theorem ac4 (a b c d:Int):∀ u∈([.int .u8 a,.int .u8 b,.int .u8 c,.int .u8 d]:List Value),u.oneCell'=true:=by
 intro u hu;simp at hu;rcases hu with rfl|rfl|rfl|rfl <;> rfl
theorem CE {w:World}{B e n:Nat}{v:Value}{ys:List Nat}{k x:Nat}{a b c d:Int}(h:w.ownsRow B e 1 v n (fP (fg (ys.take k))++[.int .u8 a,.int .u8 b,.int .u8 c,.int .u8 d]))
 (hk:fg (ys.take (k+1))=fg (ys.take k)++jZ x)(ha:a=(x:Int)%256)(hb:b=(x:Int)/256%256)(hc:c=(x:Int)/65536%256)(hd:d=(x:Int)/16777216%256):
 w.ownsRow B e 1 v n (fP (fg (ys.take (k+1)))):=by
 subst ha hb hc hd;rw[hk];simpa[fP,jZ] using h
theorem je {w w1 w2:World}{B:Nat}{b:Option Nat}(hBs:B<=w.heap.size)(h:Below B w w1)(hg:w1.grownBy w2 b)(hb:∀ g,b=some g->B<=g):Below B w w2:=
 ⟨hg.os.trans h.os,hg.tape.trans h.tape,hg.output.trans h.output,aj h.size hg.size,fun k hk=>(hg.block k (aK hk (aj hBs h.size)) (fun e=>by have:=hb k e.symm;omega)).trans (h.block k hk)⟩
theorem oC (ys:List Nat):ic ys 0=0:=by
 unfold ic;rw[aL,<-gK,List.drop_length];rfl
theorem qP {w:World}(A:Option Addr)(n c B s:Nat)(ys:List Nat)(hn:n<=65535)(hr:eQ w B 1 A n (eN ys))(hB:B<=w.heap.size)(hb:∀ x∈ys,x<4294967296)(hs:s<=3)(hs0:0<s->0<n):
 Calls Tryz.prog 194 #[.slice A n c,.int .i64 s] w (LS ys s w):=by
 have hl:ys.length=n:=by have:=hr.1;simpa[eN] using this
 have uN:=aa hr;have SU:=aa hb;have HL:=aa hl;have Gn:=Uz (4*n) (by omega) w;have hS:=aa (show Row (w.alloc (.cells (fM (.int .u8 0) (4*n)) 5)) w.heap.size 5 (4*n) (fP (fg (ys.take 0))) from by simpa[fg,fP] using Ic w 5 (4*n) (.int .u8 0) (by simp only[maxLen];omega));have j8:=aa (show Below w.heap.size w (w.alloc (.cells (fM (.int .u8 0) (4*n)) 5)) from (Below.refl _ _).alloc (af _) _);clear hr hb hl;obtain⟨N4,TW⟩ :∃ N4,4*n=N4:=⟨_,rfl⟩;have al1:4*(n:Int)=(N4:Int):=by omega
 rw[TW]at Gn hS j8;have HG:=aa (show (s=0\/0<s/\0<n) by omega);have hnz:(decide (0<(s:Int)) && ((n:Int) == 0))=false:=by
  by_cases h:0<s
  .have:=hs0 h;simp;omega
  .simp;omega
 have Uo:∀ v:Bool,(if decide (0<(s:Int))=true then v else false)=(decide (0<(s:Int)) && v):=fun v=>by cases decide (0<(s:Int)) <;> rfl
 clear hs0;obtain⟨i0,iF,hz0,hz1,hz2⟩:=info_parts kW;rcases (by have:=HG.o;omega:s=0\/0<s/\¬ n=0) with h0|⟨h0,h1⟩
 .subst h0;go_enter Tryz.func194,Tryz.ntmps194;go_wp2_with fail;clear Gn
  go_loopw [6,36] (fun b i wr=>∃ (k g1 c1 L:Nat),k<=n/\i= .int .i64 k/\b= .slice (some ⟨g1,0,none⟩) L c1/\L=4*k/\Row wr g1 5 c1 (fP (fg (ys.take k)))/\w.heap.size<=g1/\Below w.heap.size w wr) (fun _ i _=>n-(intOf i).toNat)
  case atStart=>exact⟨0,_,_,_,by omega,rfl,rfl,rfl,hS.o,af _,j8.o⟩
  case round=>
   clear hS j8;obtain⟨k,g1,c1,L,hk,rfl,rfl,Y2,hrow,hg1,kG⟩:=hrel;by_cases hlt:k<n
   .obtain⟨ad,u0,hA,_,hx,P_⟩:=(uN.o.below (kG.mono hB)).at_ hlt;obtain⟨x,QC,rfl⟩:=E3 hx;have qW:=SU.o x (au QC);have oV:=aa (xC ys k x QC);have HOW:=aa (show wr.ownsRow w.heap.size 5 1 (.slice (some ⟨g1,0,none⟩) L c1) L (fP (fg (ys.take k))) from by
     have hl:(fP (fg (ys.take k))).length=L:=(by simp[fP,gK,HL.o];omega);exact hrow.ownsB hg1 hl)
    subst hA;have lJ:=aa kG;have Ti:=aa Y2;clear hrow kG hx QC Y2;go_wp2_with (at_builtin;refine eM _ rfl (.tmp 40) (.tmp 52) _ rfl w.heap.size 5 i0 _ 1 1 Tryz.underlying22 iF hz0 hz1 hz2 rfl (by omega) (.slice (some ⟨g1,0,none⟩) L c1) L _ rfl (zZ HOW.o _) (wr.heap.size+1) (some ⟨wr.heap.size,0,none⟩) 4 4 _ rfl (Aw _ _ _ _ _ _) (ac4 _ _ _ _) (by have:=Ti.o;simp only[maxLen];omega) (by have:=Ti.o;omega) (by have:=lJ.o.size;simp;omega) ?_;intro v1 w5 fe hgrow j0;obtain⟨g5,c5,rfl,jr,zB,Ca⟩:=Row.apk (CE fe oV.o (by omega) (by omega) (by omega) (by omega)) (by omega);clear fe);go_roundw
    case rel=>exact⟨k+1,g5,c5,L+4,by omega,by go_num,rfl,by have:=Ti.o;omega,jr,Ca,je (af _) ((lJ.o).alloc lJ.o.size _) hgrow (by simp[ag];exact hg1)⟩
    case measure=>simp[intOf];omega
   .obtain rfl:k=n:=(by omega);have HR:=aa (show Row wr g1 5 c1 (fP (fg ys)) from by rw[<-HL.o,aP]at hrow;exact hrow);have hLc:L<=c1:=(by have:=hrow;obtain⟨_,_,h1,_⟩:=hrow;simp[fP,gK,HL.o]at h1;omega);have lJ:=aa kG;have anp:L-L=0:=(by omega);clear hrow kG;by_cases hc:c1=L
    .subst hc;go_wp2_with fail
     go_loopw [63] (fun i wr=>i= .int .i64 0/\Row wr g1 5 c1 (fP (fg ys))/\Below w.heap.size w wr) (fun _ _=>0)
     case atStart=>exact⟨rfl,HR.o,lJ.o⟩
     case round=>
      clear HR lJ;obtain⟨rfl,hrow,kG⟩:=hrel;have HR:=aa hrow;have lJ:=aa kG;clear hrow kG;go_wp2_with fail;go_ret2;refine⟨lJ.o,?_⟩;rw[if_pos (oC ys)];exact⟨g1,_,by rw[HL.o,aL,TW];rfl,HR.o,hg1⟩
    .go_wp2_with fail
     go_loopw [63] (fun i wr=>i= .int .i64 0/\Row wr g1 5 c1 (fP (fg ys))/\Below w.heap.size w wr) (fun _ _=>0)
     case atStart=>exact⟨rfl,HR.o,lJ.o⟩
     case round=>
      clear HR lJ;obtain⟨rfl,hrow,kG⟩:=hrel;have HR:=aa hrow;have lJ:=aa kG;clear hrow kG;go_wp2_with fail;go_ret2;refine⟨lJ.o,?_⟩;rw[if_pos (oC ys)];exact⟨g1,_,by rw[HL.o,aL,TW];rfl,HR.o,hg1⟩
 .have anc:((n:Int) == 0)=false:=by simp;omega
  have hsp:decide (0<(s:Int))=true:=by simp;omega
  clear Uo hnz;go_enter Tryz.func194,Tryz.ntmps194;go_wp2_with fail;clear Gn
  go_loopw [6,36] (fun b i wr=>∃ (k g1 c1 L:Nat),k<=n/\i= .int .i64 k/\b= .slice (some ⟨g1,0,none⟩) L c1/\L=4*k/\Row wr g1 5 c1 (fP (fg (ys.take k)))/\w.heap.size<=g1/\Below w.heap.size w wr) (fun _ i _=>n-(intOf i).toNat)
  case atStart=>exact⟨0,_,_,_,by omega,rfl,rfl,rfl,hS.o,af _,j8.o⟩
  case round=>
   clear hS j8;obtain⟨k,g1,c1,L,hk,rfl,rfl,Y2,hrow,hg1,kG⟩:=hrel;by_cases hlt:k<n
   .obtain⟨ad,u0,hA,_,hx,P_⟩:=(uN.o.below (kG.mono hB)).at_ hlt;obtain⟨x,QC,rfl⟩:=E3 hx;have qW:=SU.o x (au QC);have oV:=aa (xC ys k x QC);have HOW:=aa (show wr.ownsRow w.heap.size 5 1 (.slice (some ⟨g1,0,none⟩) L c1) L (fP (fg (ys.take k))) from by
     have hl:(fP (fg (ys.take k))).length=L:=(by simp[fP,gK,HL.o];omega);exact hrow.ownsB hg1 hl)
    subst hA;have lJ:=aa kG;have Ti:=aa Y2;clear hrow kG hx QC Y2;go_wp2_with (at_builtin;refine eM _ rfl (.tmp 40) (.tmp 52) _ rfl w.heap.size 5 i0 _ 1 1 Tryz.underlying22 iF hz0 hz1 hz2 rfl (by omega) (.slice (some ⟨g1,0,none⟩) L c1) L _ rfl (zZ HOW.o _) (wr.heap.size+1) (some ⟨wr.heap.size,0,none⟩) 4 4 _ rfl (Aw _ _ _ _ _ _) (ac4 _ _ _ _) (by have:=Ti.o;simp only[maxLen];omega) (by have:=Ti.o;omega) (by have:=lJ.o.size;simp;omega) ?_;intro v1 w5 fe hgrow j0;obtain⟨g5,c5,rfl,jr,zB,Ca⟩:=Row.apk (CE fe oV.o (by omega) (by omega) (by omega) (by omega)) (by omega);clear fe);go_roundw
    case rel=>exact⟨k+1,g5,c5,L+4,by omega,by go_num,rfl,by have:=Ti.o;omega,jr,Ca,je (af _) ((lJ.o).alloc lJ.o.size _) hgrow (by simp[ag];exact hg1)⟩
    case measure=>simp[intOf];omega
   .obtain rfl:k=n:=(by omega);obtain rfl:L=N4:=(by omega);have HR:=aa (show Row wr g1 5 c1 (fP (fg ys)) from by rw[<-HL.o,aP]at hrow;exact hrow);have hLc:L<=c1:=(by have:=hrow;obtain⟨_,_,h1,_⟩:=hrow;simp[fP,gK,HL.o]at h1;omega);have aml:c1<=9223372036854775807:=(by obtain⟨_,_,_,h1,_⟩:=hrow;unfold maxLen at h1;exact h1);have lJ:=aa kG;obtain⟨T,hT⟩ :∃ T,L=T+s:=⟨L-s,by omega⟩;have hT1:(L:Int)-(s:Int)=(T:Int):=(by omega);have hT2:L-T=s:=(by omega);have hT3:T<=L:=(by omega);have hT4:¬ c1=T:=(by omega);have hT5:(T:Int)<=(L:Int):=(by omega);have HT:=aa hT;clear hrow kG hT Y2;go_wp2_with fail
    go_loopw [63] (fun i wr=>∃ j:Nat,j<=s/\i= .int .i64 j/\(∀ m,m<j->(fg ys).getD (T+m) 0=0)/\Row wr g1 5 c1 (fP (fg ys))/\Below w.heap.size w wr) (fun i _=>s-(intOf i).toNat)
    case atStart=>exact⟨0,by omega,rfl,fun m h=>absurd h (by omega),HR.o,lJ.o⟩
    case round=>
     clear HR lJ;obtain⟨j,hj,rfl,Gu,hrow,kG⟩:=hrel;have HZ:=aa Gu;have HR:=aa hrow;have lJ:=aa kG;by_cases hlt:j<s
     .have hlen:T+j<(fg ys).length:=(by rw[gK,HL.o,TW,HT.o];omega);have hcell:=hrow.cell (i:=T+j) (u:=.int .u8 ((fg ys).getD (T+j) 0:Nat)) (by simp[fP,ah,ar hlen]);have wC:=aa (show ∀ b,(fg ys).getD (T+j) 0=b->b=0->∀ m,m<j+1->(fg ys).getD (T+m) 0=0 from fun b e1 e2 m hm=>by
       by_cases h:m=j
       .subst h;rw[e1,e2]
       .exact Gu m (by omega))
      have HNZ:=aa (show (fg ys).getD (T+j) 0≠0->ic ys s=10 from fun hne=>by
       unfold ic;rw[if_neg];intro hall;rw[aQ]at hall;have hm:(fg ys).getD (T+j) 0∈(fg ys).drop (4*ys.length-s):=by
        rw[HL.o,TW,HT.o,ax];rw[ah,ar hlen,Option.getD_some];rw[az];exact⟨j,by omega,rfl⟩
       have:=hall _ hm;simp at this;exact hne (by simpa[ah] using this))
      have hji:(j:Int)<(s:Int):=(by omega);clear Gu hrow kG;generalize hb:(fg ys).getD (T+j) 0=b at*;have akJ:=aa hb;clear hb hlen;by_cases hb0:b=0
      .have hz:=wC.o b rfl hb0;have LP:=aa hz;have VC:((b:Int) != 0)=false:=(by simp;omega);clear wC HNZ hz;go_wp2_with fail;go_roundw
       case rel=>exact⟨j+1,by omega,by go_num,LP.o,HR.o,lJ.o⟩
       case measure=>simp[intOf];omega
      .have VC:((b:Int) != 0)=true:=(by simp;omega);have HE:=aa (HNZ.o hb0);clear wC HNZ hb0;go_wp2_with fail;go_ret2;refine⟨lJ.o,?_⟩;rw[HE.o,if_neg (by decide)];rfl
     .obtain rfl:j=s:=(by omega);have HE:=aa (show ic ys j=0 from by
       unfold ic;rw[if_pos];rw[aQ];intro x hx;rw[HL.o,TW,HT.o,ax]at hx;rw[az]at hx;obtain⟨m,hm,rfl⟩:=hx;rw[gK,HL.o,TW,HT.o]at hm;have:=Gu m (by omega);rw[ah,ar (by rw[gK,HL.o,TW,HT.o];omega),Option.getD_some]at this;simpa using this)
      clear Gu hrow kG;go_wp2_with fail;go_ret2;refine⟨lJ.o,?_⟩;rw[if_pos HE.o];exact⟨g1,_,by rw[HL.o,TW,HT.o,ax];rfl,HR.o,hg1⟩
end
section
open Go.RowKit
def HM.fields (h:HM)(o:Nat):List Nat:=(h.words.drop (o/2+3)).take (h.hd (o/2)).size
def HM.apK (h:HM)(o:Nat):Nat:=if h.isB o=false then 3 else if (h.hd (o/2)).fmt=2 then ic (h.fields o) (h.hd (o/2)).spare else 21
def yJ (h:HM)(o:Nat)(w:World)(d:Ending)(w':World):Prop:=
 Below w.heap.size w w'/\if h.apK o=0 then ∃ g c,d= .returned (.tuple #[.slice (some ⟨g,0,none⟩) (h.hd (o/2)).len (h.hd (o/2)).len,.int .i64 0])/\Row w' g 5 c (fP (fg (h.fields o)))/\w.heap.size<=g
  else d= .returned (.tuple #[.slice none 0 0,.int .i64 (h.apK o)])
theorem HM.fields_len {h:HM}{o:Nat}(hd:h.apS (o/2)):(h.fields o).length=(h.hd (o/2)).size:=by
 have:=hd.1;simp[HM.fields];omega
theorem ib {w w':World}{B:Nat}(hb:Below B w w'):Below B w w'.drew:=⟨hb.os,hb.tape,hb.output,hb.size,hb.block⟩
def Pr (ys:List Nat)(s B:Nat)(v:Value)(E:Nat)(w':World):Prop:=
 (ic ys s=0/\E=0/\∃ g c,v= .slice (some ⟨g,0,none⟩) (4*ys.length-s) (4*ys.length-s)/\Row w' g 5 c (fP (fg ys))/\B<=g)\/(ic ys s=10/\E=10/\v= .slice none 0 0)
theorem LS.any {ys:List Nat}{s:Nat}{w w':World}{d:Ending}(h:LS ys s w d w'):
 Below w.heap.size w w'/\∃ v E,d= .returned (.tuple #[v,.int .i64 ((E:Nat):Int)])/\Pr ys s w.heap.size v E w':=by
 obtain⟨h1,h2⟩:=h;refine⟨h1,?_⟩;by_cases he:ic ys s=0
 .rw[if_pos he]at h2;obtain⟨g,c,rfl,hr,hg⟩:=h2;exact⟨_,0,rfl,.inl ⟨he,rfl,g,c,rfl,hr,hg⟩⟩
 .rw[if_neg he]at h2;have he2:ic ys s=10:=by unfold ic at*;split <;> simp_all
  exact⟨_,10,h2,.inr ⟨he2,rfl,rfl⟩⟩
theorem Pr.mono {ys:List Nat}{s B B' E:Nat}{v:Value}{w':World}(h:Pr ys s B v E w')(hB:B'<=B):Pr ys s B' v E w':=by
 rcases h with ⟨h1,h2,g,c,h3,h4,h5⟩|h
 .exact .inl ⟨h1,h2,g,c,h3,h4,aj hB h5⟩
 .exact .inr h
section
variable {w:World}{p:HP}{h:HM}(H:fO w p h)(f:h.Fit)(hh:h.apu)(hs:eX w)(o:Nat)(ho:o<4294967296)
include H f hh hs ho
theorem wL:Calls Tryz.prog 137 #[ptr p.g,.int .u32 o] w (yJ h o w):=by
 have HC:=aa (jm H f hh hs o ho);cases hi:h.isB o
 .have HH:=aa (show h.api o= .tuple #[.agg #[.int .i64 0,.int .i64 0,.int .i64 0,.int .u32 0,.int .u32 0],.int .i64 3] by simp[HM.api,hi]);have HF:=aa (show h.apK o=3 by simp[HM.apK,hi]);rw[HH.o]at HC;clear HH hi;unfold ptr at HC ⊢;go_enter Tryz.func137,Tryz.ntmps137;go_wp2_with fail;refine HC.o.mono ?_;rintro e w1 ⟨rfl,hb1⟩;go_wp2_with fail;go_ret2;exact⟨hb1.alloc hb1.size _,by rw[if_neg (by rw[HF.o];decide),HF.o];rfl⟩
 .have hd:=HM.aps hh hi;have hk:=HM.isB_obj hi;have HH:=aa (show h.api o= .tuple #[(h.hd (o/2)).val,.int .i64 0] by simp[HM.api,hi]);have HX:=aa (show (h.hd (o/2)).val= .agg #[.int .i64 (h.hd (o/2)).size,.int .i64 (h.hd (o/2)).fmt,.int .i64 (h.hd (o/2)).spare,.int .u32 (h.hd (o/2)).cls,.int .u32 (h.hd (o/2)).ser] from rfl);have kJ:=HM.apR f (o/2);rw[HH.o,HX.o]at HC;clear HH HX;by_cases h2:(h.hd (o/2)).fmt=2
  .have pn:(h.hd (o/2)).may=true:=(by have:=hd.2;unfold lL at this;simp only[Bool.and_eq_true]at this;exact this.1);have hle:(h.hd (o/2)).size<=65535/\(h.hd (o/2)).spare<=3/\(0<(h.hd (o/2)).spare->0<(h.hd (o/2)).size):=by
    have:=kJ;unfold Hd.may at pn;simp only[Bool.and_eq_true,Bool.or_eq_true,decide_eq_true_eq]at pn;obtain⟨_,_,h3,_,_⟩:=kJ;omega
   have HE:=aa (show h.apK o=ic (h.fields o) (h.hd (o/2)).spare by simp[HM.apK,hi,h2]);have BG:=aa (show (h.hd (o/2)).len=4*(h.hd (o/2)).size-(h.hd (o/2)).spare by unfold Hd.len;rw[if_pos h2]);have OW:=aa (HM.fields_len hd);have hroom:=hd.1;have hmx:=f.room;have My:=f.hi
   have Tz:=aa (fun (w1:World) (hb:Below w.heap.size w w1) (A:Option Addr) (c:Nat) (hA:0<(h.hd (o/2)).size->A=some ⟨p.gw,o/2+3,none⟩)=>qP (w:=w1) A (h.hd (o/2)).size c w1.heap.size (h.hd (o/2)).spare (h.fields o) hle.1
    ⟨by simp[eN,OW.o],fun h0=>⟨_,hA h0,by have:=(H.below hb).lt (.inr (.inl rfl));exact this,fun j u hj=>by
      obtain⟨x,hx,rfl⟩:=E3 hj;have XW:j<(h.hd (o/2)).size:=(by rw[<-OW.o];exact (List.getElem?_eq_some_iff.1 hx).1);have hw:=(H.below hb).word (i:=o/2+3+j) (by omega);rw[ak,hw];congr 2;unfold HM.fields at hx;rw[List.getElem?_take,if_pos XW,List.getElem?_drop]at hx;rw[ah,hx];rfl⟩⟩ (af _) (fun x hx=>f.w32 x (List.mem_of_mem_drop (aI hx))) hle.2.1 hle.2.2)
   have HA:=aa (fun w=>tR p.g o ho hk w);have yO:=aa (fun w' (hb:Below w.heap.size w w')=>show w'.cell? ⟨p.g,0,none⟩=some (.slice (some ⟨p.gw,0,none⟩) h.words.length p.cw) from (H.below hb).c0);obtain⟨hcw,hcm⟩ :h.words.length<=p.cw/\p.cw<=9223372036854775807:=by
    obtain⟨_,_,h1,h2,_⟩:=H.2.1;rw[eY]at h1;unfold maxLen at h2;exact⟨h1,h2⟩
   have anl:=hle.1;clear hd hk hi kJ pn hle
   have yT:=aa (fun v E w' (hb:Below w.heap.size w w') (hU:Pr (h.fields o) (h.hd (o/2)).spare w.heap.size v E w')=>
    show yJ h o w (.returned (.tuple #[v,.int .i64 (E:Nat)])) w' from by
     rcases hU with ⟨he,rfl,g,c',rfl,hr,hg⟩|⟨he,rfl,rfl⟩
     .exact⟨hb,by rw[if_pos (by rw[HE.o];exact he)];exact⟨g,c',by rw[BG.o,OW.o];rfl,hr,hg⟩⟩
     .exact⟨hb,by rw[if_neg (by rw[HE.o,he];decide),HE.o,he]⟩)
   clear HE BG;generalize hBP:yJ h o w=BP at*;clear hBP;generalize h.hd (o/2)=x at*;generalize o/2=q at*;generalize h.words.length=len at*;obtain⟨S,t,s,c,r⟩:=x
   dsimp only at*
   subst h2;obtain⟨Q,hQ⟩ :∃ Q,q+3=Q:=⟨_,rfl⟩;obtain⟨R,hR⟩ :∃ R,Q+S=R:=⟨_,rfl⟩;have e1:(q:Int)+3=(Q:Int):=(by omega);have e2:(Q:Int)+(S:Int)=(R:Int):=(by omega);have e3:R-Q=S:=(by omega);have e4:Q<=R:=(by omega);have e4':(Q:Int)<=(R:Int):=(by omega);have e5:R<=p.cw:=(by omega);have e5':(R:Int)<=(p.cw:Int):=(by omega);have e6:aO.wrap (R:Int)=(R:Int):=IntWalk.i64_in _ (by omega);have e7:aO.wrap (Q:Int)=(Q:Int):=IntWalk.i64_in _ (by omega);rw[hQ]at Tz;have HQ:=aa hQ;clear hQ hR hroom;unfold ptr at HC HA ⊢;by_cases P8:p.cw=Q
   .have TY:S=0:=(by omega);subst TY;obtain rfl:R=Q:=(by omega);clear e3 e4 e4' e5 e5' e6;have e8:R-R=0:=(by omega);go_enter Tryz.func137,Tryz.ntmps137;go_wp2_with fail;refine HC.o.mono ?_;rintro e w1 ⟨rfl,hb1⟩;have hb:=hb1.alloc hb1.size (.cells #[.int .i64 0,.int .i64 2,.int .i64 s,.int .u32 c,.int .u32 r] 75);have c0:=yO.o _ hb;go_wp2_with fail;refine (HA.o _).mono ?_;rintro e w2 ⟨rfl,rfl⟩;go_wp2_with fail
    go_region_with (refine (Tz.o _ (ib hb) (some ⟨p.gw,0,none⟩) 0 (fun hh=>absurd hh (by decide))).mono ?_;rintro e w2 hU;obtain⟨hb2,v,E,rfl,hU2⟩:=LS.any hU)
    all_goals go_wp2_with fail
    all_goals go_ret2
    all_goals exact yT.o _ _ _ (eF (ib hb) hb2) (hU2.mono hb.size)
   .skip
    go_enter Tryz.func137,Tryz.ntmps137;go_wp2_with fail;refine HC.o.mono ?_;rintro e w1 ⟨rfl,hb1⟩;have hb:=hb1.alloc hb1.size (.cells #[.int .i64 S,.int .i64 2,.int .i64 s,.int .u32 c,.int .u32 r] 75);have c0:=yO.o _ hb;go_wp2_with fail;refine (HA.o _).mono ?_;rintro e w2 ⟨rfl,rfl⟩;go_wp2_with fail
    go_region_with (refine (Tz.o _ (ib hb) (some ⟨p.gw,Q,none⟩) (p.cw-Q) (fun _=>rfl)).mono ?_;rintro e w2 hU;obtain⟨hb2,v,E,rfl,hU2⟩:=LS.any hU)
    all_goals go_wp2_with fail
    all_goals go_ret2
    all_goals exact yT.o _ _ _ (eF (ib hb) hb2) (hU2.mono hb.size)
  .have HE:=aa (show h.apK o=21 by simp[HM.apK,hi,h2]);have hne:(((h.hd (o/2)).fmt:Int) != 2)=true:=(by simp;omega);clear h2 hi hk hd kJ
   have iQ:=aa (fun w' (hb:Below w.heap.size w w')=>
    show yJ h o w (.returned (.tuple #[.slice none 0 0,.int .i64 21])) w' from⟨hb,by rw[if_neg (by rw[HE.o];decide),HE.o];rfl⟩)
   generalize hBP:yJ h o w=BP at*;clear hBP;generalize h.hd (o/2)=x at*;obtain⟨S,t,s,c,r⟩:=x
   dsimp only at*
   unfold ptr at HC ⊢;go_enter Tryz.func137,Tryz.ntmps137;go_wp2_with fail;refine HC.o.mono ?_;rintro e w1 ⟨rfl,hb1⟩;have hb:=hb1.alloc hb1.size (.cells #[.int .i64 S,.int .i64 t,.int .i64 s,.int .u32 c,.int .u32 r] 75);go_wp2_with fail;exact iQ.o _ hb
end
end
section
open Go.RowKit
attribute [local go_sem] Oper.semAt_some
theorem CJ:∀ (k x:Nat),x<128 ^ (k+1)->(fq x).length<=k+1
 | 0,x,h=>by rw[gR (by simpa using h)];simp
 | k+1,x,h=>by
   by_cases hx:x<128
   .rw[gR hx];simp
   .rw[jO hx];have:=CJ k (x/128) (by rw[Nat.div_lt_iff_lt_mul (by omega)];rw[Nat.pow_succ]at h;exact h);simp;omega
theorem gQ {x:Nat}(h:x<4294967296):(fq x).length<=5:=CJ 4 x (by rw[show (128:Nat) ^ (4+1)=34359738368 by decide];omega)
theorem Yl (m:Nat):bits .or .u8 ((m:Int)%256) 128=((m%128+128:Nat):Int):=by
 have h:∀ a:Fin 256,(a.val ||| 128)=a.val%128+128:=by decide
 have h1:=u8_or_nat (m%256) 128 (by omega) (by omega);rw[h ⟨m%256,by omega⟩]at h1;simp only at h1;rw[show ((m:Int)%256)=((m%256:Nat):Int) by omega,show (128:Int)=((128:Nat):Int) from rfl,h1];congr 1;omega
def oD (bs:List Nat)(w:World)(e:Ending)(w':World):Prop:=
 ∃ v',e= .returned v'/\w'.ownsRow w.heap.size 5 1 v' bs.length (fP bs)/\Below w.heap.size w w'
def iO (B:Nat)(v:Value)(bs cs:List Nat)(w:World)(e:Ending)(w':World):Prop:=
 ∃ v',e= .returned v'/\w'.ownsRow B 5 1 v' (bs++cs).length (fP (bs++cs))/\w.heap.size<=w'.heap.size/\w'.os=w.os/\w'.tape=w.tape/\w'.output=w.output/\(∀ k,k<w.heap.size->v.ownBlock≠some k->w'.heap[k]? = w.heap[k]?)/\∀ k,v'.ownBlock=some k->v.ownBlock=some k\/w.heap.size<=k
theorem iu (x:Nat)(hx:x<4294967296)(w:World):Calls Tryz.prog 111 #[.int .u32 x] w (oD (fq x) w):=by
 have hc5:=gQ hx;obtain⟨i0,iF,hz0,hz1,hz2⟩:=info_parts kW;have HO:=aa (show w.ownsRow w.heap.size 5 1 (.slice none 0 0) ([]:List Nat).length (fP []) from⟨rfl,.inl ⟨rfl,rfl⟩⟩);go_enter Tryz.func111,Tryz.ntmps111;go_wp2_with fail
 go_loopw [0,3] (fun y b wr=>∃ m gJ,y= .int .u32 (m:Nat)/\m<4294967296/\gJ++fq m=fq x/\wr.ownsRow w.heap.size 5 1 b (gJ:List Nat).length (fP gJ)/\Below w.heap.size w wr) (fun y _ _=>(intOf y).toNat)
 case atStart=>exact⟨x,[],rfl,hx,rfl,HO.o,Below.refl _ _⟩
 case round=>
  clear HO;obtain⟨m,gJ,rfl,hm,P9,hown,hgr⟩:=hrel;have HOW:=aa hown;have Cu:=aa hgr;have D_:=aa P9;clear hown hgr P9;have hBw:w.heap.size<=wr.heap.size:=Cu.o.size;by_cases h128:m<128
  .have hbl:gJ.length<=10:=(by have:=congrArg aX D_.o;simp at this;omega);have hd:decide (128<=(m:Int))=false:=(by simp;omega);have hm8:((m:Int)%256)=(m:Int):=(by omega);have xr:=aa (show fq x=gJ++[m] by rw[<-D_.o,gR h128]);clear h128 hm;go_wp2_with (at_builtin;refine eM _ rfl (.tmp 14) (.tmp 17) _ rfl w.heap.size 5 i0 _ 1 1 Tryz.underlying22 iF hz0 hz1 hz2 rfl (by omega) u3 gJ.length _ rfl (HOW.o.alloc _) (wr.heap.size+1) (some ⟨wr.heap.size,0,none⟩) 1 1 (fP [m]) rfl ⟨rfl,fun _=>⟨_,rfl,by simp,cell_one_new _ _ _⟩⟩ (kX _) (by simp only[maxLen];omega) (by omega) (by simp;omega) ?_;intro v1 w5 fe hgrow j0);go_ret;refine⟨_,rfl,?_,je (af _) (Cu.o.alloc Cu.o.size _) hgrow (fun q hq=>(HOW.o.lt q hq).1)⟩;rw[xr.o];unfold fP at fe ⊢;rw[aU,ai];exact fe
  .have hbl:gJ.length+1<=10:=(by have:=congrArg aX D_.o;rw[jO h128]at this;simp at this;omega);have hd:decide (128<=(m:Int))=true:=(by simp;omega);have Ow:=Yl m;have xr:=aa (show (gJ++[m%128+128])++fq (m/128)=fq x by rw[<-D_.o,jO h128];simp);have HD:=aa (show m/128<4294967296/\m/128<m by omega);clear h128 hm;go_wp2_with (at_builtin;refine eM _ rfl (.tmp 6) (.tmp 10) _ rfl w.heap.size 5 i0 _ 1 1 Tryz.underlying22 iF hz0 hz1 hz2 rfl (by omega) u3 gJ.length _ rfl (HOW.o.alloc _) (wr.heap.size+1) (some ⟨wr.heap.size,0,none⟩) 1 1 (fP [m%128+128]) rfl ⟨rfl,fun _=>⟨_,rfl,by simp,cell_one_new _ _ _⟩⟩ (kX _) (by simp only[maxLen];omega) (by omega) (by simp;omega) ?_;intro v1 w5 fe hgrow j0);go_roundw
   case rel=>
    refine⟨m/128,gJ++[m%128+128],by go_num,HD.o.1,xr.o,?_,je (af _) (Cu.o.alloc Cu.o.size _) hgrow (fun q hq=>(HOW.o.lt q hq).1)⟩;unfold fP at fe ⊢;rw[aU,ai];exact fe
   case measure=>have:=HD.o.2;simp[intOf];omega
def ml (x:Nat):List Nat:=[x%256,x/256%256,x/65536%256,x/16777216%256]
theorem C1 (x:Nat)(hx:x<4294967296)(w:World):Calls Tryz.prog 112 #[.int .u32 x] w (oD (ml x) w):=by
 have e0:aJ.wrap (x:Int)=((x%256:Nat):Int):=by show (x:Int)%256=_;omega
 have e1:aJ.wrap ((x:Int)/256)=((x/256%256:Nat):Int):=by show ((x:Int)/256)%256=_;omega
 have e2:aJ.wrap ((x:Int)/65536)=((x/65536%256:Nat):Int):=by show ((x:Int)/65536)%256=_;omega
 have e3:aJ.wrap ((x:Int)/16777216)=((x/16777216%256:Nat):Int):=by show ((x:Int)/16777216)%256=_;omega
 go_enter Tryz.func112,Tryz.ntmps112;go_wp2_with fail;go_ret;exact⟨_,rfl,⟨rfl,.inr ⟨w.heap.size,4,_,rfl,af _,heap_alloc_new w _,af _,by simp[maxLen],rfl,rfl⟩⟩,(Below.refl _ _).alloc (af _) _⟩
theorem fy {w:World}{base:Nat}{e:TypeId}{v:Value}{n:Nat}{xs:List Value}(h:w.ownsRow base e 1 v n xs):∃ A c,v= .slice A n c/\eQ w w.heap.size 1 A n xs:=by
 rcases aM n with h0|h0
 .have hx:xs=[]:=aw (by have:=h.1;omega);subst hx;subst h0;rcases h.2 with ⟨h1,_⟩|⟨g,cap,cur,rfl,_⟩
  .exact⟨none,0,h1,rfl,fun hh=>by omega⟩
  .exact⟨some ⟨g,0,none⟩,cap,rfl,rfl,fun hh=>by omega⟩
 .obtain⟨g,c,rfl,hr,hx,hb⟩:=Row.apk h h0;refine⟨some ⟨g,0,none⟩,c,rfl,?_⟩;rw[<-hx];exact hr.reads (h.lt g rfl).2
theorem fE {w w':World}{base s n:Nat}{e:TypeId}{v:Value}{xs:List Value}(h:w.ownsRow base e s v n xs)(hs:∀ k,v.ownBlock=some k->w'.heap[k]? = w.heap[k]?):w'.ownsRow base e s v n xs:=by
 refine⟨h.1,?_⟩;rcases h.2 with h1|⟨g,cap,cur,h1,h2,h3,h4⟩
 .exact .inl h1
 .exact .inr ⟨g,cap,cur,h1,h2,(hs g (by rw[h1];rfl)).trans h3,h4⟩
structure RB (w2 wr:World) (B:Nat) (v:Value) (bs:List Nat):Prop where
 own:wr.ownsRow B 5 1 v bs.length (fP bs)
 base:Below w2.heap.size w2 wr
 hB:w2.heap.size<=B
 top:B<=wr.heap.size
theorem RB.below {w2 w w':World}{B:Nat}{v:Value}{bs:List Nat}(C:RB w2 w B v bs)(hb:Below w.heap.size w w'):RB w2 w' B v bs:=
 ⟨fE C.own (fun k hk=>hb.block k (C.own.lt k hk).2),eF C.base hb,C.hB,aj C.top hb.size⟩
theorem AY (a b:List Nat):fP (a++b)=fP a++fP b:=by simp[fP]
theorem RB.app {w2 w w':World}{B m:Nat}{v v':Value}{bs cs:List Nat}(C:RB w2 w B v bs)(hm:cs.length=m)(ho:w'.ownsRow B 5 1 v' (bs.length+m) (fP bs++fP cs))(hg:w.grownBy w' v.ownBlock):RB w2 w' B v' (bs++cs):=
 ⟨by rw[ai,AY,hm];exact ho,C.base.grown hg (aj C.hB C.top) (fun k hk=>aj C.hB (C.own.lt k hk).1),C.hB,aj C.top hg.size⟩
theorem RB.bytes {w2 w w':World}{B:Nat}{v:Value}{bs cs:List Nat}{e:Ending}(C:RB w2 w B v bs)(h:iO B v bs cs w e w'):∃ v',e= .returned v'/\RB w2 w' B v' (bs++cs):=by
 obtain⟨v',rfl,h1,h2,h3,h4,h5,h6,-⟩:=h;exact⟨v',rfl,h1,⟨h3.trans C.base.os,h4.trans C.base.tape,h5.trans C.base.output,aj C.base.size h2,fun k hk=>(h6 k (aK hk C.base.size) (fun e=>by have:=(C.own.lt k e).1;have:=C.hB;omega)).trans (C.base.block k hk)⟩,C.hB,aj C.top h2⟩
end
section
open Go.RowKit
attribute [local go_sem] Oper.semAt_some
theorem RB.new {w2 w w':World}{v:Value}{bs:List Nat}(ho:w'.ownsRow w.heap.size 5 1 v bs.length (fP bs))(hb:Below w.heap.size w w')(h0:Below w2.heap.size w2 w):RB w2 w' w.heap.size v bs:=
 ⟨ho,eF h0 hb,h0.size,hb.size⟩
theorem RB.reads {w2 w:World}{B:Nat}{v:Value}{bs:List Nat}(C:RB w2 w B v bs):∃ A c,v= .slice A bs.length c/\eQ w w.heap.size 1 A bs.length (fP bs):=fy C.own
theorem RB.alloc {w2 w:World}{B:Nat}{v:Value}{bs:List Nat}(C:RB w2 w B v bs)(o:Obj):RB w2 (w.alloc o) B v bs:=C.below ((Below.refl _ _).alloc (af _) o)
theorem RB.nil {w2 w:World}{B:Nat}(hb:Below w2.heap.size w2 w)(hB:w2.heap.size<=B)(ht:B<=w.heap.size):RB w2 w B (.slice none 0 0) []:=
 ⟨⟨rfl,.inl ⟨rfl,rfl⟩⟩,hb,hB,ht⟩
theorem gW (bs:List Nat):(fP bs).length=bs.length:=by simp[fP]
theorem DG (w:World)(bs:List Nat)(n:Nat)(hn:bs.length=n):eQ (w.alloc (.cells (fP bs).toArray 5)) (w.heap.size+1) 1 (some ⟨w.heap.size,0,none⟩) n (fP bs):=by
 subst hn;refine⟨by rw[gW,aq],fun _=>⟨_,rfl,by simp,fun j u hu=>?_⟩⟩;rw[ak,aA];refine ((eW.new w _ _).cell j).trans ?_;rw[<-hu];simp
theorem Rf (w:World)(bs:List Nat)(n:Nat)(hn:bs.length=n)(hm:n<=maxLen):(w.alloc (.cells (fP bs).toArray 5)).ownsRow w.heap.size 5 1 (.slice (some ⟨w.heap.size,0,none⟩) n n) n (fP bs):=by
 subst hn;exact⟨by simp[fP],.inr ⟨w.heap.size,bs.length,_,rfl,af _,heap_alloc_new w _,af _,hm,by simp[fP],by rw[List.take_of_length_le (by simp[fP])]⟩⟩
theorem jY {ops:Array Oper}{rest:List Oper}{o:Oper}{a:Act}{Q:Exit->Act->World->Prop}{w w2:World}{B m c:Nat}{v:Value}{bs cs:List Nat}{A:Option Addr}(s x:Operand)
 (C:RB w2 w B v bs)(hr:eQ w w.heap.size 1 A m (fP cs))(hs:a.eval s=v)(hx:a.eval x= .slice A m c)(hn:bs.length+m<=100000000000000)
 (ho:o.op= .call { callee:=.builtin .append,args:=#[s,x],argTypes:=#[22,22] })(hgd:o.guard=none)
 (h:∀ v' w',RB w2 w' B v' (bs++cs)->w.grownBy w' v.ownBlock->wpList Tryz.prog ops Q rest (a.put o.dst v') w'):wpList Tryz.prog ops Q (o :: rest) a w:=by
 obtain⟨i0,iF,hz0,hz1,hz2⟩:=info_parts kW;refine eM _ hgd s x _ ho B 5 i0 _ 1 1 Tryz.underlying22 iF hz0 hz1 hz2 rfl (by omega) v bs.length (fP bs) hs C.own w.heap.size A m c (fP cs) hx hr (kX _) (by simp only[maxLen];omega) (by omega) C.top ?_;intro v4 w4 vn tZ XG;exact h _ _ (C.app (by have:=hr.1;rw[gW,aq]at this;exact this) vn tZ) tZ
theorem yq {ops:Array Oper}{rest:List Oper}{o:Oper}{a:Act}{Q:Exit->Act->World->Prop}{w w2:World}{n m c:Nat}{b:Addr}{bs cs:List Nat}{A:Option Addr}(s x:Operand)
 (hb:Below w2.heap.size w2 w)(uH:eQ w w.heap.size 1 (some b) n (fP bs))(hr:eQ w w.heap.size 1 A m (fP cs))(hs:a.eval s= .slice (some b) n n)(hx:a.eval x= .slice A m c)(hm:0<m)(hn:n+m<=100000000000000)
 (ho:o.op= .call { callee:=.builtin .append,args:=#[s,x],argTypes:=#[22,22] })(hgd:o.guard=none)
 (h:∀ v' w',RB w2 w' w.heap.size v' (bs++cs)->wpList Tryz.prog ops Q rest (a.put o.dst v') w'):wpList Tryz.prog ops Q (o :: rest) a w:=by
 obtain⟨i0,iF,hz0,hz1,hz2⟩:=info_parts kW;obtain⟨ad,rfl,hlt,Jk⟩:=hr.2 hm;have tC:bs.length=n:=by have:=uH.1;rw[gW,aq]at this;exact this
 have hcs:cs.length=m:=by have:=hr.1;rw[gW,aq]at this;exact this
 have h0:∀ j u,(fP bs)[j]? = some u->w.cell? (b.add j)=some u:=by
  intro j u hu;rcases aM n with hz|hp
  .have:bs=[]:=aw (by omega);rw[this]at hu;simp[fP]at hu
  .obtain⟨Vp,hh,_,hc⟩:=uH.2 hp;have e1:=Option.some.inj hh;subst e1;exact hc j u hu
 have hrun:=run_append_grow (P:=Tryz.prog) w 22 o.type 5 i0 (.int .u8 0) Tryz.underlying22 iF hz0 b n n (fP bs) (by rw[gW,tC,hz1,aq]) h0 ad m c (fP cs) (by rw[gW,hcs,hz1,aq]) Jk (by omega) (by omega) (growslice_fits (by omega) (by rw[hz2];omega));refine wpList_plain hgd fun _ hK=>?_;unfold Oper.wp execOp;simp only[ho,resolve,invoke,builtin,Sem.run_bind,Sem.run_pure,Result.andThen_ok,List.map_toArray,List.map_cons,List.map_nil,hs,hx,hrun];refine hK _ _ (h _ _ ?_);have mS:=grownCap_ge w (n+m) n 5;have hcm:grownCap w (n+m) n 5<=maxLen:=grownCap_le_maxLen w (n+m) n 5 (by simp only[maxLen];omega);refine⟨⟨by simp[fP],.inr ⟨w.heap.size,_,_,by rw[ai,tC,hcs],af _,heap_alloc_new w.drew _,by rw[ai,tC,hcs];exact mS,hcm,?_,?_⟩⟩,?_,hb.size,by simp⟩
 .simp only[Array.size_append,List.size_toArray,size_zeroCells,gW,tC,hcs,show (aV .u8 0).cells.size=1 from rfl];omega
 .simp only[Array.toList_append,ay];rw[<-ay,aq,<-AY,<-gW (bs++cs)];exact List.take_left
 .exact (show Below w2.heap.size w2 w.drew from⟨hb.os,hb.tape,hb.output,hb.size,hb.block⟩).alloc hb.size _
theorem J3 (w:World)(X:Obj)(bs:List Nat)(n:Nat)(hn:bs.length=n):eQ ((w.alloc X).alloc (.cells (fP bs).toArray 5)) ((w.alloc X).alloc (.cells (fP bs).toArray 5)).heap.size 1 (some ⟨w.heap.size+1,0,none⟩) n (fP bs):=by
 have h:=(DG (w.alloc X) bs n hn).more (B':=((w.alloc X).alloc (.cells (fP bs).toArray 5)).heap.size) (by simp);simpa using h
theorem ES (w:World)(Y:Obj)(m:Nat × Nat)(bs:List Nat)(n:Nat)(hn:bs.length=n):eQ ((w.alloc (.cells (fP bs).toArray 5 m)).alloc Y) ((w.alloc (.cells (fP bs).toArray 5 m)).alloc Y).heap.size 1 (some ⟨w.heap.size,0,none⟩) n (fP bs):=by
 subst hn;refine⟨by rw[gW,aq],fun _=>⟨_,rfl,by simp;omega,fun j u hu=>?_⟩⟩;rw[ak,aA];rw[World.cell?_alloc_lt _ _ _ (by simp)];refine (cell_of_row _ w.heap.size j (fP bs).toArray 5 m (heap_alloc_new w _)).trans ?_;rw[<-hu];simp
end
end Go.Proofs.YtlkahgagmfhdaaaGreatDoor
