import Derived.Test.YtlkahgagmfhdaaaGreatDoorJCanon
import Derived.Lib.SlBytesConst
set_option linter.unusedVariables false
set_option linter.unusedSimpArgs false
set_option linter.unusedSectionVars false
open Go.World renaming size_alloc→ae
open List renaming getD_eq_getElem?_getD→af,getElem?_eq_getElem→ag
set_option maxRecDepth 100000
set_option maxHeartbeats 4000000
namespace Go.Proofs.YtlkahgagmfhdaaaGreatDoor
section
open Go.RowKit
def ca0:HM:=HM.new 64
def ca1:HM:=ca0.apI 0 1 2
def ca2:HM:=ca1.apI 0 1 2
def ca3:HM:=ca2.apQ 2 0 2
def ca4:HM:=ca3.apQ 2 1 7
def ca5:HM:=ca4.apQ 12 0 12
def Bq:HM:=ca5.apQ 12 1 9
theorem Vr:ca0.aqg 0 1 2=2/\ca0.ap8 0 1 2=0:=by decide +kernel
theorem Vs:ca1.aqg 0 1 2=12/\ca1.ap8 0 1 2=0:=by decide +kernel
theorem aaZ:ca2.apT 2 0 2=0:=by decide +kernel
theorem aa0:ca3.apT 2 1 7=0:=by decide +kernel
theorem aa1:ca4.apT 12 0 12=0:=by decide +kernel
theorem aa2:ca5.apT 12 1 9=0:=by decide +kernel
theorem KD:Bq.apn [2]=true/\Bq.apn [12]=true:=by decide +kernel
theorem En:f_ Bq.nmN Bq.ao_ [2]=some [⟨2,-1,0,1⟩]:=by kernel_rfl
theorem Py:f_ Bq.nmN Bq.ao_ [12]=some [⟨12,-1,0,1⟩]:=by kernel_rfl
theorem TN:mY Bq.nmN Bq.ao_ Bq.ao_ (Bq.odM Bq false) [2] [12]=⟨2,[0,1],0⟩:=by kernel_rfl
theorem Pw:kF Bq false [2] [⟨2,-1,0,1⟩]=[2,1,0,2,0,2,13]:=by
 have e1:(Bq.hd (2/2))=⟨2,1,0,0,1⟩:=by kernel_rfl
 have e2:Bq.nmN 2=3:=by decide +kernel
 have r0:ja [⟨2,-1,0,1⟩] (Bq.ao_ 2 0)=0:=by decide +kernel
 have r1:ja [⟨2,-1,0,1⟩] (Bq.ao_ 2 1)=2:=by decide +kernel
 have r2:ja [⟨2,-1,0,1⟩] (Bq.ao_ 2 2)=13:=by decide +kernel
 have r3:ja [⟨2,-1,0,1⟩] (id 2)=2:=by decide +kernel
 unfold kF iK HM.apM HM.apA HM.apz HM.ap0 iK;simp only[eL,List.map_cons,List.map_nil,List.flatMap_cons,List.flatMap_nil,e1,e2,r3,List.range_succ,List.range_zero,List.flatMap_append,List.nil_append,r0,r1,r2,gR (show 2<128 by omega),gR (show 0<128 by omega),gR (show 13<128 by omega)];rfl
theorem FI:lH Bq Bq [2] [12]=0:=by
 unfold lH HM.apv;rw[if_pos KD,En,Py];rfl
theorem Px:mM Bq Bq false [2] [12]=⟨2,[0,1],0⟩:=by unfold mM;rw[if_pos FI];exact TN
theorem Jb {xs ys:List Int}(hl:xs.length=ys.length)(h:∀ j,j<xs.length->xs.getD j 0=ys.getD j 0):xs=ys:=by
 apply List.ext_getElem hl;intro j h1 h2;have:=h j h1;rw[af,af,ag h1,ag h2]at this;simpa using this
theorem QH {w:World}(A A':Option Addr)(n m c c':Nat)(xs ys:List Int)(hn:n<=140737488351232)(hm:m<=140737488351232)(hr:eQ w w.heap.size 1 A n (jE xs))(hr':eQ w w.heap.size 1 A' m (jE ys)):
 Calls Tryz.prog 128 #[.slice A n c,.slice A' m c'] w (Told (.bool (decide (xs=ys))) w):=by
 have hl:xs.length=n:=by have:=hr.1;rw[jf]at this;omega
 have hl':ys.length=m:=by have:=hr'.1;rw[jf]at this;omega
 have HL:=aa hl;have Sm:=aa hl';have HR:=aa hr;have HR':=aa hr';clear hl hl' hr hr';by_cases Jo:n=m
 .subst Jo;have en:((n:Int) != (n:Int))=false:=by simp
  go_enter Tryz.func128,Tryz.ntmps128;go_wp2_with fail
  go_loopw [5] (fun iv wr=>∃ k:Nat,k<=n/\iv= .int .i64 k/\(∀ j,j<k->xs.getD j 0=ys.getD j 0)/\Below w.heap.size w wr) (fun iv _=>n-(intOf iv).toNat)
  case atStart=>exact⟨0,by omega,rfl,fun j hj=>by omega,Below.refl _ _⟩
  case round=>
   obtain⟨k,hk,rfl,hno,hb⟩:=hrel;have qX:=aa hno;have HB:=aa hb;clear hno hb;by_cases hlt:k<n
   .obtain⟨TK,u1,rfl,_,hx1,SH⟩:=(HR.o.below HB.o).at_ hlt;obtain⟨Xs,u2,rfl,_,hx2,Yj⟩:=(HR'.o.below HB.o).at_ hlt;rw[Gw (by rw[HL.o];exact hlt)]at hx1;rw[Gw (by rw[Sm.o];exact hlt)]at hx2;injection hx1 with hx1;injection hx2 with hx2;subst hx1;subst hx2;by_cases heq:xs.getD k 0=ys.getD k 0
    .have e5:((xs.getD k 0) != (ys.getD k 0))=false:=(by rw[heq];simp);have Sh:=aa heq;clear heq;generalize K7:xs.getD k 0=y1 at*;generalize hv2:ys.getD k 0=y2 at*;have HV1:=aa K7;have YR:=aa hv2;clear K7 hv2;go_wp2_with fail
     go_quiet (fail)
     go_wp2_with fail;go_roundw
     case rel=>
      refine⟨k+1,by omega,by go_num,fun j hj=>?_,below_drewN HB.o _⟩;rcases Nat.lt_or_ge j k with h1|h1
      .exact qX.o j h1
      .obtain rfl:j=k:=(by omega);rw[HV1.o,YR.o,Sh.o]
     case measure=>simp[intOf];omega
    .have e5:((xs.getD k 0) != (ys.getD k 0))=true:=(by simpa using heq);have OV:=aa (show decide (xs=ys)=false from decide_eq_false fun e=>heq (by rw[e]));rw[OV.o];clear heq;generalize xs.getD k 0=y1 at*;generalize ys.getD k 0=y2 at*;go_wp2_with fail
     go_quiet (fail)
     have U6:=aa (below_drewN HB.o nq);clear SH Yj HB;generalize wr.drewN nq=w7 at*;go_wp2_with fail;go_ret;exact⟨rfl,U6.o⟩
   .obtain rfl:k=n:=(by omega);have ux:=aa (show decide (xs=ys)=true from decide_eq_true (Jb (by rw[HL.o,Sm.o]) (fun j hj=>qX.o j (by rw[HL.o]at hj;exact hj))));go_wp2_with fail;go_ret;exact⟨by rw[ux.o];rfl,HB.o⟩
 .have en:((n:Int) != (m:Int))=true:=by simp;omega
  have OV:=aa (show decide (xs=ys)=false from decide_eq_false fun e=>Jo (by rw[<-HL.o,<-Sm.o,e]));rw[OV.o];clear Jo;go_enter Tryz.func128,Tryz.ntmps128;go_wp2_with fail;go_ret;exact⟨rfl,Below.refl _ _⟩
theorem I2 (W:World)(E:Ig W):Calls Tryz.prog 52 #[] W (Told (.bool true) W):=by
 have HE:=aa E;clear E;go_enter Tryz.func52,Tryz.ntmps52;go_wp2_with fail;refine (EI 64 (by decide) (by decide) _).mono ?_;rintro e w1 hN;obtain⟨p,g,rfl,L0⟩:=ju.aqX (v:=fun g=> .tuple #[ptr g,.int .i64 0]) HE.o (by decide) (by decide) hN;replace L0:ju W w1 p g ca0:=L0;clear hN;unfold ptr;go_wp2_with fail;refine (L0.alloc 0 (by decide) 1 2).mono ?_;rintro e w2 ⟨p1,rfl,L1,-⟩;rw[Vr.1,Vr.2];replace L1:ju W w2 p1 g ca1:=L1;go_wp2_with fail;refine (L1.alloc 0 (by decide) 1 2).mono ?_;rintro e w3 ⟨p2,rfl,L2,-⟩;rw[Vs.1,Vs.2];replace L2:ju W w3 p2 g ca2:=L2;go_wp2_with fail;refine (L2.put 2 (by decide) 0 2 (by decide)).mono ?_;rintro e w4 ⟨p3,rfl,L3,-⟩;rw[aaZ];replace L3:ju W w4 p3 g ca3:=L3;go_wp2_with fail;refine (L3.put 2 (by decide) 1 7 (by decide)).mono ?_;rintro e w5 ⟨p4,rfl,L4,-⟩;rw[aa0];replace L4:ju W w5 p4 g ca4:=L4;go_wp2_with fail;refine (L4.put 12 (by decide) 0 12 (by decide)).mono ?_;rintro e w6 ⟨p5,rfl,L5,-⟩;rw[aa1];replace L5:ju W w6 p5 g ca5:=L5;go_wp2_with fail;refine (L5.put 12 (by decide) 1 9 (by decide)).mono ?_;rintro e w7 ⟨p6,rfl,L6,-⟩;rw[aa2];replace L6:ju W w7 p6 g Bq:=L6;clear L0 L1 L2 L3 L4 L5;obtain⟨ls,G6⟩:=L6.good;have XR:=L6.hg;subst XR;have E7:=aa G6;go_wp2_with fail;have La:=L6.after ((Below.refl _ w7).alloc (Nat.le_refl _) (.cells #[.int .u32 2] 54));refine (CF La.at_ G6 G6.laid.heads La.ap7.apl false (some ⟨w7.heap.size,0,none⟩) 1 1 [2] (by decide) ⟨rfl,fun _=>⟨_,rfl,by simp,cell_one_new _ _ _⟩⟩ (by decide)).mono ?_;rintro e w8 ⟨l9,⟨h1,-⟩|⟨-,h1,-⟩|⟨-,l,v,h1,-,rfl,hown⟩⟩
 .rw[KD.1]at h1;cases h1
 .rw[En]at h1;cases h1
 rw[En]at h1;injection h1 with h1;subst h1;rw[Pw]at hown;have HL8:=aa (La.after l9);have IG:=aa hown;clear La l9 hown L6;go_wp2_with fail;have Ji:=(Below.refl w8.heap.size w8).alloc (Nat.le_refl _) (.cells #[.int .u32 2] 54);have hbb:=Ji.alloc (by simp) (.cells #[.int .u32 12] 54);have Lb:=HL8.o.after hbb;have c2:=(eW.new w8 54 #[.int .u32 2]).alloc (.cells #[.int .u32 12] 54);have c12:=eW.new (w8.alloc (.cells #[.int .u32 2] 54)) 54 #[.int .u32 12];rw[ae]at c12;refine (FP Lb.at_ G6 Lb.at_ G6 Lb.ap7.apl false (some ⟨w8.heap.size,0,none⟩) (some ⟨w8.heap.size+1,0,none⟩) 1 1 1 1 [2] [12] (by decide) (by decide) (mR c2 (by simp;omega)) (mR c12 (by simp)) (by decide) (by decide)).mono ?_;rintro e w9 ⟨lN,A9,c9,rfl,Qz,-⟩;rw[Px]at Qz ⊢;rw[FI];replace Qz:eQ w9 w9.heap.size 1 A9 2 (jE [0,1]):=Qz;have Ik:=aa Qz;have HL9:=aa (Lb.after lN);have hbD:=(eF hbb lN).alloc (eF hbb lN).size (.cells #[.int .i64 2,.slice A9 2 c9,.int .i64 0] 213);have kcv:=o_ (fB IG.o (fun k hk=>hbD.block k (IG.o.lt k hk).2));rw[show Kd [2,1,0,2,0,2,13]=⟨#[2,1,0,2,0,2,13]⟩ by decide +kernel]at kcv
 have kcl:=o_ (w:=(w9.alloc (.cells #[.int .i64 2,.slice A9 2 c9,.int .i64 0] 213)).alloc (.cells #[.int .u8 2,.int .u8 1,.int .u8 0,.int .u8 2,.int .u8 0,.int .u8 2,.int .u8 13] 5)) (base:=0) (n:=7) (v:=.slice (some ⟨w9.heap.size+1,0,none⟩) 7 7) (xs:=[2,1,0,2,0,2,13])
  ⟨rfl,.inr ⟨w9.heap.size+1,7,_,rfl,Nat.zero_le _,(by have h:=heap_alloc_new (w9.alloc (.cells #[.int .i64 2,.slice A9 2 c9,.int .i64 0] 213)) (.cells #[.int .u8 2,.int .u8 1,.int .u8 0,.int .u8 2,.int .u8 0,.int .u8 2,.int .u8 13] 5);rw[ae]at h;exact h),by simp[fP],by simp[maxLen],rfl,rfl⟩⟩
 rw[show Kd [2,1,0,2,0,2,13]=⟨#[2,1,0,2,0,2,13]⟩ by decide +kernel]at kcl;have BD:=eW.new w9 213 #[.int .i64 2,.slice A9 2 c9,.int .i64 0];have yr:=aa BD;have hbE:=((Below.refl w9.heap.size w9).alloc (Nat.le_refl _) (.cells #[.int .i64 2,.slice A9 2 c9,.int .i64 0] 213)).alloc (by simp) (.cells #[.int .u8 2,.int .u8 1,.int .u8 0,.int .u8 2,.int .u8 0,.int .u8 2,.int .u8 13] 5);have HBE:=aa hbE;have d0:=(BD.alloc (.cells #[.int .u8 2,.int .u8 1,.int .u8 0,.int .u8 2,.int .u8 0,.int .u8 2,.int .u8 13] 5)).cell 0;have d1:=(BD.alloc (.cells #[.int .u8 2,.int .u8 1,.int .u8 0,.int .u8 2,.int .u8 0,.int .u8 2,.int .u8 13] 5)).cell 1;clear Ji hbb Lb c2 c12 lN Qz hbD BD HL8 hbE;go_wp2_with fail;have hbF:=HBE.o.alloc (by simp;omega) (.cells #[.int .i64 0,.int .i64 1] 3);have c01:=eW.new ((w9.alloc (.cells #[.int .i64 2,.slice A9 2 c9,.int .i64 0] 213)).alloc (.cells #[.int .u8 2,.int .u8 1,.int .u8 0,.int .u8 2,.int .u8 0,.int .u8 2,.int .u8 13] 5)) 3 #[.int .i64 0,.int .i64 1];rw[ae,ae]at c01;have kn:=aa hbF;have HLF:=aa (HL9.o.after hbF);refine (QH A9 (some ⟨w9.heap.size+1+1,0,none⟩) 2 2 c9 2 [0,1] [0,1] (by decide) (by decide) ((Ik.o.below hbF).more hbF.size) (vW c01 (by simp))).mono ?_;rintro e w10 ⟨rfl,pd⟩;have HLG:=aa (HLF.o.after pd);rw[show decide (([0,1]:List Int)=[0,1])=true from rfl];clear hbF c01 pd;go_wp2_with fail;go_ret;exact⟨rfl,HLG.o.below⟩
end
section
open Go.RowKit
attribute [local go_sem] Oper.semAt_some
def Cs.cells (k:Cs):Array Value:=#[.int .i64 k.size,.slice k.A k.n k.c,.slice k.A' k.n' k.c',.int .u32 (k.last:Nat)]
theorem PB {w:World}{g:Nat}{t:TypeId}{a b c d:Value}(h:eW w g t #[a,b,c,d]):w.cell? ⟨g,0,none⟩=some a/\w.cell? ⟨g,1,none⟩=some b/\w.cell? ⟨g,2,none⟩=some c/\w.cell? ⟨g,3,none⟩=some d:=⟨h.cell 0,h.cell 1,h.cell 2,h.cell 3⟩
def Xo (h:HM)(rn:Nat)(w:World)(e:Ending)(w':World):Prop:=
 ∃ g c,e= .returned (.slice (some ⟨g,0,none⟩) 64 c)/\rn<=c/\(rn:Int)<=(c:Int)/\eQ w' w'.heap.size 1 (some ⟨g,0,none⟩) rn (eN (h.roots.take rn))/\Below w.heap.size w w'
theorem J7 {w:World}{p:HP}{h:HM}(H:fO w p h)(f:h.Fit)(rn:Nat)(hr:rn<=64):Calls Tryz.prog 54 #[ptr p.g] w (Xo h rn w):=
 (sJ H f).mono fun e w' ⟨g,c,he,hrow,mS,hb⟩=>by
  have h64:=f.roots;rw[eY,h64]at he;have hc:64<=c:=by
   obtain⟨cur,_,h2,_⟩:=hrow;rw[eY,h64]at h2;exact h2
  refine⟨g,c,he,by omega,by omega,⟨by rw[eY,List.length_take];omega,fun _=>⟨_,rfl,hrow.lt,fun j u hu=>?_⟩⟩,hb⟩;rw[WideShapes.add_plain,Nat.zero_add];refine hrow.cell ?_;unfold eN at hu ⊢;rw[List.getElem?_map]at hu ⊢;rw[List.getElem?_take]at hu;split at hu
  .exact hu
  .cases hu
end
end Go.Proofs.YtlkahgagmfhdaaaGreatDoor
