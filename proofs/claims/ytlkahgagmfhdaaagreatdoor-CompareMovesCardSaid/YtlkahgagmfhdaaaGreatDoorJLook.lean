import Derived.Test.YtlkahgagmfhdaaaGreatDoorJMay
import Derived.Deep.LoopGhost
set_option linter.unusedVariables false
set_option linter.unusedSectionVars false
open List renaming getElem?_eq_getElem→ae,getD_eq_getElem?_getD→ag,take_of_length_le→ak,take_add_one→ar,getElem_mem→aw
open Bool renaming and_eq_true→af
open Nat renaming le_refl→ah,zero_add→aq
open Int renaming eq_ofNat_of_zero_le→ai,toNat_natCast→au
open Go.WideShapes renaming add_plain→aj
set_option maxHeartbeats 2000000
namespace Go.Proofs.YtlkahgagmfhdaaaGreatDoor
section
open Go.RowKit
def qh (l:List Nat):List Value:=l.map fun x:Nat=> .int .i64 (x:Int)
theorem ints_at {zs:List Nat}{k:Nat}{u:Value}(h:(qh zs)[k]? = some u):∃ x,zs[k]? = some x/\u= .int .i64 (x:Int):=by
 unfold qh at h;rw[List.getElem?_map]at h
 cases hz:zs[k]? with
 | none=>rw[hz]at h;cases h
 | some x=>rw[hz]at h;exact⟨x,rfl,by injection h with h;exact h.symm⟩
def Uu (fs:List Nat)(x:Nat)(w:World)(e:Ending)(w':World):Prop:=∃ j:Int,e= .returned (.int .i64 j)/\(decide (0<=j)=fs.contains x)/\ -1<=j/\j<=9223372036854775807/\w=w'
theorem uu {fs:List Nat}{x k y:Nat}(hy:fs[k]? = some y)(hne:x≠y)(h:(fs.take k).contains x=false):(fs.take (k+1)).contains x=false:=by
 rw[ar,hy];simp at h ⊢;exact⟨h,hne⟩
theorem yh {fs:List Nat}{x k:Nat}(hy:fs[k]? = some x):fs.contains x=true:=by
 simp;exact List.mem_of_getElem? hy
theorem ML (A:Option Addr)(n c B:Nat)(fs:List Nat)(x:Nat)(w:World)(hn:n<=9223372036854775807)(hr:eQ w B 1 A n (qh fs)):
 Calls Tryz.prog 269 #[.slice A n c,.int .i64 x] w (Uu fs x w):=by
 have hl:fs.length=n:=by have:=hr.1;simpa[qh] using this
 have HL:=aa hl;clear hl;have HR:=aa hr;clear hr;go_enter Tryz.func269,Tryz.ntmps269;go_wp2_with fail
 go_loop [8] (fun i=>∃ k:Nat,k<=n/\i= .int .i64 k/\(fs.take k).contains x=false) (fun i=>n-(intOf i).toNat)
 case atStart=>exact⟨0,by omega,rfl,by simp⟩
 case round=>
  obtain⟨k,hk,rfl,hno⟩:=hrel;have qX:=aa hno;clear hno;by_cases hlt:k<n
  .obtain⟨ad,u0,rfl,_,hx,hcell⟩:=HR.o.at_ hlt;obtain⟨y,hy,rfl⟩:=ints_at hx;clear hx;have HY:=aa hy;clear hy;by_cases QE:x=y
   .subst QE;go_wp2_with fail;go_ret;exact⟨k,rfl,by rw[yh HY.o];simp,by omega,by omega,rfl⟩
   .have hb:((x:Int) == (y:Int))=false:=beq_eq_false_iff_ne.2 (by omega);have HXY:=aa QE;clear QE;go_wp2_with fail
    go_round
    case rel=>exact⟨k+1,by omega,by go_num,uu HY.o HXY.o qX.o⟩
    case measure=>simp[intOf];omega
  .obtain rfl:k=n:=(by omega);have hall:=qX.o;rw[ak (by rw[HL.o];omega)]at hall;have HA:=aa hall;clear hall;go_wp2_with fail;go_ret;exact⟨-1,rfl,by rw[HA.o];simp,by omega,by omega,rfl⟩
theorem Es (A:Option Addr)(n c B:Nat)(fs:List Nat)(x:Nat)(w:World)(hn:n<=9223372036854775807)(hr:eQ w B 1 A n (qh fs)):
 Calls Tryz.prog 236 #[.slice A n c,.int .i64 x] w fun e w'=>e= .returned (.bool (fs.contains x))/\w=w':=by
 have HR:=aa hr;clear hr;go_enter Tryz.func236,Tryz.ntmps236;go_wp2_with fail;refine (ML A n c B fs x w hn HR.o).mono ?_;rintro e w' ⟨j,rfl,hj,Ov,Br,rfl⟩;have HJ:=aa hj;clear hj;go_wp2_with fail;go_ret;exact⟨by rw[<-HJ.o];rfl,rfl⟩
def Hd.len (x:Hd):Nat:=if x.fmt=2 then 4*x.size-x.spare else x.size
def Hd.apb (x:Hd):Bool:=decide (x.fmt=1) || decide (x.fmt=4)
theorem vS (x:Hd)(f:x.Fit)(w:World):
 Calls Tryz.prog 206 #[x.val] w fun e w'=>e= .returned (.bool x.apb)/\Below w.heap.size w w':=by
 obtain⟨n,t,s,c,r⟩:=x;obtain⟨f1,f2,f3,f4,f5⟩:=f;simp only at f1 f2 f3 f4 f5;unfold Hd.val;by_cases h1:t=1
 .subst h1;go_enter Tryz.func206,Tryz.ntmps206;go_wp2_with fail;go_ret;exact⟨rfl,(Below.refl _ _).alloc (ah _) _⟩
 .have hb:((t:Int) == 1)=false:=by simp;omega
  have HF:=aa (show Hd.apb ⟨n,t,s,c,r⟩=((t:Int) == 4) by
   unfold Hd.apb;simp only[h1,decide_false,Bool.false_or];by_cases h4:t=4
   .subst h4;rfl
   .rw[show ((t:Int) == 4)=false by simp;omega];simp[h4])
  clear h1;go_enter Tryz.func206,Tryz.ntmps206;go_wp2_with fail;go_ret;exact⟨by rw[HF.o];rfl,(Below.refl _ _).alloc (ah _) _⟩
theorem Jy (x:Hd)(f:x.Fit)(hs:x.fmt=2->x.spare<=4*x.size)(w:World):
 Calls Tryz.prog 237 #[x.val] w fun e w'=>e= .returned (.int .i64 x.len)/\Below w.heap.size w w':=by
 obtain⟨n,t,s,c,r⟩:=x;obtain⟨f1,f2,f3,f4,f5⟩:=f;simp only at f1 f2 f3 f4 f5 hs;unfold Hd.val;by_cases h1:t=2
 .subst h1;have h2:=hs rfl;have HF:=aa (show ((Hd.len ⟨n,2,s,c,r⟩ :Nat):Int)=4*(n:Int)-s by simp[Hd.len];omega);clear hs;go_enter Tryz.func237,Tryz.ntmps237;go_wp2_with fail;go_ret;exact⟨by rw[HF.o];rfl,(Below.refl _ _).alloc (ah _) _⟩
 .have hb:((t:Int) == 2)=false:=by simp;omega
  have HF:=aa (show Hd.len ⟨n,t,s,c,r⟩=n by simp[Hd.len,h1]);clear h1 hs;go_enter Tryz.func237,Tryz.ntmps237;go_wp2_with fail;go_ret;exact⟨by rw[HF.o];rfl,(Below.refl _ _).alloc (ah _) _⟩
def Hd.sane (x:Hd):Prop:=x.fmt=2->x.spare<=4*x.size
theorem Na {a b c:Nat}(h:lL a b c=true):(gg a b c).sane:=by
 intro hf;unfold lL Hd.may at h;simp only[af,Bool.or_eq_true,decide_eq_true_eq]at h;have hs:(gg a b c).spare<4:=Nat.mod_lt _ (by omega);omega
theorem HM.apS.sane {h:HM}{i:Nat}(hi:h.apS i):(h.hd i).sane:=Na hi.2
def HM.ape (h:HM)(o:Nat)(i:Int)(fs:List Nat):Nat:=
 if h.isB o=false then 3 else if fs.contains (h.hd (o/2)).fmt=false then 21 else if i<0\/((h.hd (o/2)).len:Int)<=i then 1 else 0
def HM.aqd (h:HM)(o:Nat)(i:Int)(fs:List Nat):Value:=.tuple #[.int .i64 ((if h.ape o i fs=0 then o/2+3 else 0:Nat):Int),.int .i64 (h.ape o i fs)]
theorem zK {w:World}{p:HP}{h:HM}(H:fO w p h)(f:h.Fit)(hh:h.apu)(hs:eX w)(o:Nat)(ho:o<4294967296)(i:Int)(A:Option Addr)(n c:Nat)(fs:List Nat)
 (hn:n<=9223372036854775807)(hr:eQ w w.heap.size 1 A n (qh fs)):
 Calls Tryz.prog 180 #[ptr p.g,.int .u32 o,.int .i64 i,.slice A n c] w fun e w'=>e= .returned (h.aqd o i fs)/\Below w.heap.size w w':=by
 have HC:=aa (jm H f hh hs o ho);have HR:=aa hr;clear hr;cases hi:h.isB o
 .have HH:=aa (show h.api o= .tuple #[.agg #[.int .i64 0,.int .i64 0,.int .i64 0,.int .u32 0,.int .u32 0],.int .i64 3] by simp[HM.api,hi]);have HF:=aa (show h.aqd o i fs= .tuple #[.int .i64 0,.int .i64 3] by simp[HM.aqd,HM.ape,hi]);rw[HH.o]at HC;clear HH hi;unfold ptr at HC ⊢;go_enter Tryz.func180,Tryz.ntmps180;go_wp2_with fail;refine HC.o.mono ?_;rintro e w1 ⟨rfl,hb1⟩;go_wp2_with fail;go_ret2;exact⟨by rw[HF.o];rfl,hb1.alloc hb1.size _⟩
 .have hk:kH o=true:=by unfold HM.isB at hi;simp only[af]at hi;exact hi.1
  have hd:h.apS (o/2):=hh _ (by unfold HM.isB at hi;simp only[af]at hi;exact hi.2);have hx:=HM.apR f (o/2);have VQ:=hd.sane;have HH:=aa (show h.api o= .tuple #[(h.hd (o/2)).val,.int .i64 0] by simp[HM.api,hi]);have HA:=aa (fun w=>tR p.g o ho hk w);have HE:=aa (show h.ape o i fs=if fs.contains (h.hd (o/2)).fmt=false then 21 else if i<0\/((h.hd (o/2)).len:Int)<=i then 1 else 0 by simp[HM.ape,hi]);have HV:=aa (show h.aqd o i fs= .tuple #[.int .i64 ((if h.ape o i fs=0 then o/2+3 else 0:Nat):Int),.int .i64 (h.ape o i fs)] from rfl);rw[HE.o]at HV;rw[HH.o]at HC;clear hd hk hi HH HE;have hq:o/2<2147483648:=by omega
  generalize o/2=q at*;have HLC:=aa (fun w=>Jy (h.hd q) hx VQ w);have hlen:(h.hd q).len<4294967296:=by
   have:=hx.size;unfold Hd.len;split <;> omega
  have HX:=aa (show (h.hd q).val= .agg #[.int .i64 (h.hd q).size,.int .i64 (h.hd q).fmt,.int .i64 (h.hd q).spare,.int .u32 (h.hd q).cls,.int .u32 (h.hd q).ser] from rfl);rw[HX.o]at HC HLC;clear VQ HX;generalize h.hd q=x at*;obtain⟨f1,f2,f3,f4,f5⟩:=hx;unfold ptr at HC HA ⊢;go_enter Tryz.func180,Tryz.ntmps180;go_wp2_with fail;refine HC.o.mono ?_;rintro e w1 ⟨rfl,hb1⟩;have hb2:=hb1.alloc hb1.size (.cells #[.int .i64 x.size,.int .i64 x.fmt,.int .i64 x.spare,.int .u32 x.cls,.int .u32 x.ser] 75);have uz:=aa (HR.o.below hb2);go_wp2_with fail;refine (Es A n c _ fs x.fmt _ hn uz.o).mono ?_;rintro e w2 ⟨rfl,rfl⟩;cases hc:fs.contains x.fmt
  .rw[hc]at HV;simp only[if_true]at HV;go_wp2_with fail;go_ret2;exact⟨by rw[HV.o];rfl,hb2⟩
  .rw[hc]at HV;simp only[Bool.true_eq_false,if_false]at HV;clear hc;by_cases Qr:i<0
   .rw[if_pos (Or.inl Qr)]at HV;have hd:decide (i<0)=true:=(by simpa using Qr);go_wp2_with fail;go_ret2;exact⟨by rw[HV.o];rfl,hb2⟩
   .have hd:decide (i<0)=false:=(by simpa using Qr);by_cases mS:(x.len:Int)<=i
    .rw[if_pos (Or.inr mS)]at HV;have qY:decide ((x.len:Int)<=i)=true:=(by simpa using mS);go_wp2_with fail;refine (HLC.o _).mono ?_;rintro e w2 ⟨rfl,hb3⟩;go_wp2_with fail;go_ret2;exact⟨by rw[HV.o];rfl,eF hb2 hb3⟩
    .rw[if_neg (show ¬(i<0\/(x.len:Int)<=i) by omega)]at HV;have qY:decide ((x.len:Int)<=i)=false:=(by simpa using mS);go_wp2_with fail;refine (HLC.o _).mono ?_;rintro e w2 ⟨rfl,hb3⟩;go_wp2_with fail;refine (HA.o _).mono ?_;rintro e w3 ⟨rfl,rfl⟩;go_wp2_with fail;go_ret2;exact⟨by rw[HV.o];simp,eF hb2 hb3⟩
end
section
open Go.RowKit
def fw (h:HM)(o k:Nat):Nat:=h.w (o/2+3+k)
def HM.ap2 (h:HM)(o:Nat)(i:Int)(fs:List Nat):Value:=
 .tuple #[.int .u32 ((if h.ape o i fs=0 then fw h o i.toNat else 0:Nat):Int),.int .i64 (h.ape o i fs)]
theorem HM.look_ok {h:HM}{o:Nat}{i:Int}{fs:List Nat}(he:h.ape o i fs=0):
 h.isB o=true/\fs.contains (h.hd (o/2)).fmt=true/\0<=i/\i<(h.hd (o/2)).len:=by
 unfold HM.ape at he;split at he
 .omega
 .rename_i h1;split at he
  .omega
  .rename_i h2;split at he
   .omega
   .rename_i h3;exact⟨by simpa using h1,by simpa using h2,by omega,by omega⟩
theorem HM.aps {h:HM}(hh:h.apu){o:Nat}(hi:h.isB o=true):h.apS (o/2):=
 hh _ (by unfold HM.isB at hi;simp only[af]at hi;exact hi.2)
theorem HM.isB_obj {h:HM}{o:Nat}(hi:h.isB o=true):kH o=true:=by
 unfold HM.isB at hi;simp only[af]at hi;exact hi.1
theorem HM.aqq (h:HM)(o:Nat)(i:Int)(fs:List Nat):h.ape o i fs<=21:=by
 unfold HM.ape;split <;> (try split) <;> (try split) <;> omega
section
variable {w:World}{p:HP}{h:HM}(H:fO w p h)(f:h.Fit)(hh:h.apu)(hs:eX w)(o:Nat)(ho:o<4294967296)(i:Int)
include H f hh hs ho
theorem yA:Calls Tryz.prog 175 #[ptr p.g,.int .u32 o,.int .i64 i] w fun e w'=>e= .returned (h.ap2 o i [1,4])/\Below w.heap.size w w':=by
 have hb0:∀ o,Below w.heap.size w (w.alloc o):=fun o=>(Below.refl _ _).alloc (ah _) _
 have HC:=aa (zK (H.below (hb0 (.cells #[.int .i64 1,.int .i64 4] 73))) f hh (hs.below (hb0 _)) o ho i (some ⟨w.heap.size,0,none⟩) 2 2 [1,4] (by omega)
  ⟨rfl,fun _=>⟨_,rfl,by simp,fun j u hj=>by
    rw[aj,aq,(eW.new w _ _).cell];simpa[qh] using hj⟩⟩)
 have HV:=aa (show h.ap2 o i [1,4]= .tuple #[.int .u32 ((if h.ape o i [1,4]=0 then fw h o i.toNat else 0:Nat):Int),.int .i64 (h.ape o i [1,4])] from rfl);have HL:=aa (show h.aqd o i [1,4]= .tuple #[.int .i64 ((if h.ape o i [1,4]=0 then o/2+3 else 0:Nat):Int),.int .i64 (h.ape o i [1,4])] from rfl);rw[HL.o]at HC;clear HL;have hle:=h.aqq o i [1,4];unfold ptr at HC ⊢;by_cases he:h.ape o i [1,4]=0
 .obtain⟨hi,hc,h0,hlt⟩:=HM.look_ok he;have hd:=(HM.aps hh hi).1;have hsz:(h.hd (o/2)).len=(h.hd (o/2)).size:=by
   unfold Hd.len;rw[if_neg (fun e=>by rw[e]at hc;simp at hc)]
  rw[hsz]at hlt;obtain⟨k,rfl⟩:=ai h0;have hk:o/2+3+k<h.words.length:=by omega
  have hcell:∀ w',Below w.heap.size w w'->w'.cell? ⟨p.gw,o/2+3+k,none⟩=some (.int .u32 (fw h o k:Nat)):=fun w' hb=>(H.below hb).word hk;have hc0:∀ w',Below w.heap.size w w'->w'.cell? ⟨p.g,0,none⟩=some (.slice (some ⟨p.gw,0,none⟩) h.words.length p.cw):=fun w' hb=>(H.below hb).c0;have ZB:=aa hcell;have yO:=aa hc0;have hmx:=f.room;have My:=f.hi;rw[he]at HC HV;simp only[if_true,au]at HC HV;clear he hi hc hd hsz hlt hcell hc0 hle;have hq:o/2<2147483648:=by omega
  generalize fw h o k=v at*;generalize o/2=q at*;generalize h.words.length=len at*;go_enter Tryz.func175,Tryz.ntmps175;go_wp2_with fail;refine HC.o.mono ?_;rintro e w1 ⟨rfl,hb1⟩;have hb:=eF (hb0 _) hb1;have c0:=yO.o _ hb;have cv:=ZB.o _ hb;go_wp2_with fail;go_ret2;exact⟨by rw[HV.o];rfl,hb⟩
 .have hne:((h.ape o i [1,4]:Int) != 0)=true:=by simp;omega
  simp only[if_neg he]at HC HV;generalize h.ape o i [1,4]=E at*;clear he;go_enter Tryz.func175,Tryz.ntmps175;go_wp2_with fail;refine HC.o.mono ?_;rintro e w1 ⟨rfl,hb1⟩;go_wp2_with fail;go_ret2;exact⟨by rw[HV.o];rfl,eF (hb0 _) hb1⟩
theorem Ia:Calls Tryz.prog 136 #[ptr p.g,.int .u32 o,.int .i64 i] w fun e w'=>e= .returned (h.ap2 o i [3])/\Below w.heap.size w w':=by
 have hb0:∀ o,Below w.heap.size w (w.alloc o):=fun o=>(Below.refl _ _).alloc (ah _) _
 have HC:=aa (zK (H.below (hb0 (.cells #[.int .i64 3] 73))) f hh (hs.below (hb0 _)) o ho i (some ⟨w.heap.size,0,none⟩) 1 1 [3] (by omega)
  ⟨rfl,fun _=>⟨_,rfl,by simp,fun j u hj=>by
    rw[aj,aq,(eW.new w _ _).cell];simpa[qh] using hj⟩⟩)
 have HV:=aa (show h.ap2 o i [3]= .tuple #[.int .u32 ((if h.ape o i [3]=0 then fw h o i.toNat else 0:Nat):Int),.int .i64 (h.ape o i [3])] from rfl);have HL:=aa (show h.aqd o i [3]= .tuple #[.int .i64 ((if h.ape o i [3]=0 then o/2+3 else 0:Nat):Int),.int .i64 (h.ape o i [3])] from rfl);rw[HL.o]at HC;clear HL;have hle:=h.aqq o i [3];unfold ptr at HC ⊢;by_cases he:h.ape o i [3]=0
 .obtain⟨hi,hc,h0,hlt⟩:=HM.look_ok he;have hd:=(HM.aps hh hi).1;have hsz:(h.hd (o/2)).len=(h.hd (o/2)).size:=by
   unfold Hd.len;rw[if_neg (fun e=>by rw[e]at hc;simp at hc)]
  rw[hsz]at hlt;obtain⟨k,rfl⟩:=ai h0;have hk:o/2+3+k<h.words.length:=by omega
  have hcell:∀ w',Below w.heap.size w w'->w'.cell? ⟨p.gw,o/2+3+k,none⟩=some (.int .u32 (fw h o k:Nat)):=fun w' hb=>(H.below hb).word hk;have hc0:∀ w',Below w.heap.size w w'->w'.cell? ⟨p.g,0,none⟩=some (.slice (some ⟨p.gw,0,none⟩) h.words.length p.cw):=fun w' hb=>(H.below hb).c0;have ZB:=aa hcell;have yO:=aa hc0;have hmx:=f.room;have My:=f.hi;rw[he]at HC HV;simp only[if_true,au]at HC HV;clear he hi hc hd hsz hlt hcell hc0 hle;have hq:o/2<2147483648:=by omega
  generalize fw h o k=v at*;generalize o/2=q at*;generalize h.words.length=len at*;go_enter Tryz.func136,Tryz.ntmps136;go_wp2_with fail;refine HC.o.mono ?_;rintro e w1 ⟨rfl,hb1⟩;have hb:=eF (hb0 _) hb1;have c0:=yO.o _ hb;have cv:=ZB.o _ hb;go_wp2_with fail;go_ret2;exact⟨by rw[HV.o];rfl,hb⟩
 .have hne:((h.ape o i [3]:Int) != 0)=true:=by simp;omega
  simp only[if_neg he]at HC HV;generalize h.ape o i [3]=E at*;clear he;go_enter Tryz.func136,Tryz.ntmps136;go_wp2_with fail;refine HC.o.mono ?_;rintro e w1 ⟨rfl,hb1⟩;go_wp2_with fail;go_ret2;exact⟨by rw[HV.o];rfl,eF (hb0 _) hb1⟩
end
def HM.apT (h:HM)(o:Nat)(i:Int)(v:Nat):Nat:=if h.ape o i [1,4]=0 then (if h.apc v then 0 else 3) else h.ape o i [1,4]
def HM.aqe (h:HM)(o k v:Nat):HM:={ h with words:=h.words.set (o/2+3+k) v }
def HM.apQ (h:HM)(o:Nat)(i:Int)(v:Nat):HM:=if h.apT o i v=0 then h.aqe o i.toNat v else h
def U4 (p:HP)(h':HM)(E:Nat)(w:World)(e:Ending)(w':World):Prop:=e= .returned (.int .i64 E)/\fO w' p h'/\Step p p w w'
section
variable {w:World}{p:HP}{h:HM}(H:fO w p h)(f:h.Fit)(hh:h.apu)(hs:eX w)(o:Nat)(ho:o<4294967296)(i:Int)
include H f hh hs ho
theorem UO (v:Nat)(hv:v<4294967296):Calls Tryz.prog 105 #[ptr p.g,.int .u32 o,.int .i64 i,.int .u32 v] w (U4 p (h.apQ o i v) (h.apT o i v) w):=by
 have hb0:∀ o,Below w.heap.size w (w.alloc o):=fun o=>(Below.refl _ _).alloc (ah _) _
 have HC:=aa (zK (H.below (hb0 (.cells #[.int .i64 1,.int .i64 4] 73))) f hh (hs.below (hb0 _)) o ho i (some ⟨w.heap.size,0,none⟩) 2 2 [1,4] (by omega)
  ⟨rfl,fun _=>⟨_,rfl,by simp,fun j u hj=>by
    rw[aj,aq,(eW.new w _ _).cell];simpa[qh] using hj⟩⟩)
 have HL:=aa (show h.aqd o i [1,4]= .tuple #[.int .i64 ((if h.ape o i [1,4]=0 then o/2+3 else 0:Nat):Int),.int .i64 (h.ape o i [1,4])] from rfl);rw[HL.o]at HC;clear HL;have hle:=h.aqq o i [1,4];have tP:=aa (fun w' (hb:Below w.heap.size w w')=>xn (H.below hb) f v hv);by_cases he:h.ape o i [1,4]=0
 .obtain⟨hi,hc,h0,hlt⟩:=HM.look_ok he;have hd:=(HM.aps hh hi).1;have hsz:(h.hd (o/2)).len=(h.hd (o/2)).size:=by
   unfold Hd.len;rw[if_neg (fun e=>by rw[e]at hc;simp at hc)]
  rw[hsz]at hlt;obtain⟨k,rfl⟩:=ai h0;have hk:o/2+3+k<h.words.length:=by omega
  have hmx:=f.room;have My:=f.hi;have hE:h.apT o k v=if h.apc v then 0 else 3:=by simp[HM.apT,he]
  cases hval:h.apc v
  .have Oi:=aa (show h.apT o k v=3/\h.apQ o k v=h by simp[HM.apQ,hE,hval]);rw[hval]at tP;rw[he]at HC;simp only[if_true]at HC;clear he hi hc hd hsz hlt hle hE hval;have hq:o/2<2147483648:=(by omega);generalize o/2=q at*;unfold ptr at HC tP ⊢;go_enter Tryz.func105,Tryz.ntmps105;go_wp2_with fail;refine HC.o.mono ?_;rintro e w1 ⟨rfl,hb1⟩;have hb:=eF (hb0 _) hb1;go_wp2_with fail;refine (tP.o _ hb).mono ?_;rintro e w2 ⟨rfl,rfl⟩;go_wp2_with fail;go_ret;exact⟨by rw[Oi.o.1];rfl,by rw[Oi.o.2];exact H.below hb,.apa hb⟩
  .have Oi:=aa (show h.apT o k v=0/\h.apQ o k v=h.aqe o k v by simp[HM.apQ,hE,hval]);rw[hval]at tP;rw[he]at HC;simp only[if_true]at HC;clear he hi hc hd hsz hlt hle hE hval;have hc0:∀ w',Below w.heap.size w w'->w'.cell? ⟨p.g,0,none⟩=some (.slice (some ⟨p.gw,0,none⟩) h.words.length p.cw):=fun w' hb=>(H.below hb).c0;have hcell:∀ w',Below w.heap.size w w'->w'.cell? ⟨p.gw,o/2+3+k,none⟩=some (.int .u32 (fw h o k:Nat)):=fun w' hb=>(H.below hb).word hk;have tE:∀ w',Below w.heap.size w w'->w'.frozen? ⟨p.gw,o/2+3+k,none⟩=false:=fun w' hb=>(H.below hb).2.1.frozen _;have ZB:=aa hcell;have yO:=aa hc0;have Ta:=aa tE;have HS:=aa (show ∀ w',Below w.heap.size w w'->fO (w'.setCell ⟨p.gw,o/2+3+k,none⟩ (.int .u32 v)) p (h.aqe o k v) from fun w' hb=>(H.below hb).setWord _ _);clear hc0 hcell tE;have hq:o/2<2147483648:=(by omega);generalize h.aqe o k v=h2 at*;generalize o/2=q at*;generalize h.words.length=len at*;unfold ptr at HC tP ⊢;go_enter Tryz.func105,Tryz.ntmps105;go_wp2_with fail;refine HC.o.mono ?_;rintro e w1 ⟨rfl,hb1⟩;have hb:=eF (hb0 _) hb1;go_wp2_with fail;refine (tP.o _ hb).mono ?_;rintro e w2 ⟨rfl,rfl⟩;have c0:=yO.o _ hb;have cv:=ZB.o _ hb;have cf:=Ta.o _ hb;go_wp2_with fail;go_ret;exact⟨by rw[Oi.o.1];rfl,by rw[Oi.o.2];exact HS.o _ hb,(Step.apa hb).setCell (.inl (.inr (.inl rfl))) _⟩
 .have hne:((h.ape o i [1,4]:Int) != 0)=true:=by simp;omega
  simp only[if_neg he]at HC;have Oi:=aa (show h.apT o i v=h.ape o i [1,4]/\h.apQ o i v=h by simp[HM.apQ,HM.apT,he]);generalize h.ape o i [1,4]=E at*;clear he;unfold ptr at HC tP ⊢;go_enter Tryz.func105,Tryz.ntmps105;go_wp2_with fail;refine HC.o.mono ?_;rintro e w1 ⟨rfl,hb1⟩;have hb:=eF (hb0 _) hb1;go_wp2_with fail;go_ret;exact⟨by rw[Oi.o.1];rfl,by rw[Oi.o.2];exact H.below hb,.apa hb⟩
end
end
section
open Go.RowKit
theorem yG (i:Nat)(h1:1<=i)(h2:i<=2147483647)(w:World):Calls Tryz.prog 169 #[.int .i64 i] w fun e w'=>e= .returned (.tuple #[.int .u32 (2*i:Nat),.int .i64 0])/\w=w':=by
 have h3:((2*i:Nat):Int)=2*(i:Int):=by omega
 rw[h3];have h1':(1:Int)<=(i:Int):=by omega
 have h2':(i:Int)<=2147483647:=by omega
 clear h3;go_enter Tryz.func169,Tryz.ntmps169;go_wp2_with fail;go_ret2;exact⟨by simp,rfl⟩
section
variable {w:World}{p:HP}{h:HM}
theorem Hq (H:fO w p h)(f:h.Fit):Calls Tryz.prog 59 #[ptr p.g] w fun e w'=>e= .returned (.int .i64 h.size)/\w=w':=by
 have hm:=aa (kg H (by have:=f.lo;omega) f.hi);have c3:=H.c3;unfold ptr at hm ⊢;go_enter Tryz.func59,Tryz.ntmps59;go_wp2_with fail;refine hm.o.mono ?_;rintro e w' ⟨rfl,rfl⟩;go_wp2_with fail;go_ret;exact⟨by simp,rfl⟩
theorem Gx (H:fO w p h)(f:h.Fit):Calls Tryz.prog 62 #[ptr p.g] w fun e w'=>e= .returned (.int .u32 h.last)/\w=w':=by
 have hm:=aa (kg H (by have:=f.lo;omega) f.hi);have c3:=H.c4;unfold ptr at hm ⊢;go_enter Tryz.func62,Tryz.ntmps62;go_wp2_with fail;refine hm.o.mono ?_;rintro e w' ⟨rfl,rfl⟩;go_wp2_with fail;go_ret;exact⟨by simp,rfl⟩
def HM.apD (h:HM)(i:Nat):Nat:=if h.words.length<=i then 0 else 2*i
theorem zT (H:fO w p h)(f:h.Fit)(i:Nat)(h1:1<=i)(h2:i<=2147483647):Calls Tryz.prog 162 #[ptr p.g,.int .i64 i] w fun e w'=>e= .returned (.int .u32 (h.apD i))/\w=w':=by
 have c0:=H.c0;have hmx:=f.room;have My:=f.hi;have HO:=aa (yG i h1 h2 w);unfold ptr;by_cases mS:h.words.length<=i
 .have HF:=aa (show h.apD i=0 by simp[HM.apD,mS]);have hd:decide ((h.words.length:Int)<=(i:Int))=true:=by simp;omega
  generalize h.words.length=len at*;go_enter Tryz.func162,Tryz.ntmps162;go_wp2_with fail;go_ret;exact⟨by rw[HF.o];rfl,rfl⟩
 .have HF:=aa (show h.apD i=2*i by simp[HM.apD,mS]);have hd:decide ((h.words.length:Int)<=(i:Int))=false:=by simp;omega
  generalize h.words.length=len at*;go_enter Tryz.func162,Tryz.ntmps162;go_wp2_with fail;refine HO.o.mono ?_;rintro e w' ⟨rfl,rfl⟩;go_wp2_with fail;go_ret;exact⟨by rw[HF.o];rfl,rfl⟩
theorem wP (H:fO w p h)(f:h.Fit):Calls Tryz.prog 78 #[ptr p.g] w fun e w'=>e= .returned (.int .u32 (h.apD 1))/\w=w':=by
 have hm:=aa (kg H (by have:=f.lo;omega) f.hi);have HO:=aa (zT H f 1 (by omega) (by omega));unfold ptr at hm HO ⊢;go_enter Tryz.func78,Tryz.ntmps78;go_wp2_with fail;refine hm.o.mono ?_;rintro e w' ⟨rfl,rfl⟩;go_wp2_with fail;refine HO.o.mono ?_;rintro e w' ⟨rfl,rfl⟩;go_wp2_with fail;go_ret;exact⟨by simp,rfl⟩
def HM.ap3 (h:HM)(o:Nat):Nat:=h.apD (o/2+3+(h.hd (o/2)).size)
def HM.apW (h:HM)(o:Nat):Value:=if h.isB o then .tuple #[.int .u32 (h.ap3 o),.int .i64 0] else .tuple #[.int .u32 0,.int .i64 3]
theorem zR (H:fO w p h)(f:h.Fit)(hh:h.apu)(hs:eX w)(o:Nat)(ho:o<4294967296):
 Calls Tryz.prog 130 #[ptr p.g,.int .u32 o] w fun e w'=>e= .returned (h.apW o)/\Below w.heap.size w w':=by
 have HI:=aa (wT H f o ho);cases hi:h.isB o
 .have HF:=aa (show h.apW o= .tuple #[.int .u32 0,.int .i64 3] by simp[HM.apW,hi]);rw[hi]at HI;clear hi;unfold ptr at HI ⊢;go_enter Tryz.func130,Tryz.ntmps130;go_wp2_with fail;refine HI.o.mono ?_;rintro e w' ⟨rfl,rfl⟩;go_wp2_with fail;go_ret2;exact⟨by rw[HF.o];rfl,Below.refl _ _⟩
 .have hd:=HM.aps hh hi;have HA:=aa (tR p.g o ho (HM.isB_obj hi) w);have HH:=aa (nK H f hs (o/2) hd);have HX:=aa (show (h.hd (o/2)).val= .agg #[.int .i64 (h.hd (o/2)).size,.int .i64 (h.hd (o/2)).fmt,.int .i64 (h.hd (o/2)).spare,.int .u32 (h.hd (o/2)).cls,.int .u32 (h.hd (o/2)).ser] from rfl);have HF:=aa (show h.apW o= .tuple #[.int .u32 (h.apD (o/2+3+(h.hd (o/2)).size)),.int .i64 0] by simp[HM.apW,hi,HM.ap3]);have hsz:=(HM.apR f (o/2)).size;have hmx:=f.room;have My:=f.hi;have Iq:=hd.1;have HO:=aa (fun w' (hb:Below w.heap.size w w')=>zT (H.below hb) f (o/2+3+(h.hd (o/2)).size) (by omega) (by omega));rw[hi]at HI;clear hi hd Iq hmx My;have hq:o/2<2147483648:=by omega
  generalize o/2=q at*;rw[HX.o]at HH;clear HX;generalize h.hd q=x at*;generalize x.size=n at*;have Tn:=aa (fun w' (hb:Below w.heap.size w w')=>by
   have:=HO.o w' hb;rw[show ((q+3+n:Nat):Int)=(q:Int)+3+(n:Int) from by omega]at this;exact this)
  clear HO;have amu:∀ (a b c d e:Value) (w:World),(Instr.field 75 (.agg #[a,b,c,d,e]) 0).run Tryz.prog w= .ok a w:=fun a b c d e w=>by kernel_rfl
  unfold ptr at HI HA HH Tn ⊢;go_enter Tryz.func130,Tryz.ntmps130;go_wp2_with fail;refine HI.o.mono ?_;rintro e w' ⟨rfl,rfl⟩;go_wp2_with fail;refine HA.o.mono ?_;rintro e w' ⟨rfl,rfl⟩;go_wp2_with fail;refine HH.o.mono ?_;rintro e w1 ⟨rfl,hb1⟩;go_wp2_with fail;refine (Tn.o _ hb1).mono ?_;rintro e w2 ⟨rfl,rfl⟩;go_wp2_with fail;go_ret2;exact⟨by rw[HF.o];rfl,hb1⟩
end
end
section
open Go.RowKit
section
variable {w:World}{p:HP}{h:HM}(H:fO w p h)(f:h.Fit)(hh:h.apu)(hs:eX w)(o:Nat)(ho:o<4294967296)(i:Int)
include H f hh hs ho
end
end
section
open Go.RowKit
section
variable {w:World}{p:HP}{h:HM}(H:fO w p h)(f:h.Fit)(hh:h.apu)(hs:eX w)(o:Nat)(ho:o<4294967296)
include H f hh hs ho
end
end
section
open Go.RowKit
def Fx (gb:Nat):Value:=.func (.func 222) #[] #[.pointer (some ⟨gb,0,none⟩)]
theorem TL {w:World}{p:HP}{h:HM}(H:fO w p h)(f:h.Fit)(gb:Nat)(hb:w.cell? ⟨gb,0,none⟩=some (.pointer (some ⟨p.g,0,none⟩)))(o:Nat)(ho:o<4294967296):
 Calls Tryz.prog 222 #[.int .u32 o,.pointer (some ⟨gb,0,none⟩)] w fun e w'=>e= .returned (.bool (!h.apc o))/\w=w':=by
 have HV:=aa (xn H f o ho);clear H f;unfold ptr at HV;generalize h.apc o=b at*;go_enter Tryz.func222,Tryz.ntmps222;go_wp2_with fail;refine HV.o.mono ?_;rintro e w' ⟨rfl,rfl⟩;go_wp2_with fail;go_ret;exact⟨rfl,rfl⟩
def Vk (h:HM)(xs:List Nat)(w:World)(e:Ending)(w':World):Prop:=∃ j:Int,e= .returned (.int .i64 j)/\(decide (0<=j)=xs.any fun o=> !h.apc o)/\ -1<=j/\j<=9223372036854775807/\w=w'
theorem Fw {q:Nat->Bool}{xs:List Nat}{k:Nat}(hk:k<xs.length)(h1:(xs.take k).any q=false)(h2:q (xs.getD k 0)=false):(xs.take (k+1)).any q=false:=by
 rw[ar,ae hk,List.any_append,h1];rw[ag,ae hk]at h2;simpa using h2
theorem Ps {q:Nat->Bool}{xs:List Nat}{k:Nat}(hk:k<xs.length)(h2:q (xs.getD k 0)=true):xs.any q=true:=by
 rw[List.any_eq_true];rw[ag,ae hk]at h2;exact⟨xs[k],aw hk,h2⟩
theorem Cf {w:World}{p:HP}{h:HM}(H:fO w p h)(f:h.Fit)(gb:Nat)(hb:w.cell? ⟨gb,0,none⟩=some (.pointer (some ⟨p.g,0,none⟩)))(A:Option Addr)(n c B:Nat)(xs:List Nat)(hn:n<=9223372036854775807)
 (hr:eQ w B 1 A n (eN xs))(h32:∀ x∈xs,x<4294967296):
 Calls Tryz.prog 265 #[.slice A n c,Fx gb] w (Vk h xs w):=by
 have hl:xs.length=n:=by have:=hr.1;rw[eY]at this;omega
 have HL:=aa hl;have HR:=aa hr;have HX:=aa h32;have HH:=aa H;have HF:=aa f;have HB:=aa hb;clear hl hr h32 H f hb;unfold Fx;go_enter Tryz.func265,Tryz.ntmps265;go_wp2_with fail
 go_loop [8] (fun i=>∃ k:Nat,k<=n/\i= .int .i64 k/\(xs.take k).any (fun o=> !h.apc o)=false) (fun i=>n-(intOf i).toNat)
 case atStart=>exact⟨0,by omega,rfl,by simp⟩
 case round=>
  obtain⟨k,hk,rfl,hno⟩:=hrel;have qX:=aa hno;clear hno;by_cases hlt:k<n
  .obtain⟨ad,u0,rfl,_,hx,hcell⟩:=HR.o.at_ hlt;rw[ft (by rw[HL.o];exact hlt)]at hx;injection hx with hx;subst hx;have ho:xs.getD k 0<4294967296:=by
    rw[ag,ae (by rw[HL.o];exact hlt)];exact HX.o _ (aw _)
   have HC:=aa (TL HH.o HF.o gb HB.o (xs.getD k 0) ho);cases hv:h.apc (xs.getD k 0)
   .have HA:=aa (Ps (q:=fun o=> !h.apc o) (by rw[HL.o];exact hlt) (by simp only[hv];rfl));rw[hv]at HC;clear hv;generalize xs.getD k 0=y at*;go_wp2_with fail;refine HC.o.mono ?_;rintro e w' ⟨rfl,rfl⟩;go_wp2_with fail;go_ret;exact⟨k,rfl,by rw[HA.o];simp,by omega,by omega,rfl⟩
   .have HA:=aa (Fw (q:=fun o=> !h.apc o) (by rw[HL.o];exact hlt) qX.o (by simp only[hv];rfl));rw[hv]at HC;clear hv;generalize xs.getD k 0=y at*;go_wp2_with fail;refine HC.o.mono ?_;rintro e w' ⟨rfl,rfl⟩;go_wp2_with fail
    go_round
    case rel=>exact⟨k+1,by omega,by go_num,HA.o⟩
    case measure=>simp[intOf];omega
  .obtain rfl:k=n:=(by omega);have hall:=qX.o;rw[ak (by rw[HL.o];omega)]at hall;have HA:=aa hall;clear hall;go_wp2_with fail;go_ret;exact⟨-1,rfl,by rw[HA.o];simp,by omega,by omega,rfl⟩
theorem wO {w:World}{p:HP}{h:HM}(H:fO w p h)(f:h.Fit)(gb:Nat)(hb:w.cell? ⟨gb,0,none⟩=some (.pointer (some ⟨p.g,0,none⟩)))(A:Option Addr)(n c B:Nat)(xs:List Nat)(hn:n<=9223372036854775807)
 (hr:eQ w B 1 A n (eN xs))(h32:∀ x∈xs,x<4294967296):
 Calls Tryz.prog 221 #[.slice A n c,Fx gb] w fun e w'=>e= .returned (.bool (xs.any fun o=> !h.apc o))/\w=w':=by
 have HC:=aa (Cf H f gb hb A n c B xs hn hr h32);clear H f hb hr h32;unfold Fx at HC ⊢;go_enter Tryz.func221,Tryz.ntmps221;go_wp2_with fail;refine HC.o.mono ?_;rintro e w' ⟨j,rfl,hj,Ov,Br,rfl⟩;have HJ:=aa hj;clear hj;go_wp2_with fail;go_ret;exact⟨by rw[<-HJ.o];rfl,rfl⟩
end
end Go.Proofs.YtlkahgagmfhdaaaGreatDoor
