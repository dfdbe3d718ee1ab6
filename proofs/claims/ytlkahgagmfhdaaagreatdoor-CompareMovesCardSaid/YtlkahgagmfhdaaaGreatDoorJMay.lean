import Derived.Test.YtlkahgagmfhdaaaGreatDoorJOop
import Derived.Lib.LaidTab
import Derived.Deep.RegionHeld3
set_option linter.unusedVariables false
set_option linter.unusedSectionVars false
open Nat renaming le_refl→ae,mod_lt→ag
open Go.World renaming size_alloc→af,block_lt_of_cell?→ai
open Bool renaming and_eq_true→ah
set_option maxHeartbeats 2000000
namespace Go.Proofs.YtlkahgagmfhdaaaGreatDoor
section
open Go.RowKit
structure Hd where
 size:Nat
 fmt:Nat
 spare:Nat
 cls:Nat
 ser:Nat
def Hd.cells (x:Hd):Array Value:=#[.int .i64 x.size,.int .i64 x.fmt,.int .i64 x.spare,.int .u32 x.cls,.int .u32 x.ser]
def Hd.val (x:Hd):Value:=.agg #[.int .i64 x.size,.int .i64 x.fmt,.int .i64 x.spare,.int .u32 x.cls,.int .u32 x.ser]
structure Hd.Fit (x:Hd):Prop where
 size:x.size<16777216
 fmt:x.fmt<8
 spare:x.spare<4
 cls:x.cls<4294967296
 ser:x.ser<4294967296
def Hd.may (x:Hd):Bool:=decide (x.size<=65535) && decide (1<=x.fmt) && decide (x.fmt<=4) && (decide (x.spare=0) || decide (x.fmt=2) && decide (0<x.size))
def eX (w:World):Prop:=∀ i,i<5->w.cell? ⟨0,i,none⟩=some (.bool (i == 2))
theorem eX.below {w w':World}(h:eX w)(hb:Below w.heap.size w w'):eX w':=fun i hi=>
 (hb.cell (ai _ _ (h i hi))).trans (h i hi)
theorem yD (x:Hd)(f:x.Fit)(w:World)(hs:eX w):
 Calls Tryz.prog 225 #[x.val] w fun e w'=>e= .returned (.bool x.may)/\Below w.heap.size w w':=by
 have c0:=hs 0 (by omega);have c1:=hs 1 (by omega);have c2:=hs 2 (by omega);have c3:=hs 3 (by omega);have c4:=hs 4 (by omega);have hg:0<w.heap.size:=ai _ _ c0;have hne:w.heap.size≠0:=by omega
 clear c0 c1 c2 c3 c4;obtain⟨n,t,s,c,r⟩:=x;obtain⟨f1,f2,f3,f4,f5⟩:=f;simp only at f1 f2 f3 f4 f5;unfold Hd.val;by_cases h1:65535<n
 .have HF:=aa (show Hd.may ⟨n,t,s,c,r⟩=false by simp[Hd.may];omega);go_enter Tryz.func225,Tryz.ntmps225;go_wp2_with fail;go_ret;exact⟨by rw[HF.o];rfl,(Below.refl _ _).alloc (ae _) _⟩
 by_cases h2:t<=0
 .have HF:=aa (show Hd.may ⟨n,t,s,c,r⟩=false by simp[Hd.may];omega);go_enter Tryz.func225,Tryz.ntmps225;go_wp2_with fail;go_ret;exact⟨by rw[HF.o];rfl,(Below.refl _ _).alloc (ae _) _⟩
 by_cases h3:5<=t
 .have HF:=aa (show Hd.may ⟨n,t,s,c,r⟩=false by simp[Hd.may];omega);go_enter Tryz.func225,Tryz.ntmps225;go_wp2_with fail;go_ret;exact⟨by rw[HF.o];rfl,(Below.refl _ _).alloc (ae _) _⟩
 by_cases h4:s=0
 .subst h4;have HF:=aa (show Hd.may ⟨n,t,0,c,r⟩=true by simp[Hd.may];omega);go_enter Tryz.func225,Tryz.ntmps225;go_wp2_with fail;go_ret;exact⟨by rw[HF.o];rfl,(Below.refl _ _).alloc (ae _) _⟩
 have h4':((s:Int) == 0)=false:=by simpa using h4
 have hcell:w.cell? ⟨0,t,none⟩=some (.bool (t == 2)):=hs t (by omega);have hlt:(t:Int)<5:=by omega
 by_cases h5:t=2
 .subst h5;by_cases h6:n=0
  .subst h6;have HF:=aa (show Hd.may ⟨0,2,s,c,r⟩=false by simp[Hd.may,h4]);clear h4;go_enter Tryz.func225,Tryz.ntmps225;go_wp2_with fail;go_ret;exact⟨by rw[HF.o];rfl,(Below.refl _ _).alloc (ae _) _⟩
  .have HF:=aa (show Hd.may ⟨n,2,s,c,r⟩=true by simp[Hd.may];omega);have h7:(0:Int)<n:=(by omega);clear h4 h6;go_enter Tryz.func225,Tryz.ntmps225;go_wp2_with fail;go_ret;exact⟨by rw[HF.o];simp;omega,(Below.refl _ _).alloc (ae _) _⟩
 .have HF:=aa (show Hd.may ⟨n,t,s,c,r⟩=false by simp[Hd.may];omega);rw[show (t == 2)=false by simpa using h5]at hcell;clear h4 h5;go_enter Tryz.func225,Tryz.ntmps225;go_wp2_with fail;go_ret;exact⟨by rw[HF.o];rfl,(Below.refl _ _).alloc (ae _) _⟩
end
section
open Go.RowKit
theorem Lr (i a b:Nat)(ha:a<2 ^ i)(hb:b*2 ^ i<4294967296)(ha2:a<4294967296):bits .or .u32 (a:Int) ((b*2 ^ i:Nat):Int)=((a+b*2 ^ i:Nat):Int):=by
 rw[u32_or_nat _ _ ha2 hb,Nat.or_comm,nat_join i _ _ (by simp) ha,Nat.add_comm]
theorem RU (a b:Nat)(ha:a<16777216)(hb:b<8):bits .or .u32 (a:Int) ((b:Int)*16777216)=((a+b*16777216:Nat):Int):=by
 have:=Lr 24 a b (by simpa using ha) (by omega) (by omega);simpa using this
theorem RV (a b:Nat)(ha:a<134217728)(hb:b<4):bits .or .u32 (a:Int) ((b:Int)*134217728)=((a+b*134217728:Nat):Int):=by
 have:=Lr 27 a b (by simpa using ha) (by omega) (by omega);simpa using this
def Hd.w0 (x:Hd):Nat:=x.size+x.fmt*16777216+x.spare*134217728
def Hd.packed (x:Hd):Value:=.agg #[.int .u32 x.w0,.int .u32 x.cls,.int .u32 x.ser]
theorem z8 (x:Hd)(f:x.Fit)(w:World):
 Calls Tryz.prog 226 #[x.val] w fun e w'=>e= .returned x.packed/\Below w.heap.size w w':=by
 obtain⟨n,t,s,c,r⟩:=x;obtain⟨f1,f2,f3,f4,f5⟩:=f;simp only at f1 f2 f3 f4 f5;have HF:=aa (show Hd.packed ⟨n,t,s,c,r⟩= .agg #[.int .u32 ((n+t*16777216+s*134217728:Nat):Int),.int .u32 c,.int .u32 r] from rfl);have e1:=RU n t f1 f2;have e2:=RV (n+t*16777216) s (by omega) f3;generalize n+t*16777216+s*134217728=v at*;generalize n+t*16777216=u at*;unfold Hd.val;go_enter Tryz.func226,Tryz.ntmps226;go_wp2_with fail;refine bodyPost_ret (v:=.agg #[.int .u32 v,.int .u32 c,.int .u32 r]) (by simp[results,Tryz.results226,go_sem]) rfl ⟨by rw[HF.o],?_⟩;exact ((Below.refl _ _).alloc (ae _) _).alloc (by simp) _
theorem y7 (x:Hd)(f:x.Fit)(hm:x.may=true)(w:World)(hs:eX w):
 Calls Tryz.prog 205 #[x.val] w fun e w'=>e= .returned (.tuple #[x.packed,.int .i64 0])/\Below w.heap.size w w':=by
 have hv:x.val= .agg #[.int .i64 x.size,.int .i64 x.fmt,.int .i64 x.spare,.int .u32 x.cls,.int .u32 x.ser]:=rfl;rw[hv];go_enter Tryz.func205,Tryz.ntmps205;go_wp2_with fail;rw[<-hv];refine (yD x f _ (hs.below (((Below.refl _ _).alloc (ae _) _).alloc (by simp) _))).mono ?_;rintro e w1 ⟨rfl,hb1⟩;rw[hm];have hb:Below w.heap.size w w1:=(((Below.refl _ _).alloc (ae _) _).alloc (by simp) _).trans (hb1.mono (by simp;omega));have B1:=eW.below (eW.alloc (eW.new w _ _) _) hb1 (by simp;omega);have B2:=eW.below (eW.new (w.alloc _) _ _) hb1 (by simp);rw[af]at B2;have hz:w.heap.size+1<w1.heap.size:=by have:=hb1.size;simp at this;omega
 clear hb1;obtain⟨c0,c1,c2,c3,c4⟩:=B1.apd;have z1:=B1.fz;go_wp2_with fail;rw[<-hv];refine (z8 x f _).mono ?_;rintro e w2 ⟨rfl,hb2⟩;rw[show x.packed= .agg #[.int .u32 x.w0,.int .u32 x.cls,.int .u32 x.ser] from rfl,hv];have B2':=B2.below hb2 B2.lt;obtain⟨d0,d1,d2⟩:=B2'.aqi;have z2:=B2'.fz;have hz2:=B2'.lt;go_wp2_with fail;refine bodyPost_ret (v:=.tuple #[.agg #[.int .u32 x.w0,.int .u32 x.cls,.int .u32 x.ser],.int .i64 0]) (by simp[results,Tryz.results205,go_sem,d0,d1,d2]) rfl ⟨rfl,?_⟩;exact (((eF hb hb2).setCell (by simp) _).setCell (by simp) _).setCell (by simp) _
end
section
open Go.RowKit
def gg (a b c:Nat):Hd:=⟨a%16777216,a/16777216%8,a/134217728%4,b,c⟩
def lL (a b c:Nat):Bool:=(gg a b c).may && decide (a<536870912)
theorem rX (a b c:Nat)(hb:b<4294967296)(hc:c<4294967296):(gg a b c).Fit:=
 ⟨ag _ (by omega),ag _ (by omega),ag _ (by omega),hb,hc⟩
theorem Ls (a b c:Nat):(gg a b c).w0=a%536870912:=by
 unfold Hd.w0 gg;simp only;omega
theorem qF (k m v:Nat)(hm:m=2 ^ k-1)(hk:k<=32)(h:v<4294967296):bits .and .u32 (v:Int) (m:Int)=((v%2 ^ k:Nat):Int):=by
 have h2:(2:Nat) ^ k<=2 ^ 32:=Nat.pow_le_pow_right (by omega) hk;rw[u32_and_nat _ _ h (by omega),hm,Nat.and_two_pow_sub_one_eq_mod]
theorem DT (v:Nat)(h:v<4294967296):bits .and .u32 (v:Int) 16777215=((v%16777216:Nat):Int):=qF 24 16777215 v (by omega) (by omega) h
theorem Hv (v:Nat)(h:v<4294967296):bits .and .u32 (v:Int) 7=((v%8:Nat):Int):=qF 3 7 v (by omega) (by omega) h
theorem Hu (v:Nat)(h:v<4294967296):bits .and .u32 (v:Int) 3=((v%4:Nat):Int):=qF 2 3 v (by omega) (by omega) h
theorem uv (a b c:Nat)(ha:a<4294967296)(hb:b<4294967296)(hc:c<4294967296)(w:World)(hs:eX w)(hok:lL a b c=true):
 Calls Tryz.prog 176 #[.agg #[.int .u32 a,.int .u32 b,.int .u32 c]] w fun e w'=>e= .returned (.tuple #[(gg a b c).val,.int .i64 0])/\Below w.heap.size w w':=by
 have e1:=DT a ha;have e2:=Hv (a/16777216) (by omega);rw[show ((a/16777216:Nat):Int)=(a:Int)/16777216 from by omega]at e2;have e3:=Hu (a/134217728) (by omega);rw[show ((a/134217728:Nat):Int)=(a:Int)/134217728 from by omega]at e3;have hf:=rX a b c hb hc;have hx:(gg a b c).val= .agg #[.int .i64 (a%16777216:Nat),.int .i64 (a/16777216%8:Nat),.int .i64 (a/134217728%4:Nat),.int .u32 b,.int .u32 c]:=rfl;have pn:(gg a b c).may=true:=by unfold lL at hok;simp only[ah]at hok;exact hok.1
 have hlt:a<536870912:=by unfold lL at hok;simp only[ah,decide_eq_true_eq]at hok;exact hok.2
 have hp:(gg a b c).packed= .agg #[.int .u32 a,.int .u32 b,.int .u32 c]:=by
  unfold Hd.packed;rw[Ls,Nat.mod_eq_of_lt hlt];rfl
 have HF:=aa hf;clear hf;have HX:=aa hx;clear hx;have HM1:=aa pn;clear pn;have Oi:=aa hp;clear hp;have HS:=aa hs;clear hs;clear hok;have g1:a%16777216<16777216:=ag _ (by omega);have g2:a/16777216%8<8:=ag _ (by omega);have g3:a/134217728%4<4:=ag _ (by omega);generalize a%16777216=n at*;generalize a/16777216%8=t at*;generalize a/134217728%4=s at*;generalize gg a b c=x at*;go_enter Tryz.func176,Tryz.ntmps176;go_wp2_with fail;generalize hW:((w.alloc _).alloc _).alloc _=W;have B8:Below w.heap.size w W:=by rw[<-hW];exact (((Below.refl _ _).alloc (ae _) _).alloc (by simp) _).alloc (by simp;omega) _
 have B0:eW W w.heap.size 248 #[.int .u32 a,.int .u32 b,.int .u32 c]:=by rw[<-hW];exact (((eW.new _ _ _).alloc _).alloc _)
 have B1:eW W (w.heap.size+1) 75 #[.int .i64 0,.int .i64 0,.int .i64 0,.int .u32 0,.int .u32 0]:=by rw[<-hW];have:=((eW.new (w.alloc (.cells #[.int .u32 a,.int .u32 b,.int .u32 c] 248)) 75 #[.int .i64 0,.int .i64 0,.int .i64 0,.int .u32 0,.int .u32 0]).alloc (.cells #[.int .i64 n,.int .i64 t,.int .i64 s,.int .u32 b,.int .u32 c] 75));rw[af]at this;exact this
 have B2:eW W (w.heap.size+1+1) 75 #[.int .i64 n,.int .i64 t,.int .i64 s,.int .u32 b,.int .u32 c]:=by
  rw[<-hW];have:=eW.new ((w.alloc (.cells #[.int .u32 a,.int .u32 b,.int .u32 c] 248)).alloc (.cells #[.int .i64 0,.int .i64 0,.int .i64 0,.int .u32 0,.int .u32 0] 75)) 75 #[.int .i64 n,.int .i64 t,.int .i64 s,.int .u32 b,.int .u32 c];rw[af,af]at this;exact this
 clear hW;have MC:=aa (show ∀ W',Below W.heap.size W W'->Calls Tryz.prog 225 #[.agg #[.int .i64 n,.int .i64 t,.int .i64 s,.int .u32 b,.int .u32 c]] W' fun e w'=>e= .returned (.bool true)/\Below W.heap.size W w' from fun W' h=>by
  rw[<-HX.o,<-HM1.o];exact (yD x HF.o W' (HS.o.below (eF B8 h))).mono fun _ _ ⟨h1,h2⟩=>⟨h1,eF h h2⟩)
 have PC:=aa (show ∀ W',Below W.heap.size W W'->Calls Tryz.prog 226 #[.agg #[.int .i64 n,.int .i64 t,.int .i64 s,.int .u32 b,.int .u32 c]] W' fun e w'=>e= .returned (.agg #[.int .u32 a,.int .u32 b,.int .u32 c])/\Below W.heap.size W w' from fun W' h=>by
  rw[<-HX.o,<-Oi.o];exact (z8 x HF.o W').mono fun _ _ ⟨h1,h2⟩=>⟨h1,eF h h2⟩)
 have KC:=aa (show ∀ w',Below W.heap.size W w'->w'.cell? ⟨w.heap.size,0,none⟩=some (.int .u32 a)/\w'.cell? ⟨w.heap.size,1,none⟩=some (.int .u32 b)/\w'.cell? ⟨w.heap.size,2,none⟩=some (.int .u32 c)/\
  w'.cell? ⟨w.heap.size+1+1,0,none⟩=some (.int .i64 n)/\w'.cell? ⟨w.heap.size+1+1,1,none⟩=some (.int .i64 t)/\w'.cell? ⟨w.heap.size+1+1,2,none⟩=some (.int .i64 s)/\w'.cell? ⟨w.heap.size+1+1,3,none⟩=some (.int .u32 b)/\w'.cell? ⟨w.heap.size+1+1,4,none⟩=some (.int .u32 c) from fun w' h=>by
  obtain⟨a0,a1,a2⟩:=(B0.below h B0.lt).aqi;exact⟨a0,a1,a2,(B2.below h B2.lt).apd⟩)
 have hb0:=Below.refl W.heap.size W;have hq:∀ w,(binOp .neq 248 (.agg #[.int .u32 a,.int .u32 b,.int .u32 c]) (.agg #[.int .u32 a,.int .u32 b,.int .u32 c])).run Tryz.prog w= .ok (.bool false) w:=fun w=>by
  rw[vY];simp
 go_region_held3 (fun w'=>w'.cell? ⟨w.heap.size,0,none⟩=some (.int .u32 a)/\w'.cell? ⟨w.heap.size,1,none⟩=some (.int .u32 b)/\w'.cell? ⟨w.heap.size,2,none⟩=some (.int .u32 c)/\
  w'.cell? ⟨w.heap.size+1+1,0,none⟩=some (.int .i64 n)/\w'.cell? ⟨w.heap.size+1+1,1,none⟩=some (.int .i64 t)/\w'.cell? ⟨w.heap.size+1+1,2,none⟩=some (.int .i64 s)/\w'.cell? ⟨w.heap.size+1+1,3,none⟩=some (.int .u32 b)/\w'.cell? ⟨w.heap.size+1+1,4,none⟩=some (.int .u32 c))
  (first|exact KC.o _ (by assumption)|exact KC.o _ (Below.drew (by assumption)))
  (first
    | (go_at_call 225;refine (MC.o _ (by first|assumption|exact Below.drew (by assumption))).mono ?_;rintro e w1 ⟨rfl,hb1⟩)
    | (go_at_call 226;refine (PC.o _ (by first|assumption|exact Below.drew (by assumption))).mono ?_;rintro e w2 ⟨rfl,hb2⟩))
 obtain⟨a0,a1,a2,a3,a4⟩:=(B2.below hb2 B2.lt).apd;have OD:=B1.below hb2 B1.lt;obtain⟨d0,d1,d2,d3,d4⟩:=OD.apd;have z1:=OD.fz;have hz1:=OD.lt;clear hq hb0;go_wp2_with fail;refine bodyPost_ret (v:=.tuple #[.agg #[.int .i64 n,.int .i64 t,.int .i64 s,.int .u32 b,.int .u32 c],.int .i64 0]) (by simp[results,Tryz.results176,go_sem,d0,d1,d2,d3,d4]) rfl ⟨by rw[HX.o],?_⟩;exact (((((eF B8 hb2).setCell (by simp) _).setCell (by simp) _).setCell (by simp) _).setCell (by simp) _).setCell (by simp) _
theorem Kf (a b c:Nat)(ha:a<4294967296)(hb:b<4294967296)(hc:c<4294967296)(w:World)(hs:eX w)(hok:lL a b c=false):
 Calls Tryz.prog 176 #[.agg #[.int .u32 a,.int .u32 b,.int .u32 c]] w fun e w'=>e= .returned (.tuple #[.agg #[.int .i64 0,.int .i64 0,.int .i64 0,.int .u32 0,.int .u32 0],.int .i64 10])/\Below w.heap.size w w':=by
 have e1:=DT a ha;have e2:=Hv (a/16777216) (by omega);rw[show ((a/16777216:Nat):Int)=(a:Int)/16777216 from by omega]at e2;have e3:=Hu (a/134217728) (by omega);rw[show ((a/134217728:Nat):Int)=(a:Int)/134217728 from by omega]at e3;have hf:=rX a b c hb hc;have hx:(gg a b c).val= .agg #[.int .i64 (a%16777216:Nat),.int .i64 (a/16777216%8:Nat),.int .i64 (a/134217728%4:Nat),.int .u32 b,.int .u32 c]:=rfl;have hp:(gg a b c).packed= .agg #[.int .u32 (a%536870912:Nat),.int .u32 b,.int .u32 c]:=by
  unfold Hd.packed;rw[Ls];rfl
 have hlt:(gg a b c).may=true->((a%536870912:Nat):Int)≠(a:Int):=by
  intro hm;unfold lL at hok;rw[hm]at hok;simp at hok;omega
 have HF:=aa hf;clear hf;have HX:=aa hx;clear hx;have tz:=aa hlt;clear hlt;have Oi:=aa hp;clear hp;have HS:=aa hs;clear hs;clear hok;have g1:a%16777216<16777216:=ag _ (by omega);have g2:a/16777216%8<8:=ag _ (by omega);have g3:a/134217728%4<4:=ag _ (by omega);generalize a%16777216=n at*;generalize a/16777216%8=t at*;generalize a/134217728%4=s at*;generalize a%536870912=v at*;generalize gg a b c=x at*;go_enter Tryz.func176,Tryz.ntmps176;go_wp2_with fail;generalize hW:((w.alloc _).alloc _).alloc _=W;have B8:Below w.heap.size w W:=by rw[<-hW];exact (((Below.refl _ _).alloc (ae _) _).alloc (by simp) _).alloc (by simp;omega) _
 have B0:eW W w.heap.size 248 #[.int .u32 a,.int .u32 b,.int .u32 c]:=by rw[<-hW];exact (((eW.new _ _ _).alloc _).alloc _)
 have B1:eW W (w.heap.size+1) 75 #[.int .i64 0,.int .i64 0,.int .i64 0,.int .u32 0,.int .u32 0]:=by rw[<-hW];have:=((eW.new (w.alloc (.cells #[.int .u32 a,.int .u32 b,.int .u32 c] 248)) 75 #[.int .i64 0,.int .i64 0,.int .i64 0,.int .u32 0,.int .u32 0]).alloc (.cells #[.int .i64 n,.int .i64 t,.int .i64 s,.int .u32 b,.int .u32 c] 75));rw[af]at this;exact this
 have B2:eW W (w.heap.size+1+1) 75 #[.int .i64 n,.int .i64 t,.int .i64 s,.int .u32 b,.int .u32 c]:=by
  rw[<-hW];have:=eW.new ((w.alloc (.cells #[.int .u32 a,.int .u32 b,.int .u32 c] 248)).alloc (.cells #[.int .i64 0,.int .i64 0,.int .i64 0,.int .u32 0,.int .u32 0] 75)) 75 #[.int .i64 n,.int .i64 t,.int .i64 s,.int .u32 b,.int .u32 c];rw[af,af]at this;exact this
 clear hW;have MC:=aa (show ∀ W',Below W.heap.size W W'->Calls Tryz.prog 225 #[.agg #[.int .i64 n,.int .i64 t,.int .i64 s,.int .u32 b,.int .u32 c]] W' fun e w'=>e= .returned (.bool x.may)/\Below W.heap.size W w' from fun W' h=>by
  rw[<-HX.o];exact (yD x HF.o W' (HS.o.below (eF B8 h))).mono fun _ _ ⟨h1,h2⟩=>⟨h1,eF h h2⟩)
 have PC:=aa (show ∀ W',Below W.heap.size W W'->Calls Tryz.prog 226 #[.agg #[.int .i64 n,.int .i64 t,.int .i64 s,.int .u32 b,.int .u32 c]] W' fun e w'=>e= .returned (.agg #[.int .u32 v,.int .u32 b,.int .u32 c])/\Below W.heap.size W w' from fun W' h=>by
  rw[<-HX.o,<-Oi.o];exact (z8 x HF.o W').mono fun _ _ ⟨h1,h2⟩=>⟨h1,eF h h2⟩)
 have KC:=aa (show ∀ w',Below W.heap.size W w'->w'.cell? ⟨w.heap.size,0,none⟩=some (.int .u32 a)/\w'.cell? ⟨w.heap.size,1,none⟩=some (.int .u32 b)/\w'.cell? ⟨w.heap.size,2,none⟩=some (.int .u32 c)/\
  w'.cell? ⟨w.heap.size+1+1,0,none⟩=some (.int .i64 n)/\w'.cell? ⟨w.heap.size+1+1,1,none⟩=some (.int .i64 t)/\w'.cell? ⟨w.heap.size+1+1,2,none⟩=some (.int .i64 s)/\w'.cell? ⟨w.heap.size+1+1,3,none⟩=some (.int .u32 b)/\w'.cell? ⟨w.heap.size+1+1,4,none⟩=some (.int .u32 c) from fun w' h=>by
  obtain⟨a0,a1,a2⟩:=(B0.below h B0.lt).aqi;exact⟨a0,a1,a2,(B2.below h B2.lt).apd⟩)
 have hb0:=Below.refl W.heap.size W;cases pn:x.may
 .rw[pn]at MC;clear pn tz;obtain⟨a0,a1,a2,a3,a4,a5,a6,a7⟩:=KC.o W hb0
  go_region_with (first
   | (go_at_call 225;refine (MC.o _ (by first|assumption|exact Below.drew (by assumption))).mono ?_;rintro e w1 ⟨rfl,hb1⟩))
  all_goals
   have OD:=B1.below hb1 B1.lt;obtain⟨d0,d1,d2,d3,d4⟩:=OD.apd;have z1:=OD.fz;have hz1:=OD.lt;clear hb0;go_wp2_with fail;refine bodyPost_ret (v:=.tuple #[.agg #[.int .i64 0,.int .i64 0,.int .i64 0,.int .u32 0,.int .u32 0],.int .i64 10]) (by simp[results,Tryz.results176,go_sem,d0,d1,d2,d3,d4]) rfl ⟨rfl,?_⟩;exact (((((eF B8 hb1).setCell (by simp) _).setCell (by simp) _).setCell (by simp) _).setCell (by simp) _).setCell (by simp) _
 .rw[pn]at MC;have hne:=tz.o pn;clear pn tz;have hq:∀ w,(binOp .neq 248 (.agg #[.int .u32 v,.int .u32 b,.int .u32 c]) (.agg #[.int .u32 a,.int .u32 b,.int .u32 c])).run Tryz.prog w= .ok (.bool true) w:=fun w=>by
   rw[vY,show ((v:Int) == (a:Int))=false from beq_eq_false_iff_ne.2 hne];simp
  clear hne
  go_region_held3 (fun w'=>w'.cell? ⟨w.heap.size,0,none⟩=some (.int .u32 a)/\w'.cell? ⟨w.heap.size,1,none⟩=some (.int .u32 b)/\w'.cell? ⟨w.heap.size,2,none⟩=some (.int .u32 c)/\
   w'.cell? ⟨w.heap.size+1+1,0,none⟩=some (.int .i64 n)/\w'.cell? ⟨w.heap.size+1+1,1,none⟩=some (.int .i64 t)/\w'.cell? ⟨w.heap.size+1+1,2,none⟩=some (.int .i64 s)/\w'.cell? ⟨w.heap.size+1+1,3,none⟩=some (.int .u32 b)/\w'.cell? ⟨w.heap.size+1+1,4,none⟩=some (.int .u32 c))
   (first|exact KC.o _ (by assumption)|exact KC.o _ (Below.drew (by assumption)))
   (first
     | (go_at_call 225;refine (MC.o _ (by first|assumption|exact Below.drew (by assumption))).mono ?_;rintro e w1 ⟨rfl,hb1⟩)
     | (go_at_call 226;refine (PC.o _ (by first|assumption|exact Below.drew (by assumption))).mono ?_;rintro e w2 ⟨rfl,hb2⟩))
  have OD:=B1.below hb2 B1.lt;obtain⟨d0,d1,d2,d3,d4⟩:=OD.apd;have z1:=OD.fz;have hz1:=OD.lt;clear hb0 hq;go_wp2_with fail;refine bodyPost_ret (v:=.tuple #[.agg #[.int .i64 0,.int .i64 0,.int .i64 0,.int .u32 0,.int .u32 0],.int .i64 10]) (by simp[results,Tryz.results176,go_sem,d0,d1,d2,d3,d4]) rfl ⟨rfl,?_⟩;exact (((((eF B8 hb2).setCell (by simp) _).setCell (by simp) _).setCell (by simp) _).setCell (by simp) _).setCell (by simp) _
end
section
open Go.RowKit
def HM.w (h:HM)(i:Nat):Nat:=h.words.getD i 0
def HM.hd (h:HM)(i:Nat):Hd:=gg (h.w i) (h.w (i+1)) (h.w (i+2))
def HM.apS (h:HM)(i:Nat):Prop:=i+3+(h.hd i).size<=h.words.length/\lL (h.w i) (h.w (i+1)) (h.w (i+2))=true
theorem HM.Fit.w {h:HM}(f:HM.Fit h)(i:Nat):h.w i<4294967296:=f.word i
theorem HM.apR {h:HM}(f:h.Fit)(i:Nat):(h.hd i).Fit:=rX _ _ _ (f.w _) (f.w _)
theorem nK {w:World}{p:HP}{h:HM}(H:fO w p h)(f:h.Fit)(hs:eX w)(i:Nat)(hi:h.apS i):
 Calls Tryz.prog 97 #[ptr p.g,.int .i64 i] w fun e w'=>e= .returned (h.hd i).val/\Below w.heap.size w w':=by
 obtain⟨h3,hok⟩:=hi;have h3:i+3<=h.words.length:=by omega
 have q0:w.cell? ⟨p.gw,i,none⟩=some (.int .u32 (h.w i:Nat)):=H.word (by omega);have q1:w.cell? ⟨p.gw,i+1,none⟩=some (.int .u32 (h.w (i+1):Nat)):=H.word (by omega);have q2:w.cell? ⟨p.gw,i+2,none⟩=some (.int .u32 (h.w (i+2):Nat)):=H.word (by omega);have c0:=H.c0;have P8:h.words.length<=p.cw:=by have:=H.2.1;obtain⟨_,_,h1,_⟩:=this;simpa[eN] using h1
 have hcm:p.cw<=9223372036854775807:=by have:=H.2.1;obtain⟨_,_,_,h1,_⟩:=this;unfold maxLen at h1;exact h1
 have b0:=f.w i;have b1:=f.w (i+1);have b2:=f.w (i+2);have hlg:p.gw<w.heap.size:=H.lt (.inr (.inl rfl));have hng:w.heap.size≠p.gw:=by omega
 have hlh:p.g<w.heap.size:=H.lt (.inl rfl);have HX:=aa (show (h.hd i).val=(gg (h.w i) (h.w (i+1)) (h.w (i+2))).val from rfl);have hx2:(gg (h.w i) (h.w (i+1)) (h.w (i+2))).val= .agg #[.int .i64 (h.w i%16777216:Nat),.int .i64 (h.w i/16777216%8:Nat),.int .i64 (h.w i/134217728%4:Nat),.int .u32 (h.w (i+1)),.int .u32 (h.w (i+2))]:=rfl;have TA:=aa hx2;have yT:=aa hok;have HS:=aa hs;clear hok hs hx2;generalize h.w i=a at*;generalize h.w (i+1)=b at*;generalize h.w (i+2)=c at*;have har:∀ (a:Addr) (c:Nat) (w:World),(Instr.arrayAt 248 (.slice (some a) 3 c)).run Tryz.prog w= .ok (.pointer (some a)) w:=fun a c w=>by
  have ht:Tryz.prog.underlying 248=some (.array 3 32):=Tryz.underlying248;simp[Instr.arrayAt,run_underlying ht]
 unfold ptr;go_enter Tryz.func97,Tryz.ntmps97;go_wp2_with fail;refine (uv a b c b0 b1 b2 _ (HS.o.below ((Below.refl _ _).alloc (ae _) _)) yT.o).mono ?_;rintro e w1 ⟨rfl,hb1⟩;rw[TA.o];rw[TA.o]at HX;clear TA yT;generalize a%16777216=n at*;generalize a/16777216%8=t at*;generalize a/134217728%4=s at*;have hb:Below w.heap.size w w1:=((Below.refl _ _).alloc (ae _) _).trans (hb1.mono (by simp));have B1:=eW.below (eW.new w _ _) hb1 (by simp);have hz:w.heap.size<w1.heap.size:=by have:=hb1.size;simp at this;omega
 have hne:w1.heap.size≠w.heap.size:=by omega
 clear hb1 har q0 q1 q2 c0;obtain⟨d0,d1,d2,d3,d4⟩:=B1.apd;have z1:=B1.fz;go_wp2_with fail;obtain⟨r0,r1,r2,r3,r4⟩:=((B1.apf (.int .i64 n) (.int .i64 t) (.int .i64 s) (.int .u32 b) (.int .u32 c)).alloc (.cells #[.int .i64 n,.int .i64 t,.int .i64 s,.int .u32 b,.int .u32 c] 75)).apd;refine bodyPost_ret (v:=.agg #[.int .i64 n,.int .i64 t,.int .i64 s,.int .u32 b,.int .u32 c]) (by simp[results,Tryz.results97,go_sem,r0,r1,r2,r3,r4]) rfl ⟨by rw[HX.o],?_⟩;exact (((((hb.setCell (by simp) _).setCell (by simp) _).setCell (by simp) _).setCell (by simp) _).setCell (by simp) _).alloc (by simp[World.setCell];omega) _
def HM.api (h:HM)(o:Nat):Value:=if h.isB o then .tuple #[(h.hd (o/2)).val,.int .i64 0] else .tuple #[.agg #[.int .i64 0,.int .i64 0,.int .i64 0,.int .u32 0,.int .u32 0],.int .i64 3]
def HM.apu (h:HM):Prop:=∀ i,h.starts.getD i false=true->h.apS i
theorem jm {w:World}{p:HP}{h:HM}(H:fO w p h)(f:h.Fit)(hh:h.apu)(hs:eX w)(o:Nat)(ho:o<4294967296):
 Calls Tryz.prog 32 #[ptr p.g,.int .u32 o] w fun e w'=>e= .returned (h.api o)/\Below w.heap.size w w':=by
 have hlg:p.g<w.heap.size:=H.lt (.inl rfl);cases hi:h.isB o
 .have HF:=aa (show h.api o= .tuple #[.agg #[.int .i64 0,.int .i64 0,.int .i64 0,.int .u32 0,.int .u32 0],.int .i64 3] by simp[HM.api,hi]);have hb0:∀ o,Below w.heap.size w (w.alloc o):=fun o=>(Below.refl _ _).alloc (ae _) _;have HI:=aa (fun x=>wT (H.below (hb0 x)) f o ho);clear hb0;rw[hi]at HI;clear hi;unfold ptr at HI ⊢;go_enter Tryz.func32,Tryz.ntmps32;go_wp2_with fail;refine (HI.o _).mono ?_;rintro e w1 ⟨rfl,rfl⟩;go_wp2_with fail;refine bodyPost_ret (v:=.tuple #[.agg #[.int .i64 0,.int .i64 0,.int .i64 0,.int .u32 0,.int .u32 0],.int .i64 3]) (by simp[results,Tryz.results32,go_sem]) rfl ⟨by rw[HF.o],?_⟩;exact (Below.refl _ _).alloc (ae _) _
 .have hk:kH o=true:=by unfold HM.isB at hi;simp only[ah]at hi;exact hi.1
  have hd:h.apS (o/2):=hh _ (by unfold HM.isB at hi;simp only[ah]at hi;exact hi.2);have HF:=aa (show h.api o= .tuple #[(h.hd (o/2)).val,.int .i64 0] by simp[HM.api,hi]);have hb0:∀ o,Below w.heap.size w (w.alloc o):=fun o=>(Below.refl _ _).alloc (ae _) _;have HI:=aa (fun x=>wT (H.below (hb0 x)) f o ho);rw[hi]at HI;have HA:=aa (fun w=>tR p.g o ho hk w);have HH:=aa (fun x=>nK (H.below (hb0 x)) f (hs.below (hb0 x)) (o/2) hd);have HX:=aa (show (h.hd (o/2)).val= .agg #[.int .i64 (h.hd (o/2)).size,.int .i64 (h.hd (o/2)).fmt,.int .i64 (h.hd (o/2)).spare,.int .u32 (h.hd (o/2)).cls,.int .u32 (h.hd (o/2)).ser] from rfl);clear hi hk hb0 hd;generalize o/2=q at*;generalize h.hd q=x at*;unfold ptr at HI HA HH ⊢;go_enter Tryz.func32,Tryz.ntmps32;go_wp2_with fail;refine (HI.o _).mono ?_;rintro e w1 ⟨rfl,rfl⟩;go_wp2_with fail;refine (HA.o _).mono ?_;rintro e w1 ⟨rfl,rfl⟩;go_wp2_with fail;refine (HH.o _).mono ?_;rintro e w1 ⟨rfl,hb1⟩;rw[HX.o];have hb:Below w.heap.size w w1:=((Below.refl _ _).alloc (ae _) _).trans (hb1.mono (by simp));have B1:=eW.below (eW.new w _ _) hb1 (by simp);clear hb1;obtain⟨d0,d1,d2,d3,d4⟩:=B1.apd;have z1:=B1.fz;have hz:=B1.lt;go_wp2_with fail;refine bodyPost_ret (v:=.tuple #[.agg #[.int .i64 x.size,.int .i64 x.fmt,.int .i64 x.spare,.int .u32 x.cls,.int .u32 x.ser],.int .i64 0]) (by simp[results,Tryz.results32,go_sem,d0,d1,d2,d3,d4]) rfl ⟨by rw[HF.o,HX.o],?_⟩;exact ((((hb.setCell (by simp) _).setCell (by simp) _).setCell (by simp) _).setCell (by simp) _).setCell (by simp) _
end
end Go.Proofs.YtlkahgagmfhdaaaGreatDoor
