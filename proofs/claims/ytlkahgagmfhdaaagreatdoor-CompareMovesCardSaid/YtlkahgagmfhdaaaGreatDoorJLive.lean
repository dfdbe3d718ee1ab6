import Derived.Test.YtlkahgagmfhdaaaGreatDoorJMake
import Derived.Test.YtlkahgagmfhdaaaGreatDoorJShow
import Derived.Test.YtlkahgagmfhdaaaGreatDoorJMapOk
set_option linter.unusedVariables false
set_option linter.unusedSectionVars false
open Go.Value renaming ownBlock→ae,int→aA
open Nat renaming le_refl→af,le_trans→au
open Go.World renaming block_lt_of_cell?→ag,size_alloc→ah,frozen?_alloc_old→aw,cell?_alloc_lt→ax,setCell→aB
open Go.Oper renaming semAt_some→ai
open List renaming length_append→aj,getD_eq_getElem?_getD→aq,getElem?_eq_getElem→ar,map_append→ay,length→aD
open Go.IntKind renaming u64→ak,i64→aC
set_option maxRecDepth 100000
set_option maxHeartbeats 4000000
namespace Go.Proofs.YtlkahgagmfhdaaaGreatDoor
section
open Go.RowKit
structure Ig (w:World):Prop where
 apl:eX w
 pow:Pow w
theorem Pow.lt {w:World}(h:Pow w):0<w.heap.size:=eX.lt h
theorem Ig.below {w w':World}(E:Ig w)(hb:Below w.heap.size w w'):Ig w':=⟨E.apl.below hb,E.pow.below hb⟩
theorem Ig.far {W:World}(E:Ig W){p:HP}(hn:∀ k,p.has k->W.heap.size<=k):V8 p:=fun k hk=>by
 have h1:=hn k hk;have h2:=E.apl.lt;have h3:=E.pow.lt;exact⟨by omega,by omega⟩
structure ju (W w:World) (p:HP) (g:Nat) (h:HM):Prop where
 at_:fO w p h
 hg:p.g=g
 good:∃ l,h.Good l
 env:Ig W
 new:∀ k,p.has k->W.heap.size<=k
 below:Below W.heap.size W w
section
variable {W w w':World}{p p':HP}{g:Nat}{h h':HM}
theorem ju.fit (L:ju W w p g h):h.Fit:=by obtain⟨l,G⟩:=L.good;exact G.fit
theorem ju.heads (L:ju W w p g h):h.apu:=by obtain⟨l,G⟩:=L.good;exact G.laid.heads
theorem ju.far (L:ju W w p g h):V8 p:=L.env.far L.new
theorem ju.ap7 (L:ju W w p g h):Ig w:=L.env.below L.below
theorem ju.after (L:ju W w p g h)(hb:Below w.heap.size w w'):ju W w' p g h:=
 ⟨L.at_.below hb,L.hg,L.good,L.env,L.new,eF L.below hb⟩
theorem ju.step (L:ju W w p g h)(H:fO w' p' h')(s:Step p p' w w')(G:∃ l,h'.Good l):ju W w' p' g h':=
 ⟨H,s.g.trans L.hg,G,L.env,fun k hk=>(s.rows k hk).elim (L.new k) (fun hk=>au L.below.size hk),s.below L.below L.new⟩
theorem ju.aqX {n:Nat}{v:Nat->Value}{d:Ending}(E:Ig W)(h1:64<=n)(h2:n<=1048576)(H:uR fO v (HM.new n) W d w'):
 ∃ p g,d= .returned (v g)/\ju W w' p g (HM.new n):=by
 obtain⟨p,hd,H1,hn,hb⟩:=H;exact⟨p,p.g,hd,H1,rfl,⟨[],HM.aqZ h1 h2 (HM.aqP h1 h2)⟩,E,hn,hb⟩
def HM.aqg (h:HM)(c:Nat)(f n:Int):Nat:=if h.ap8 c f n=0 then 2*h.words.length else 0
theorem HM.aqU (h:HM)(c:Nat)(f n:Int):h.ap4 c f n= .tuple #[.int .u32 (h.aqg c f n:Nat),.int .i64 (h.ap8 c f n:Nat)]:=by
 unfold HM.ap4 HM.aqg HM.ap8;by_cases hok:j4 f n=true
 .rw[if_pos hok,if_pos hok];rfl
 .rw[if_neg hok,if_neg hok];rfl
def Done (W:World)(p:HP)(g:Nat)(h':HM)(v:Value)(w:World)(e:Ending)(w':World):Prop:=
 ∃ p',e= .returned v/\ju W w' p' g h'/\Step p p' w w'
theorem ju.aqx {v:Value}{d:Ending}(L:ju W w p g h)(G:∃ l,h'.Good l)(H:LR p h' v w d w'):Done W p g h' v w d w':=by
 obtain⟨p',rfl,H',s⟩:=H;exact⟨p',rfl,L.step H' s G,s⟩
theorem ju.of_deed {E:Nat}{d:Ending}(L:ju W w p g h)(G:∃ l,h'.Good l)(H:U4 p h' E w d w'):Done W p g h' (.int .i64 E) w d w':=by
 obtain⟨rfl,H',s⟩:=H;exact⟨p,rfl,L.step H' s G,s⟩
theorem ju.alloc (L:ju W w p g h)(c:Nat)(hc:c<4294967296)(t n:Int):
 Calls Tryz.prog 75 #[.pointer (some ⟨g,0,none⟩),.int .u32 c,.int .i64 t,.int .i64 n] w (Done W p g (h.apI c t n) (.tuple #[.int .u32 (h.aqg c t n:Nat),.int .i64 (h.ap8 c t n:Nat)]) w):=by
 have hh:=LA L.at_ L.fit L.ap7.apl L.far c hc t n;rw[L.hg,HM.aqU]at hh;exact hh.mono fun _ _ H=>L.aqx (by obtain⟨l,G⟩:=L.good;exact G.apI c t n hc) H
theorem ju.put (L:ju W w p g h)(o:Nat)(ho:o<4294967296)(i:Int)(v:Nat)(hv:v<4294967296):
 Calls Tryz.prog 105 #[.pointer (some ⟨g,0,none⟩),.int .u32 o,.int .i64 i,.int .u32 v] w (Done W p g (h.apQ o i v) (.int .i64 (h.apT o i v:Nat)) w):=by
 have hh:=UO L.at_ L.fit L.heads L.ap7.apl o ho i v hv;rw[L.hg]at hh;exact hh.mono fun _ _ H=>L.of_deed (by obtain⟨l,G⟩:=L.good;obtain⟨l',G',_⟩:=G.apQ o i v hv;exact⟨l',G'⟩) H
def Told (v:Value)(w:World)(e:Ending)(w':World):Prop:=e= .returned v/\Below w.heap.size w w'
def Fq (v:Value)(w:World)(e:Ending)(w':World):Prop:=e= .returned v/\w=w'
end
end
section
open Go.RowKit
theorem ju.load {W w:World}{p:HP}{g:Nat}{h:HM}(L:ju W w p g h)(A:Option Addr)(n c:Nat)(ws:List Nat)(hn:n<=9223372036854775807)(hr:eQ w w.heap.size 1 A n (eN ws))(h32:∀ x∈ws,x<4294967296)
 (A':Option Addr)(n' c':Nat)(rs:List Nat)(hn':n'<=9223372036854775807)(hr':eQ w w.heap.size 1 A' n' (eN rs))(aq0:∀ x∈rs,x<4294967296)(last:Nat)(hl:last<4294967296):
 Calls Tryz.prog 94 #[.pointer (some ⟨g,0,none⟩),.slice A n c,.slice A' n' c',.int .u32 last] w (Done W p g (h.apH ws rs last) (.int .i64 (jg h.size ws rs last:Nat)) w):=by
 have hh:=yZ L.at_ L.fit L.ap7.apl (fun k hk=>by
  have h1:=L.ap7.apl.lt;have h2:=L.ap7.pow.lt;exact⟨by omega,by omega⟩) A n c ws hn hr h32 A' n' c' rs hn' hr' aq0 last hl
 rw[L.hg]at hh;refine hh.mono fun _ _ H=>L.aqx ?_ H;unfold HM.apH;by_cases he:jg h.size ws rs last=0
 .rw[if_pos he];unfold jg at he;split at he
  .omega
  .rename_i hb;split at he
   .rename_i hok;obtain⟨l,hp,S⟩:=hok;have f:=L.fit;exact⟨l,HM.apX f.lo f.hi h32 aq0 (by omega) hl (by omega) hp S⟩
   .omega
 .rw[if_neg he];exact L.good
end
section
open Go.RowKit
theorem Hg (x:Hd)(f:x.Fit)(w:World):
 Calls Tryz.prog 201 #[x.val] w fun e w'=>e= .returned (.bool x.may)/\Below w.heap.size w w':=by
 obtain⟨n,t,s,c,r⟩:=x;obtain⟨f1,f2,f3,f4,f5⟩:=f;simp only at f1 f2 f3 f4 f5;unfold Hd.val;by_cases h1:65535<n
 .have HF:=aa (show Hd.may ⟨n,t,s,c,r⟩=false by simp[Hd.may];omega);go_enter Tryz.func201,Tryz.ntmps201;go_wp2_with fail;go_ret;exact⟨by rw[HF.o];rfl,(Below.refl _ _).alloc (af _) _⟩
 by_cases h2:t<1
 .have HF:=aa (show Hd.may ⟨n,t,s,c,r⟩=false by simp[Hd.may];omega);go_enter Tryz.func201,Tryz.ntmps201;go_wp2_with fail;go_ret;exact⟨by rw[HF.o];rfl,(Below.refl _ _).alloc (af _) _⟩
 by_cases h3:4<t
 .have HF:=aa (show Hd.may ⟨n,t,s,c,r⟩=false by simp[Hd.may];omega);go_enter Tryz.func201,Tryz.ntmps201;go_wp2_with fail;go_ret;exact⟨by rw[HF.o];rfl,(Below.refl _ _).alloc (af _) _⟩
 by_cases h4:s=0
 .subst h4;have HF:=aa (show Hd.may ⟨n,t,0,c,r⟩=true by simp[Hd.may];omega);go_enter Tryz.func201,Tryz.ntmps201;go_wp2_with fail;go_ret;exact⟨by rw[HF.o];rfl,(Below.refl _ _).alloc (af _) _⟩
 have h4':((s:Int) == 0)=false:=by simpa using h4
 by_cases h5:t=2
 .subst h5;by_cases h6:n=0
  .subst h6;have HF:=aa (show Hd.may ⟨0,2,s,c,r⟩=false by simp[Hd.may,h4]);clear h4;go_enter Tryz.func201,Tryz.ntmps201;go_wp2_with fail;go_ret;exact⟨by rw[HF.o];rfl,(Below.refl _ _).alloc (af _) _⟩
  .have HF:=aa (show Hd.may ⟨n,2,s,c,r⟩=true by simp[Hd.may];omega);have h7:(0:Int)<n:=(by omega);clear h4 h6;go_enter Tryz.func201,Tryz.ntmps201;go_wp2_with fail;go_ret;exact⟨by rw[HF.o];simp;omega,(Below.refl _ _).alloc (af _) _⟩
 .have HF:=aa (show Hd.may ⟨n,t,s,c,r⟩=false by simp[Hd.may];omega);have h5':((t:Int) == 2)=false:=by simp;omega
  clear h4 h5;go_enter Tryz.func201,Tryz.ntmps201;go_wp2_with fail;go_ret;exact⟨by rw[HF.o];rfl,(Below.refl _ _).alloc (af _) _⟩
def lc (a b c:Nat):Value:=.tuple #[if lL a b c then (gg a b c).val else .agg #[.int .i64 0,.int .i64 0,.int .i64 0,.int .u32 0,.int .u32 0],.bool (lL a b c)]
theorem xT (a b c:Nat)(ha:a<4294967296)(hb:b<4294967296)(hc:c<4294967296)(w:World):
 Calls Tryz.prog 148 #[.agg #[.int .u32 a,.int .u32 b,.int .u32 c]] w (Told (lc a b c) w):=by
 have hx:(gg a b c).val= .agg #[.int .i64 ((a:Int)%16777216),.int .i64 ((a:Int)/16777216%8),.int .i64 ((a:Int)/134217728%4),.int .u32 b,.int .u32 c]:=rfl;have HX:=aa hx;have HF:=aa (rX a b c hb hc);by_cases hlt:a<536870912
 .have hd:(((a:Int)/536870912) != 0)=false:=by simp;omega
  cases hok:(gg a b c).may
  .have HV:=aa (show lc a b c= .tuple #[.agg #[.int .i64 0,.int .i64 0,.int .i64 0,.int .u32 0,.int .u32 0],.bool false] by simp[lc,lL,hok]);have HM:=aa (fun w=>(Hg _ HF.o w));rw[HX.o,hok]at HM;clear hok hx hlt;go_enter Tryz.func148,Tryz.ntmps148;go_wp2_with fail;generalize hW:((w.alloc _).alloc _).alloc _=W;have B8:Below w.heap.size w W:=(by rw[<-hW];exact (((Below.refl _ _).alloc (af _) _).alloc (by simp) _).alloc (by simp;omega) _);have B1:eW W (w.heap.size+1) 75 #[.int .i64 0,.int .i64 0,.int .i64 0,.int .u32 0,.int .u32 0]:=by
    rw[<-hW];have:=(eW.new (w.alloc (.cells #[.int .u32 a,.int .u32 b,.int .u32 c] 248)) 75 #[.int .i64 0,.int .i64 0,.int .i64 0,.int .u32 0,.int .u32 0]).alloc (.cells #[.int .i64 ((a:Int)%16777216),.int .i64 ((a:Int)/16777216%8),.int .i64 ((a:Int)/134217728%4),.int .u32 b,.int .u32 c] 75);rw[ah]at this;exact this
   have B2:eW W (w.heap.size+1+1) 75 #[.int .i64 ((a:Int)%16777216),.int .i64 ((a:Int)/16777216%8),.int .i64 ((a:Int)/134217728%4),.int .u32 b,.int .u32 c]:=by
    rw[<-hW];have:=eW.new ((w.alloc (.cells #[.int .u32 a,.int .u32 b,.int .u32 c] 248)).alloc (.cells #[.int .i64 0,.int .i64 0,.int .i64 0,.int .u32 0,.int .u32 0] 75)) 75 #[.int .i64 ((a:Int)%16777216),.int .i64 ((a:Int)/16777216%8),.int .i64 ((a:Int)/134217728%4),.int .u32 b,.int .u32 c];rw[ah,ah]at this;exact this
   clear hW;refine (HM.o _).mono ?_;rintro e w1 ⟨rfl,hb1⟩;replace B1:=B1.below hb1 B1.lt;replace B2:=B2.below hb1 B2.lt;have hb:=eF B8 hb1;clear hb1 B8;obtain⟨a0,a1,a2,a3,a4⟩:=B2.apd;obtain⟨d0,d1,d2,d3,d4⟩:=B1.apd;have z1:=B1.fz;have hz1:=B1.lt;go_wp2_with fail;refine bodyPost_ret (v:=.tuple #[.agg #[.int .i64 0,.int .i64 0,.int .i64 0,.int .u32 0,.int .u32 0],.bool false]) (by simp[results,Tryz.results148,go_sem,d0,d1,d2,d3,d4]) rfl ⟨by rw[HV.o],?_⟩;exact ((((hb.setCell (by simp) _).setCell (by simp) _).setCell (by simp) _).setCell (by simp) _).setCell (by simp) _
  .have HV:=aa (show lc a b c= .tuple #[(gg a b c).val,.bool true] by simp[lc,lL,hok,hlt]);have HM:=aa (fun w=>(Hg _ HF.o w));rw[HX.o,hok]at HM;clear hok hx hlt;go_enter Tryz.func148,Tryz.ntmps148;go_wp2_with fail;generalize hW:((w.alloc _).alloc _).alloc _=W;have B8:Below w.heap.size w W:=(by rw[<-hW];exact (((Below.refl _ _).alloc (af _) _).alloc (by simp) _).alloc (by simp;omega) _);have B1:eW W (w.heap.size+1) 75 #[.int .i64 0,.int .i64 0,.int .i64 0,.int .u32 0,.int .u32 0]:=by
    rw[<-hW];have:=(eW.new (w.alloc (.cells #[.int .u32 a,.int .u32 b,.int .u32 c] 248)) 75 #[.int .i64 0,.int .i64 0,.int .i64 0,.int .u32 0,.int .u32 0]).alloc (.cells #[.int .i64 ((a:Int)%16777216),.int .i64 ((a:Int)/16777216%8),.int .i64 ((a:Int)/134217728%4),.int .u32 b,.int .u32 c] 75);rw[ah]at this;exact this
   have B2:eW W (w.heap.size+1+1) 75 #[.int .i64 ((a:Int)%16777216),.int .i64 ((a:Int)/16777216%8),.int .i64 ((a:Int)/134217728%4),.int .u32 b,.int .u32 c]:=by
    rw[<-hW];have:=eW.new ((w.alloc (.cells #[.int .u32 a,.int .u32 b,.int .u32 c] 248)).alloc (.cells #[.int .i64 0,.int .i64 0,.int .i64 0,.int .u32 0,.int .u32 0] 75)) 75 #[.int .i64 ((a:Int)%16777216),.int .i64 ((a:Int)/16777216%8),.int .i64 ((a:Int)/134217728%4),.int .u32 b,.int .u32 c];rw[ah,ah]at this;exact this
   clear hW;refine (HM.o _).mono ?_;rintro e w1 ⟨rfl,hb1⟩;replace B1:=B1.below hb1 B1.lt;replace B2:=B2.below hb1 B2.lt;have hb:=eF B8 hb1;clear hb1 B8;obtain⟨a0,a1,a2,a3,a4⟩:=B2.apd;obtain⟨d0,d1,d2,d3,d4⟩:=B1.apd;have z1:=B1.fz;have hz1:=B1.lt;go_wp2_with fail;refine bodyPost_ret (v:=.tuple #[.agg #[.int .i64 ((a:Int)%16777216),.int .i64 ((a:Int)/16777216%8),.int .i64 ((a:Int)/134217728%4),.int .u32 b,.int .u32 c],.bool true]) (by simp[results,Tryz.results148,go_sem,d0,d1,d2,d3,d4]) rfl ⟨by rw[HV.o];rw[HX.o],?_⟩;exact ((((hb.setCell (by simp) _).setCell (by simp) _).setCell (by simp) _).setCell (by simp) _).setCell (by simp) _
 .have hd:(((a:Int)/536870912) != 0)=true:=by simp;omega
  have HV:=aa (show lc a b c= .tuple #[.agg #[.int .i64 0,.int .i64 0,.int .i64 0,.int .u32 0,.int .u32 0],.bool false] by simp[lc,lL,hlt]);clear hx hlt;go_enter Tryz.func148,Tryz.ntmps148;go_wp2_with fail;refine bodyPost_ret (v:=.tuple #[.agg #[.int .i64 0,.int .i64 0,.int .i64 0,.int .u32 0,.int .u32 0],.bool false]) (by simp[results,Tryz.results148,go_sem]) rfl ⟨by rw[HV.o],?_⟩;exact (((Below.refl _ _).alloc (af _) _).alloc (by simp) _).alloc (by simp;omega) _
end
section
open Go.RowKit
theorem ie {W w:World}{o:Obj}(h:Below W.heap.size W w):Below W.heap.size W (w.alloc o):=h.alloc h.size o
theorem pW {W w:World}{a b c d e:Value}{g:Nat}(h:Below W.heap.size W w)(hg:W.heap.size<=g:=by simp):Below W.heap.size W (((((w.setCell ⟨g,0,none⟩ a).setCell ⟨g,1,none⟩ b).setCell ⟨g,2,none⟩ c).setCell ⟨g,3,none⟩ d).setCell ⟨g,4,none⟩ e):=
 ((((h.setCell (p:=⟨g,0,none⟩) hg _).setCell (p:=⟨g,1,none⟩) hg _).setCell (p:=⟨g,2,none⟩) hg _).setCell (p:=⟨g,3,none⟩) hg _).setCell (p:=⟨g,4,none⟩) hg _
theorem LZ (b:Bool):(((if b=true then 1 else 0:Int)) == 1)=b:=by cases b <;> rfl
section
variable {w:World}{p:HP}{h:HM}(R:oQ w p h)(f:h.Fit)
include R f
theorem Lk (o:Nat)(ho:o<4294967296):
 Calls Tryz.prog 182 #[ptr p.g,.int .u32 o] w (Fq (.bool (h.isB o)) w):=by
 have c4:=R.c4;have hlen:=f.marks;have hroom:=f.room;have Br:=f.hi;unfold ptr;by_cases h0:o=0
 .subst h0;have HF:=aa (show h.isB 0=false by simp[HM.isB,kH,eR]);go_enter Tryz.func182,Tryz.ntmps182;go_wp2_with fail;go_ret;exact⟨by rw[HF.o];rfl,rfl⟩
 have hb:((o:Int) != 0)=true:=by simpa using h0
 by_cases h1:o%2=1
 .have HF:=aa (show h.isB o=false by simp[HM.isB,kH,eR,h0,h1]);have hb2:((o:Int)%2 == 0)=false:=by simp;omega
  clear h0 h1;go_enter Tryz.func182,Tryz.ntmps182;go_wp2_with fail;go_ret;exact⟨by rw[HF.o];rfl,rfl⟩
 have hb2:((o:Int)%2 == 0)=true:=by simp;omega
 have hk:kH o=true:=(vM o).2 ⟨h0,by omega⟩;by_cases hl:o/2<h.starts.length
 .have hcell:=R.mark hl;have HF:=aa (show h.isB o=h.starts.getD (o/2) false by simp[HM.isB,hk]);generalize h.starts.getD (o/2) false=b at*;have hq:((o:Int)/2)=((o/2:Nat):Int):=by omega
  generalize o/2=q at*;have hlt:(q:Int)<(h.starts.length:Int):=by omega
  have h1b:=LZ b;clear hk h0 h1;cases b
  all_goals
   go_enter Tryz.func182,Tryz.ntmps182;go_wp2_with fail;go_ret;exact⟨by rw[HF.o];rfl,rfl⟩
 .have HF:=aa (show h.isB o=false by rw[HM.isB,aq,List.getElem?_eq_none (by omega)];simp);have hq:((o:Int)/2)=((o/2:Nat):Int):=by omega
  generalize o/2=q at*;have hlt:(h.starts.length:Int)<=(q:Int):=by omega
  clear hk h0 h1;go_enter Tryz.func182,Tryz.ntmps182;go_wp2_with fail;go_ret;exact⟨by rw[HF.o];rfl,rfl⟩
theorem EW (o:Nat)(ho:o<4294967296):
 Calls Tryz.prog 159 #[ptr p.g,.int .u32 o] w (Fq (.bool (h.apo o)) w):=by
 have HI:=aa (Lk R f o ho);unfold ptr at HI ⊢;by_cases h0:o=0
 .have HF:=aa (show h.apo o=true by simp[HM.apo,h0]);have hb:((o:Int) == 0)=true:=by simp;omega
  clear h0;go_enter Tryz.func159,Tryz.ntmps159;go_wp2_with fail;go_ret;exact⟨by rw[HF.o];rfl,rfl⟩
 .have HF:=aa (show h.apo o=h.isB o by simp[HM.apo,h0]);have hb:((o:Int) == 0)=false:=by simp;omega
  generalize h.isB o=b at*;clear h0;go_enter Tryz.func159,Tryz.ntmps159;go_wp2_with fail;refine HI.o.mono ?_;rintro e w1 ⟨rfl,rfl⟩;go_wp2_with fail;go_ret;exact⟨by rw[HF.o];rfl,rfl⟩
theorem DJ (o:Nat)(ho:o<4294967296):
 Calls Tryz.prog 163 #[ptr p.g,.int .u32 o] w (Fq (.bool (h.apc o)) w):=by
 have HI:=aa (Lk R f o ho);unfold ptr at HI ⊢;by_cases h0:o=0
 .have HF:=aa (show h.apc o=true by simp[HM.apc,kH,eR,h0]);have hb:((o:Int) == 0)=true:=by simp;omega
  clear h0;go_enter Tryz.func163,Tryz.ntmps163;go_wp2_with fail;go_ret;exact⟨by rw[HF.o];rfl,rfl⟩
 have hb:((o:Int) == 0)=false:=by simp;omega
 by_cases h1:o%2=1
 .have HF:=aa (show h.apc o=true by simp[HM.apc,kH,eR,h0,h1]);have hb2:((o:Int)%2 == 1)=true:=by simp;omega
  clear h0 h1;go_enter Tryz.func163,Tryz.ntmps163;go_wp2_with fail;go_ret;exact⟨by rw[HF.o];rfl,rfl⟩
 .have HF:=aa (show h.apc o=h.isB o by simp[HM.apc,kH,eR,h0,h1]);have hb2:((o:Int)%2 == 1)=false:=by simp;omega
  generalize h.isB o=b at*;clear h0 h1;go_enter Tryz.func163,Tryz.ntmps163;go_wp2_with fail;refine HI.o.mono ?_;rintro e w1 ⟨rfl,rfl⟩;go_wp2_with fail;go_ret;exact⟨by rw[HF.o];rfl,rfl⟩
theorem xS (o:Nat)(ho:o<4294967296)(hd:h.apS (o/2)):
 Calls Tryz.prog 152 #[ptr p.g,.int .u32 o] w (Told (h.hd (o/2)).val w):=by
 have hb0:∀ o,Below w.heap.size w (w.alloc o):=fun o=>(Below.refl _ _).alloc (af _) _;have B0:=R.1.alloc (.cells #[.int .i64 0,.int .i64 0,.int .i64 0,.int .u32 0,.int .u32 0] 75);have R':=R.below (hb0 (.cells #[.int .i64 0,.int .i64 0,.int .i64 0,.int .u32 0,.int .u32 0] 75));have c1:=R'.c1;have hroom:=f.room;have Br:=f.hi;have Iq:=hd.1;have qY:=hd.2;have hw0:=R'.word (i:=o/2) (by omega);have oq:=R'.word (i:=o/2+1) (by omega);have hw2:=R'.word (i:=o/2+2) (by omega);have HU:=aa (fun w=>xT (h.w (o/2)) (h.w (o/2+1)) (h.w (o/2+2)) (f.word _) (f.word _) (f.word _) w);have HV:=aa (show lc (h.w (o/2)) (h.w (o/2+1)) (h.w (o/2+2))= .tuple #[(h.hd (o/2)).val,.bool true] by unfold lc;rw[qY];rfl);rw[HV.o]at HU;change _=some (aA .u32 ((h.w (o/2):Nat):Int)) at hw0;change _=some (aA .u32 ((h.w (o/2+1):Nat):Int)) at oq;change _=some (aA .u32 ((h.w (o/2+2):Nat):Int)) at hw2;have hq:((o:Int)/2)=((o/2:Nat):Int):=by omega
 have HX:=aa (show (h.hd (o/2)).val= .agg #[.int .i64 (h.hd (o/2)).size,.int .i64 (h.hd (o/2)).fmt,.int .i64 (h.hd (o/2)).spare,.int .u32 (h.hd (o/2)).cls,.int .u32 (h.hd (o/2)).ser] from rfl);generalize o/2=q at*;generalize h.w q=x0 at*;generalize h.w (q+1)=x1 at*;generalize h.w (q+2)=x2 at*;have Gj:(q:Int)<(h.words.length:Int):=by omega
 have ahe:(q:Int)+1<(h.words.length:Int):=by omega
 have Uj:(q:Int)+2<(h.words.length:Int):=by omega
 have e1:aC.wrap ((q:Int)+1)=(q:Int)+1:=IntWalk.i64_in _ (by omega);have e2:aC.wrap ((q:Int)+2)=(q:Int)+2:=IntWalk.i64_in _ (by omega);have p1:0<=(q:Int)+1:=by omega
 have p2:0<=(q:Int)+2:=by omega
 have t1:((q:Int)+1).toNat=q+1:=by omega
 have t2:((q:Int)+2).toNat=q+2:=by omega
 have hg0:=R.1.lt;clear R R' hd Iq qY hb0 HV;generalize h.hd q=x at*;unfold ptr;go_enter Tryz.func152,Tryz.ntmps152;go_wp2_with fail;generalize hW:w.alloc _=W;rw[hW]at c1 hw0 oq hw2 B0;have B8:Below w.heap.size w W:=by rw[<-hW];exact (Below.refl _ _).alloc (af _) _
 have BR:eW W w.heap.size 75 #[.int .i64 0,.int .i64 0,.int .i64 0,.int .u32 0,.int .u32 0]:=by rw[<-hW];exact eW.new _ _ _
 clear hW B0
 have KC:=aa (show ∀ W',Below W.heap.size W W'->W'.cell? ⟨p.g,1,none⟩=some (.slice (some ⟨p.gw,0,none⟩) h.words.length p.cw)/\W'.cell? ⟨p.gw,q,none⟩=some (.int .u32 (x0:Int))/\W'.cell? ⟨p.gw,q+1,none⟩=some (.int .u32 (x1:Int))/\W'.cell? ⟨p.gw,q+2,none⟩=some (.int .u32 (x2:Int)) from fun W' hb=>
  ⟨(hb.cell (ag _ _ c1)).trans c1,(hb.cell (ag _ _ hw0)).trans hw0,(hb.cell (ag _ _ oq)).trans oq,(hb.cell (ag _ _ hw2)).trans hw2⟩)
 have HUA:=aa (show Calls Tryz.prog 148 #[.agg #[.int .u32 x0,.int .u32 x1,.int .u32 x2]] W.drew fun e w1=>e= .returned (.tuple #[.agg #[.int .i64 x.size,.int .i64 x.fmt,.int .i64 x.spare,.int .u32 x.cls,.int .u32 x.ser],.bool true])/\Below W.heap.size W w1 from
  by rw[<-HX.o];exact (HU.o _).mono fun _ _ ⟨h1,h2⟩=>⟨h1,eF (ib (Below.refl _ _)) h2⟩)
 have Tz:=aa (show Calls Tryz.prog 148 #[.agg #[.int .u32 x0,.int .u32 x1,.int .u32 x2]] (W.alloc (.cells #[.int .i64 0,.int .i64 0,.int .i64 0,.int .u32 0,.int .u32 0] 75)).drew fun e w1=>e= .returned (.tuple #[.agg #[.int .i64 x.size,.int .i64 x.fmt,.int .i64 x.spare,.int .u32 x.cls,.int .u32 x.ser],.bool true])/\Below W.heap.size W w1/\eW w1 W.heap.size 75 #[.int .i64 0,.int .i64 0,.int .i64 0,.int .u32 0,.int .u32 0] from
  by rw[<-HX.o];exact (HU.o _).mono fun _ _ ⟨h1,h2⟩=>⟨h1,eF (ib (ie (Below.refl _ _))) h2,((eW.new W _ _).drew).below h2 (by simp[World.drew])⟩)
 have hb0:=Below.refl W.heap.size W;have Qq:W.heap.size≠p.gw:=by have:=ag _ _ hw0;simp only at this;omega
 have SD:W.heap.size≠p.g:=by have:=ag _ _ c1;simp only at this;omega
 go_cut [6] (fun v wx=>∃ g,v=ptr g/\Below W.heap.size W wx/\eW wx g 75 #[.int .i64 x.size,.int .i64 x.fmt,.int .i64 x.spare,.int .u32 x.cls,.int .u32 x.ser]/\W.heap.size<=g)
 case first=>
  go_region_held3 (fun w'=>w'.cell? ⟨p.g,1,none⟩=some (.slice (some ⟨p.gw,0,none⟩) h.words.length p.cw)/\w'.cell? ⟨p.gw,q,none⟩=some (.int .u32 (x0:Int))/\w'.cell? ⟨p.gw,q+1,none⟩=some (.int .u32 (x1:Int))/\w'.cell? ⟨p.gw,q+2,none⟩=some (.int .u32 (x2:Int)))
   (first|with_reducible exact KC.o _ hb0|with_reducible exact KC.o _ (Below.drew hb0)|with_reducible exact KC.o _ (ie hb0)|with_reducible exact KC.o _ (Below.drew (ie hb0))|with_reducible exact KC.o _ hk|with_reducible exact KC.o _ (ie hk)|with_reducible exact KC.o _ (pW hk (af _)))
   (first
     | (go_at_call 148;(with_reducible refine HUA.o.mono ?_);rintro e w1 ⟨rfl,hk⟩)
     | (go_at_call 148;(with_reducible refine Tz.o.mono ?_);rintro e w1 ⟨rfl,hk,Oo⟩;obtain⟨g0,g1,g2,g3,g4⟩:=Oo.apd;have hgz:=Oo.fz;have VI:=Oo.lt))
  all_goals go_wp2_with fail
  all_goals go_meet
  .exact⟨_,rfl,ie hk,eW.new _ _ _,hk.size⟩
  .exact⟨_,rfl,pW hk (af _),Oo.apf _ _ _ _ _,af _⟩
 case rest=>
  obtain⟨gx,rfl,Ua,BX,hgx⟩:=hcut;have BR':=BR.below Ua BR.lt;have hb:=B8.trans (Ua.mono B8.size);clear KC HUA Tz hb0 Ua HU hw0 oq hw2 c1 BR;obtain⟨d0,d1,d2,d3,d4⟩:=BR'.apd;obtain⟨b0,b1,b2,b3,b4⟩:=BX.apd;have z1:=BR'.fz;have hz:=BR'.lt;unfold ptr;go_wp2_with fail;refine bodyPost_ret (v:=.agg #[.int .i64 x.size,.int .i64 x.fmt,.int .i64 x.spare,.int .u32 x.cls,.int .u32 x.ser]) (by simp[results,Tryz.results152,go_sem,d0,d1,d2,d3,d4]) rfl ⟨by rw[HX.o],?_⟩;exact (((((hb.setCell (by simp) _).setCell (by simp) _).setCell (by simp) _).setCell (by simp) _).setCell (by simp) _)
end
end
section
open Go.RowKit
theorem af6:∀ (a b c d e:Value) (w:World),(Instr.field 75 (.agg #[a,b,c,d,e]) 0).run Tryz.prog w= .ok a w:=fun a b c d e w=>by kernel_rfl
section
variable {w:World}{p:HP}{h:HM}(R:oQ w p h)(f:h.Fit)(o:Nat)(ho:o<4294967296)
include R f ho
end
end
section
open Go.RowKit
section
variable {w:World}{p:HP}{h:HM}(R:oQ w p h)(f:h.Fit)(hh:h.apu)(o:Nat)(ho:o<4294967296)(i:Int)(XV:i<=9223372036854775807)
include R f hh ho XV
end
end
section
open Go.RowKit
section
variable {w:World}{p:HP}{h:HM}(R:oQ w p h)(f:h.Fit)(hh:h.apu)(o:Nat)(ho:o<4294967296)(i:Int)(XV:i<=9223372036854775807)
include R f hh ho XV
end
section
variable {w:World}{p:HP}{h:HM}(R:oQ w p h)(f:h.Fit)
include R f
end
end
section
open Go.RowKit
attribute [local go_sem] ai
section
variable {w:World}{p:HP}{h:HM}(R:oQ w p h)(f:h.Fit)
include R f
end
end
section
open Go.RowKit
section
variable {w w':World}{p p':HP}{B:Nat}{A:Option Addr}{ds:List Dd}
theorem FK {a:Addr}{j:Nat}{v:Value}(h:w.cell? (a.add j)=some v)(hj:0<j):w.cell? ⟨a.block,a.off+j,none⟩=some v:=by
 unfold Addr.add at h;rw[if_neg (by omega)]at h;exact h
end
end
section
open Go.RowKit
attribute [local go_sem] ai
theorem o8 (o:Nat)(ho:o<4294967296)(w:World):Calls Tryz.prog 190 #[.int .u32 o] w (Fq (.int .i64 (eR o)) w):=by
 have HK:=aa (nQ o ho w);have hk:eR o=0\/eR o=1\/eR o=2:=by unfold eR;split <;> (try split) <;> simp
 generalize eR o=k at*;rcases hk with rfl|rfl|rfl
 all_goals
  go_enter Tryz.func190,Tryz.ntmps190;go_wp2_with fail;refine HK.o.mono ?_;rintro e w' ⟨rfl,rfl⟩;go_wp2_with fail;go_ret;exact⟨rfl,rfl⟩
theorem mH (t:Nat)(w:World):Calls Tryz.prog 193 #[.int .i64 t] w (Fq (.bool (decide (t=1) || decide (t=4))) w):=by
 by_cases h1:t=1
 .subst h1;go_enter Tryz.func193,Tryz.ntmps193;go_wp2_with fail;go_ret;exact⟨by simp,rfl⟩
 .have e1:((t:Int) == 1)=false:=by simp;omega
  by_cases h4:t=4
  .subst h4;go_enter Tryz.func193,Tryz.ntmps193;go_wp2_with fail;go_ret;exact⟨by simp,rfl⟩
  .have e4:((t:Int) == 4)=false:=(by simp;omega);have HF:=aa (show (decide (t=1) || decide (t=4))=false by simp[h1,h4]);clear h1 h4;go_enter Tryz.func193,Tryz.ntmps193;go_wp2_with fail;go_ret;exact⟨by rw[HF.o];rfl,rfl⟩
def FR (gb:Nat):Value:=.func (.func 244) #[] #[.pointer (some ⟨gb,0,none⟩)]
theorem Q1 (h:HM)(o:Nat):(!h.apc o)=(decide (eR o=2) && !h.isB o):=by
 unfold HM.apc kH;by_cases hk:eR o=2 <;> simp[hk]
theorem PQ {w:World}{p:HP}{h:HM}(H:fO w p h)(f:h.Fit)(gb:Nat)(hb:w.cell? ⟨gb,0,none⟩=some (.pointer (some ⟨p.g,0,none⟩)))(o:Nat)(ho:o<4294967296):
 Calls Tryz.prog 244 #[.int .u32 o,.pointer (some ⟨gb,0,none⟩)] w fun e w'=>e= .returned (.bool (!h.apc o))/\w=w':=by
 have HI:=aa (wT H f o ho);have HK:=aa (o8 o ho w);rw[Q1];clear H f;unfold ptr at HI;generalize h.isB o=b at*;by_cases hk:eR o=2
 .rw[hk]at HK ⊢;clear hk;go_enter Tryz.func244,Tryz.ntmps244;go_wp2_with fail;refine HK.o.mono ?_;rintro e w' ⟨rfl,rfl⟩;go_wp2_with fail;refine HI.o.mono ?_;rintro e w' ⟨rfl,rfl⟩;go_wp2_with fail;go_ret;exact⟨by simp,rfl⟩
 .have e2:((eR o:Int) == 2)=false:=by simp;omega
  have HF:=aa (show (decide (eR o=2) && !b)=false by simp[hk]);rw[HF.o];clear hk;generalize eR o=k at*;go_enter Tryz.func244,Tryz.ntmps244;go_wp2_with fail;refine HK.o.mono ?_;rintro e w' ⟨rfl,rfl⟩;go_wp2_with fail;go_ret;exact⟨rfl,rfl⟩
theorem ED {w:World}{p:HP}{h:HM}(H:fO w p h)(f:h.Fit)(gb:Nat)(hb:w.cell? ⟨gb,0,none⟩=some (.pointer (some ⟨p.g,0,none⟩)))(A:Option Addr)(n c B:Nat)(xs:List Nat)(hn:n<=9223372036854775807)
 (hr:eQ w B 1 A n (eN xs))(h32:∀ x∈xs,x<4294967296):
 Calls Tryz.prog 265 #[.slice A n c,FR gb] w (Vk h xs w):=by
 have hl:xs.length=n:=by have:=hr.1;rw[eY]at this;omega
 have HL:=aa hl;have HR:=aa hr;have HX:=aa h32;have HH:=aa H;have HF:=aa f;have HB:=aa hb;clear hl hr h32 H f hb;unfold FR;go_enter Tryz.func265,Tryz.ntmps265;go_wp2_with fail
 go_loop [8] (fun i=>∃ k:Nat,k<=n/\i= .int .i64 k/\(xs.take k).any (fun o=> !h.apc o)=false) (fun i=>n-(intOf i).toNat)
 case atStart=>exact⟨0,by omega,rfl,by simp⟩
 case round=>
  obtain⟨k,hk,rfl,hno⟩:=hrel;have qX:=aa hno;clear hno;by_cases hlt:k<n
  .obtain⟨ad,u0,rfl,_,hx,hcell⟩:=HR.o.at_ hlt;rw[ft (by rw[HL.o];exact hlt)]at hx;injection hx with hx;subst hx;have ho:xs.getD k 0<4294967296:=by
    rw[aq,ar (by rw[HL.o];exact hlt)];exact HX.o _ (List.getElem_mem _)
   have HC:=aa (PQ HH.o HF.o gb HB.o (xs.getD k 0) ho);cases hv:h.apc (xs.getD k 0)
   .have HA:=aa (Ps (q:=fun o=> !h.apc o) (by rw[HL.o];exact hlt) (by simp only[hv];rfl));rw[hv]at HC;clear hv;generalize xs.getD k 0=y at*;go_wp2_with fail;refine HC.o.mono ?_;rintro e w' ⟨rfl,rfl⟩;go_wp2_with fail;go_ret;exact⟨k,rfl,by rw[HA.o];simp,by omega,by omega,rfl⟩
   .have HA:=aa (Fw (q:=fun o=> !h.apc o) (by rw[HL.o];exact hlt) qX.o (by simp only[hv];rfl));rw[hv]at HC;clear hv;generalize xs.getD k 0=y at*;go_wp2_with fail;refine HC.o.mono ?_;rintro e w' ⟨rfl,rfl⟩;go_wp2_with fail
    go_round
    case rel=>exact⟨k+1,by omega,by go_num,HA.o⟩
    case measure=>simp[intOf];omega
  .obtain rfl:k=n:=(by omega);have hall:=qX.o;rw[List.take_of_length_le (by rw[HL.o];omega)]at hall;have HA:=aa hall;clear hall;go_wp2_with fail;go_ret;exact⟨-1,rfl,by rw[HA.o];simp,by omega,by omega,rfl⟩
theorem yg {w:World}{p:HP}{h:HM}(H:fO w p h)(f:h.Fit)(gb:Nat)(hb:w.cell? ⟨gb,0,none⟩=some (.pointer (some ⟨p.g,0,none⟩)))(A:Option Addr)(n c B:Nat)(xs:List Nat)(hn:n<=9223372036854775807)
 (hr:eQ w B 1 A n (eN xs))(h32:∀ x∈xs,x<4294967296):
 Calls Tryz.prog 221 #[.slice A n c,FR gb] w fun e w'=>e= .returned (.bool (xs.any fun o=> !h.apc o))/\w=w':=by
 have HC:=aa (ED H f gb hb A n c B xs hn hr h32);clear H f hb hr h32;unfold FR at HC ⊢;go_enter Tryz.func221,Tryz.ntmps221;go_wp2_with fail;refine HC.o.mono ?_;rintro e w' ⟨j,rfl,hj,Ov,Br,rfl⟩;have HJ:=aa hj;clear hj;go_wp2_with fail;go_ret;exact⟨by rw[<-HJ.o];rfl,rfl⟩
def HM.apn (h:HM)(fr:List Nat):Bool:= !(fr.any fun o=> !h.apc o)
theorem wM {w:World}{p:HP}{h:HM}(H:fO w p h)(f:h.Fit)(A:Option Addr)(n c:Nat)(xs:List Nat)(hn:n<=9223372036854775807)(hr:eQ w w.heap.size 1 A n (eN xs))(h32:∀ x∈xs,x<4294967296):
 Calls Tryz.prog 187 #[ptr p.g,.slice A n c] w (Told (.bool (h.apn xs)) w):=by
 have hb0:=(Below.refl w.heap.size w).alloc (af _) (.cells #[.pointer (some ⟨p.g,0,none⟩)] 23);have HC:=aa (yg (H.below hb0) f w.heap.size ((eW.new w 23 #[.pointer (some ⟨p.g,0,none⟩)]).cell 0) A n c w.heap.size xs hn (hr.alloc (af _) _) h32);have HB:=aa hb0;unfold HM.apn;generalize (xs.any fun o=> !h.apc o)=b at*;clear H f hr h32 hb0;unfold FR at HC;unfold ptr;go_enter Tryz.func187,Tryz.ntmps187;go_wp2_with fail;refine HC.o.mono ?_;rintro e w' ⟨rfl,rfl⟩;go_wp2_with fail;go_ret;exact⟨rfl,HB.o⟩
end
section
open Go.RowKit Go.Maps
attribute [local go_sem] ai
theorem zG:(Tryz.prog.info? 3).map (fun i=>(i.zero,i.size,i.bytes))=some (some (.int .i64 0),1,8):=by kernel_rfl
theorem fB {w w':World}{base:Nat}{e:TypeId}{v:Value}{n:Nat}{xs:List Value}(h:w.ownsRow base e 1 v n xs)(hs:∀ k,v.ownBlock=some k->w'.heap[k]? = w.heap[k]?):w'.ownsRow base e 1 v n xs:=by
 refine⟨h.1,?_⟩;rcases h.2 with h1|⟨g,cap,cur,h1,h2,h3,h4⟩
 .exact .inl h1
 .exact .inr ⟨g,cap,cur,h1,h2,(hs g (by rw[h1];rfl)).trans h3,h4⟩
theorem jh {w:World}{base base':Nat}{e e':TypeId}{v v':Value}{n n':Nat}{xs xs':List Value}(h:w.ownsRow base e 1 v n xs)(h':w.ownsRow base' e' 1 v' n' xs')(hne:e≠e'):∀ k,v.ownBlock=some k->v'.ownBlock≠some k:=by
 intro k hk p_;rcases h.2 with h1|⟨g,cap,cur,rfl,h2,h3,h4⟩
 .obtain⟨ha,hb⟩:=h1
  first
   | (rw[ha]at hk;simp[ae]at hk)
   | (rw[hb]at hk;simp[ae]at hk)
 .rcases h'.2 with h1|⟨g',cap',cur',rfl,h2',h3',h4'⟩
  .obtain⟨ha,hb⟩:=h1
   first
    | (rw[ha]at p_;simp[ae]at p_)
    | (rw[hb]at p_;simp[ae]at p_)
  .simp[ae]at hk p_;subst hk;subst p_;rw[h3]at h3';injection h3' with h3';injection h3' with _ h5;exact hne h5
def ol (l:List Nd):List Nat:=l.map (·.deep)
theorem Ra (l:List Nat):∀ u∈qh l,u.oneCell'=true:=by
 intro u hu;obtain⟨x,_,rfl⟩:=List.mem_map.1 hu;rfl
theorem eU {w:World}{base:Nat}{e t:TypeId}{v:Value}{n g:Nat}{xs:List Value}{cs:Array Value}(h:w.ownsRow base e 1 v n xs)(b:eW w g t cs)(hne:e≠t):v.ownBlock≠some g:=by
 intro hk;rcases h.2 with h1|⟨g',cap,cur,rfl,h2,h3,h4⟩
 .obtain⟨ha,hb⟩:=h1
  first
   | (rw[ha]at hk;simp[ae]at hk)
   | (rw[hb]at hk;simp[ae]at hk)
 .simp[ae]at hk;subst hk;unfold eW at b;rw[h3]at b;injection b with b;injection b with _ h5;exact hne h5
theorem fJ {w:World}{base b n':Nat}{e K:TypeId}{v:Value}{n:Nat}{xs:List Value}{f:Nat->Nat}{hs:Nat->Bool}(h:w.ownsRow base e 1 v n xs)(m:iV K w b n' f hs):v.ownBlock≠some b:=by
 intro hk;obtain⟨D,_,⟨es,clock,hb,r⟩,_⟩:=m;rcases h.2 with h1|⟨g',cap,cur,rfl,h2,h3,h4⟩
 .obtain⟨ha,hb⟩:=h1
  first
   | (rw[ha]at hk;simp[ae]at hk)
   | (rw[hb]at hk;simp[ae]at hk)
 .simp[ae]at hk;subst hk;rw[h3]at hb;injection hb with hb;cases hb
structure ra (w:World) (B gG mB:Nat) (hv vm vd:Value) (l:List Nd):Prop where
 box:eW w gG 227 #[hv,vm,.map (some mB),vd]
 met:w.ownsRow B 54 1 vm l.length (eN (eL l))
 deep:w.ownsRow B 3 1 vd l.length (qh (ol l))
 num:iV 54 w mB l.length (iZ l) (fun x=>decide (x∈eL l))
 hg:B<=gG
 hm:B<=mB
 hB:B<=w.heap.size
theorem ra.mB_ne {w:World}{B gG mB:Nat}{hv vm vd:Value}{l:List Nd}(G:ra w B gG mB hv vm vd l):gG≠mB:=by
 rintro rfl;obtain⟨D,_,⟨es,clock,hb,r⟩,_⟩:=G.num;have:=G.box;unfold eW at this;rw[this]at hb;injection hb with hb;cases hb
structure GStep (w w':World) (gG mB:Nat) (vm vd tx tv:Value):Prop where
 os:w'.os=w.os
 tape:w'.tape=w.tape
 output:w'.output=w.output
 size:w.heap.size<=w'.heap.size
 block:∀ k,k<w.heap.size->k≠gG->k≠mB->vm.ownBlock≠some k->vd.ownBlock≠some k->w'.heap[k]? = w.heap[k]?
 rm:∀ k,tx.ownBlock=some k->vm.ownBlock=some k\/w.heap.size<=k
 rd:∀ k,tv.ownBlock=some k->vd.ownBlock=some k\/w.heap.size<=k
theorem GStep.apa {w w':World}{gG mB:Nat}{vm vd:Value}(hb:Below w.heap.size w w'):GStep w w' gG mB vm vd vm vd:=
 ⟨hb.os,hb.tape,hb.output,hb.size,fun k hk _ _ _ _=>hb.block k hk,fun _ h=> .inl h,fun _ h=> .inl h⟩
theorem ra.below {w w':World}{B gG mB:Nat}{hv vm vd:Value}{l:List Nd}(G:ra w B gG mB hv vm vd l)(hb:Below w.heap.size w w'):ra w' B gG mB hv vm vd l:=
 ⟨G.box.below hb G.box.lt,fB G.met (fun k hk=>hb.block k (G.met.lt k hk).2),fB G.deep (fun k hk=>hb.block k (G.deep.lt k hk).2),G.num.below hb,G.hg,G.hm,au G.hB hb.size⟩
theorem G0:CA 225 54:=⟨Tryz.underlying225,Tryz.underlying54⟩
def Vl (B gG mB:Nat)(hv vm vd:Value)(l':List Nd)(o:Nat)(w:World)(e:Ending)(w':World):Prop:=
 e= .returned (.int .i64 (iZ l' o:Nat))/\∃ tx tv,ra w' B gG mB hv tx tv l'/\GStep w w' gG mB vm vd tx tv
theorem vF {w:World}{B gG mB:Nat}{hv vm vd:Value}{l:List Nd}(G:ra w B gG mB hv vm vd l)(hk2:∀ x∈eL l,eR x=2)(o:Nat)(ho:o<4294967296)(deep:Nat)(hd:deep<=9223372036854775807)(hl:l.length<=4000000)(par fld:Int):
 Calls Tryz.prog 189 #[.pointer (some ⟨gG,0,none⟩),.int .u32 o,.int .i64 deep] w (Vl B gG mB hv vm vd (fK l o par fld deep) o w):=by
 have HK:=aa (o8 o ho w);by_cases hk:eR o=2
 case neg=>
  have e2:((eR o:Int) != 2)=true:=by simp;omega
  have HF:=aa (show fK l o par fld deep=l/\iZ l o=0 from⟨jd (fun e=>hk e.1),by
   have h1:o∉eL l:=fun e=>hk (hk2 o e);unfold iZ;rw[if_neg h1]⟩)
  have HG:=aa G;clear hk G hk2;generalize eR o=k at*;go_enter Tryz.func189,Tryz.ntmps189;go_wp2_with fail;refine HK.o.mono ?_;rintro e w' ⟨rfl,rfl⟩;go_wp2_with fail;go_ret;exact⟨by rw[HF.o.1,HF.o.2];rfl,vm,vd,by rw[HF.o.1];exact HG.o,.apa (Below.refl _ _)⟩
 case pos=>
 rw[hk]at HK;have c1:=G.box.cell 1;have c2:=G.box.cell 2;have hlk:=G.num.look_ok G0 ho;by_cases hm:o∈eL l
 .have HF:=aa (show fK l o par fld deep=l from jd (fun e=>e.2 hm));rw[decide_eq_true hm]at hlk;have HG:=aa G;clear hk G hk2 hm;generalize hn:iZ l o=k at*;have HN:=aa hn;clear hn;go_enter Tryz.func189,Tryz.ntmps189;go_wp2_with fail;refine HK.o.mono ?_;rintro e w' ⟨rfl,rfl⟩;go_wp2_with fail;go_ret;exact⟨by rw[HF.o,HN.o];rfl,vm,vd,by rw[HF.o];exact HG.o,.apa (Below.refl _ _)⟩
 .have HF:=aa (py (l:=l) (p:=par) (f:=fld) (d:=deep) hk hm);rw[decide_eq_false hm]at hlk;have HNF:=aa (Q2 hm par fld deep);have HM:=aa hm;have z1:=G.box.frozen 1;obtain⟨i0,iF,hz0,hz1,hz2⟩:=info_parts lZ;obtain⟨i1,Ug,Y7,hj3,uF⟩:=info_parts zG;have hBs:=G.hB;have VI:=G.box.lt;have HG:=aa G;have Yx:=aa (jh G.met (show w.ownsRow B 3 1 vd l.length (qh (ol l)) from G.deep) (by decide));clear hk G hk2 hm;go_enter Tryz.func189,Tryz.ntmps189;go_wp2_with fail;refine HK.o.mono ?_;rintro e w' ⟨rfl,rfl⟩;have YS:=aa (eU HG.o.met HG.o.box (by decide));have Wp:=aa (eU HG.o.deep HG.o.box (by decide));have HVM:=aa (fJ HG.o.met HG.o.num);have HDM:=aa (fJ HG.o.deep HG.o.num);have Wx:=aa HG.o.mB_ne;have XS:∀ o:Obj,gG<(w.alloc o).heap.size:=fun o=>by simp;omega
  go_upto_region 7 with (at_builtin;refine eM _ rfl (.tmp 27) (.tmp 29) _ rfl B 54 i0 _ 1 4 Tryz.underlying101 iF hz0 hz1 hz2 rfl (by omega) vm l.length _ rfl (HG.o.met.alloc _) (w.heap.size+1) (some ⟨w.heap.size,0,none⟩) 1 1 (eN [o]) rfl ⟨rfl,fun _=>⟨_,rfl,by simp,cell_one_new _ _ _⟩⟩ (fU _) (by simp only[maxLen];omega) (by omega) (by simp;omega) ?_;intro v1 w5 fe hgrow j0;obtain⟨g5,c5,rfl,-,-,Ca⟩:=Row.apk fe (by omega);have k5:=(hgrow.cell_far ⟨gG,1,none⟩ (XS _) (by first|exact YS.o|exact fun e=>YS.o e.symm)).trans ((ax w _ ⟨gG,1,none⟩ VI).trans c1);have z5:=(hgrow.frozen_far ⟨gG,1,none⟩ (XS _) (by first|exact YS.o|exact fun e=>YS.o e.symm)).trans ((aw _ _ _ (by simp;omega)).trans z1))
  have lM:=aa (show ∀ k,k<w.heap.size->k≠gG->vm.ownBlock≠some k->(w5.setCell ⟨gG,1,none⟩ (.slice (some ⟨g5,0,none⟩) (l.length+1) c5)).heap[k]? = w.heap[k]? from fun k h1 h2 h3=>
   (Below.heap_setCell w5 ⟨gG,1,none⟩ _ k h2).trans ((hgrow.block k (by simp;omega) (fun e=>h3 e.symm)).trans (Below.heap_alloc w _ k h1)))
  have ww:=aa (fe);have hs5:w.heap.size<w5.heap.size:=by have:=hgrow.size;simp at this;omega
  have HE5:=aa (show w5.os=w.os/\w5.tape=w.tape/\w5.output=w.output from⟨hgrow.os,hgrow.tape,hgrow.output⟩);have Zn:=aa (show vm.ownBlock=some g5\/w.heap.size<=g5 by
   rcases j0 with e|e
   .left;rw[<-e];rfl
   .right;simp[ae]at e;omega)
  have lQ:=aa (show eW (w5.setCell ⟨gG,1,none⟩ (.slice (some ⟨g5,0,none⟩) (l.length+1) c5)) gG 227 #[hv,.slice (some ⟨g5,0,none⟩) (l.length+1) c5,.map (some mB),vd] from (HG.o.box.same ((hgrow.block gG (XS _) (fun e=>YS.o e.symm)).trans (Below.heap_alloc w _ gG VI))).apg 1 _);have YL:=aa (show g5≠gG from by
   rcases Zn.o with e|e
   .intro e2;subst e2;exact YS.o e
   .omega)
  clear hgrow j0 k5 z5 c1 c2 z1 hlk iF hz0 hz1 hz2;have Tp:=aa (fB ww.o (w':=w5.setCell ⟨gG,1,none⟩ (.slice (some ⟨g5,0,none⟩) (l.length+1) c5)) (fun k hk=>Below.heap_setCell w5 ⟨gG,1,none⟩ _ k (by simp[ae]at hk;subst hk;exact YL.o)));have hs6:w.heap.size<(w5.setCell ⟨gG,1,none⟩ (.slice (some ⟨g5,0,none⟩) (l.length+1) c5)).heap.size:=by simp[aB];exact hs5
  have HE6:=aa (show (w5.setCell ⟨gG,1,none⟩ (.slice (some ⟨g5,0,none⟩) (l.length+1) c5)).os=w.os/\(w5.setCell ⟨gG,1,none⟩ (.slice (some ⟨g5,0,none⟩) (l.length+1) c5)).tape=w.tape/\(w5.setCell ⟨gG,1,none⟩ (.slice (some ⟨g5,0,none⟩) (l.length+1) c5)).output=w.output from HE5.o);generalize w5.setCell ⟨gG,1,none⟩ (.slice (some ⟨g5,0,none⟩) (l.length+1) c5)=W6 at*;clear ww HE5 hs5 fe;have LG:=aa (fB HG.o.deep (w':=W6) (fun k hk=>lM.o k (HG.o.deep.lt k hk).2 (fun e=>Wp.o (by rw[<-e];exact hk)) (fun e=>Yx.o k e hk)));have YI:=aa (HG.o.num.same (w':=W6) (lM.o mB HG.o.num.lt (fun e=>Wx.o e.symm) HVM.o));have c3:=lQ.o.cell 3;have z3:=lQ.o.frozen 3;have XR:gG<W6.heap.size:=lQ.o.lt;have Uc:∀ o:Obj,gG<(W6.alloc o).heap.size:=fun o=>by simp;omega
  have Oo:B<=W6.heap.size:=by omega
  go_upto_region 8 with (at_builtin;refine eM _ rfl (.tmp 37) (.tmp 39) _ rfl B 3 i1 _ 1 8 Tryz.underlying211 Ug Y7 hj3 uF rfl (by omega) vd l.length _ rfl (LG.o.alloc _) (W6.heap.size+1) (some ⟨W6.heap.size,0,none⟩) 1 1 (qh [deep]) rfl ⟨rfl,fun _=>⟨_,rfl,by simp,cell_one_new _ _ _⟩⟩ (Ra _) (by simp only[maxLen];omega) (by omega) (by simp;omega) ?_;intro v2 w7 ia hgrow PZ;obtain⟨g7,c7,rfl,-,-,amA⟩:=Row.apk ia (by omega);have k7:=(hgrow.cell_far ⟨gG,3,none⟩ (Uc _) (by first|exact Wp.o|exact fun e=>Wp.o e.symm)).trans ((ax W6 _ ⟨gG,3,none⟩ XR).trans c3);have z7:=(hgrow.frozen_far ⟨gG,3,none⟩ (Uc _) (by first|exact Wp.o|exact fun e=>Wp.o e.symm)).trans ((aw _ _ _ (by simp;omega)).trans z3))
  have mG:=aa (show ∀ k,k<w.heap.size->k≠gG->vm.ownBlock≠some k->vd.ownBlock≠some k->(w7.setCell ⟨gG,3,none⟩ (.slice (some ⟨g7,0,none⟩) (l.length+1) c7)).heap[k]? = w.heap[k]? from fun k h1 h2 h3 h4=>
   (Below.heap_setCell w7 ⟨gG,3,none⟩ _ k h2).trans ((hgrow.block k (by simp;omega) (fun e=>h4 e.symm)).trans ((Below.heap_alloc W6 _ k (by omega)).trans (lM.o k h1 h2 h3))))
  have hs7:w.heap.size<w7.heap.size:=by have:=hgrow.size;simp at this;omega
  have SS:=aa (show vd.ownBlock=some g7\/w.heap.size<=g7 by
   rcases PZ with e|e
   .left;rw[<-e];rfl
   .right;simp[ae]at e;omega)
  have HN7:=aa (show g7≠gG from by
   rcases SS.o with e|e
   .intro e2;subst e2;exact Wp.o e
   .omega)
  have LD:=aa (show eW (w7.setCell ⟨gG,3,none⟩ (.slice (some ⟨g7,0,none⟩) (l.length+1) c7)) gG 227 #[hv,.slice (some ⟨g5,0,none⟩) (l.length+1) c5,.map (some mB),.slice (some ⟨g7,0,none⟩) (l.length+1) c7] from (lQ.o.same ((hgrow.block gG (Uc _) (fun e=>Wp.o e.symm)).trans (Below.heap_alloc W6 _ gG XR))).apg 3 _);have aaE:=jh Tp.o LG.o (by decide);have agR:g5<W6.heap.size:=(Tp.o.lt g5 rfl).2;have IG:=aa (fB Tp.o (w':=w7.setCell ⟨gG,3,none⟩ (.slice (some ⟨g7,0,none⟩) (l.length+1) c7)) (fun k hk=>by
   simp[ae]at hk;subst hk;exact (Below.heap_setCell w7 ⟨gG,3,none⟩ _ g5 YL.o).trans ((hgrow.block g5 (by simp;omega) (fun e=>aaE g5 rfl e.symm)).trans (Below.heap_alloc W6 _ g5 agR))))
  have HD8:=aa (fB ia (w':=w7.setCell ⟨gG,3,none⟩ (.slice (some ⟨g7,0,none⟩) (l.length+1) c7)) (fun k hk=>Below.heap_setCell w7 ⟨gG,3,none⟩ _ k (by simp[ae]at hk;subst hk;exact HN7.o)));have hm6:mB<W6.heap.size:=YI.o.lt;have yx:=aa (YI.o.same (w':=w7.setCell ⟨gG,3,none⟩ (.slice (some ⟨g7,0,none⟩) (l.length+1) c7)) ((Below.heap_setCell w7 ⟨gG,3,none⟩ _ mB (fun e=>Wx.o e.symm)).trans ((hgrow.block mB (by simp;omega) (fun e=>HDM.o e.symm)).trans (Below.heap_alloc W6 _ mB hm6))));have hs8:w.heap.size<(w7.setCell ⟨gG,3,none⟩ (.slice (some ⟨g7,0,none⟩) (l.length+1) c7)).heap.size:=by simp[aB];exact hs7
  have HE8:=aa (show (w7.setCell ⟨gG,3,none⟩ (.slice (some ⟨g7,0,none⟩) (l.length+1) c7)).os=w.os/\(w7.setCell ⟨gG,3,none⟩ (.slice (some ⟨g7,0,none⟩) (l.length+1) c7)).tape=w.tape/\(w7.setCell ⟨gG,3,none⟩ (.slice (some ⟨g7,0,none⟩) (l.length+1) c7)).output=w.output from
   ⟨hgrow.os.trans HE6.o.1,hgrow.tape.trans HE6.o.2.1,hgrow.output.trans HE6.o.2.2⟩)
  generalize w7.setCell ⟨gG,3,none⟩ (.slice (some ⟨g7,0,none⟩) (l.length+1) c7)=W8 at*;clear hgrow PZ k7 z7 c3 z3 ia Ug Y7 hj3 uF lM lQ Tp LG YI HE6 aaE XR Uc hs7 hm6;obtain⟨W9,CX,Ko,yC⟩:=(show iV 54 W8.drew mB l.length (iZ l) (fun x=>decide (x∈eL l)) from yx.o).put G0 (x:=o) (v:=l.length+1) ho (by omega) (by omega);have Bu:=aa (show eW W9 gG 227 #[hv,.slice (some ⟨g5,0,none⟩) (l.length+1) c5,.map (some mB),.slice (some ⟨g7,0,none⟩) (l.length+1) c7] from LD.o.drew.same (yC.block gG LD.o.lt (fun e=>Wx.o (by injection e))));have c1:=LD.o.cell 1;have c2:=LD.o.cell 2;have c9:=Bu.o.cell 1;have anh:(Instr.mapUpdate 225 (.map (some mB)) (.int .u32 (o:Int)) (.int .i64 ((l.length:Int)+1))).run Tryz.prog W8.drew= .ok () W9:=by
   have:=CX;rw[show (((l.length+1:Nat)):Int)=(l.length:Int)+1 by omega]at this;exact this
  have BL:=aa (fB IG.o (w':=W9) (fun k hk=>yC.block k (IG.o.lt k hk).2 (fun e=>fJ IG.o yx.o (by injection e with e;rw[<-e];exact hk))));have HD9:=aa (fB HD8.o (w':=W9) (fun k hk=>yC.block k (HD8.o.lt k hk).2 (fun e=>fJ HD8.o yx.o (by injection e with e;rw[<-e];exact hk))));have hs9:w.heap.size<=W9.heap.size:=by have h1:=yC.size;have h2:W8.drew.heap.size=W8.heap.size:=rfl;omega
  have gN:=aa (show Vl B gG mB hv vm vd (fK l o par fld deep) o w (.returned (.int .i64 ((l.length:Int)+1))) W9 from by
   rw[HF.o]
   refine⟨by rw[HNF.o];unfold upd;rw[if_pos rfl];rw[show (((l.length+1:Nat)):Int)=(l.length:Int)+1 by omega],_,_,⟨Bu.o,?_,?_,?_,HG.o.hg,HG.o.hm,by omega⟩,
    ⟨yC.os.trans HE8.o.1,yC.tape.trans HE8.o.2.1,yC.output.trans HE8.o.2.2,hs9,fun k h1 h2 h3 h4 h5=>(yC.block k (show k<W8.heap.size by omega) (fun e=>h3 (by injection e))).trans (mG.o k h1 h2 h4 h5),?_,?_⟩⟩
   .have:=BL.o;rw[show eN (eL (l++[⟨o,par,fld,deep⟩]))=eN (eL l)++eN [o] by simp[eL,eN],aj];exact this
   .have:=HD9.o;rw[show qh (ol (l++[⟨o,par,fld,deep⟩]))=qh (ol l)++qh [deep] by simp[ol,qh],aj];exact this
   .rw[aj,HNF.o];refine Ko.ext (fun x=>rfl) (fun x=>?_);by_cases hx:x=o
    .subst hx;simp[eL]
    .simp[eL,hx]
   .intro k hk;simp[ae]at hk;subst hk;exact Zn.o
   .intro k hk;simp[ae]at hk;subst hk;exact SS.o)
  clear CX Ko yC
  go_region
  all_goals go_wp2_with fail
  all_goals go_ret
  all_goals exact gN.o
end
section
open Go.RowKit
attribute [local go_sem] ai
theorem n_ (z:Int):ak.wrap z=z%18446744073709551616:=by
 unfold IntKind.wrap;simp[IntKind.signed,show ak.bits=64 from rfl]
end
section
open Go.RowKit Go.Maps
attribute [local go_sem] ai
def SJ (n:Int):Nat:=(2*(if 0<=n then 2*n else -2*n-1)+1).toNat
def ja (l:List Nd)(o:Nat):Nat:=if eR o=0 then 0 else if eR o=2 then 2*iZ l o else SJ (gF o)
theorem sV {n:Int}(h:0<=n):(SJ n:Int)=2*(2*n)+1:=by unfold SJ;rw[if_pos h];omega
theorem sU {n:Int}(h:¬ 0<=n):(SJ n:Int)=2*(-2*n-1)+1:=by unfold SJ;rw[if_neg h];omega
theorem EU (l:List Nd)(o:Nat)(ho:o<4294967296)(hl:l.length<=4000000):ja l o<8589934592:=by
 unfold ja;have h1:=sN o ho;have h2:=sM o ho;have h3:=yF l o;split
 .omega
 .split
  .omega
  .by_cases h:0<=gF o
   .have:=sV h;omega
   .have:=sU h;omega
theorem tK {w:World}{B gG mB:Nat}{hv vm vd:Value}{l:List Nd}(G:ra w B gG mB hv vm vd l)(o:Nat)(ho:o<4294967296)(hl:l.length<=4000000):
 Calls Tryz.prog 134 #[.pointer (some ⟨gG,0,none⟩),.int .u32 o] w (Fq (.int .u64 (ja l o:Nat)) w):=by
 have HK:=aa (o8 o ho w);by_cases KX:eR o=0
 .have HF:=aa (show ja l o=0 by unfold ja;rw[if_pos KX]);rw[KX]at HK;clear KX G;go_enter Tryz.func134,Tryz.ntmps134;go_wp2_with fail;refine HK.o.mono ?_;rintro e w' ⟨rfl,rfl⟩;go_wp2_with fail;go_ret;exact⟨by rw[HF.o];rfl,rfl⟩
 .by_cases hk2:eR o=2
  .have HF:=aa (show (ja l o:Int)=2*(iZ l o:Int) by unfold ja;rw[if_neg KX,if_pos hk2];omega);rw[hk2]at HK;have c2:=G.box.cell 2;have hlk:=G.num.is.look G0 ho;have wA:=yF l o;clear KX hk2 G;generalize iZ l o=k at*;go_enter Tryz.func134,Tryz.ntmps134;go_wp2_with fail;refine HK.o.mono ?_;rintro e w' ⟨rfl,rfl⟩;go_wp2_with fail;go_ret;exact⟨by rw[HF.o];rfl,rfl⟩
  .have XX:eR o=1:=(by have:=(show eR o=0\/eR o=1\/eR o=2 by unfold eR;split <;> (try split) <;> simp);omega);have HZ:=aa (show (ja l o:Nat)=SJ (gF o) by unfold ja;rw[if_neg KX,if_neg hk2]);rw[XX]at HK;have HV:=aa (CC o ho (by unfold eR at XX;split at XX <;> (try split at XX) <;> simp_all) w);have h1:=sN o ho;have h2:=sM o ho;clear KX XX hk2 G;generalize gF o=n at*;by_cases hn:0<=n
   .have hd:decide (0<=n)=true:=(by simpa using hn);have HF:=aa (sV hn);have HW:=aa (show ak.wrap (ak.wrap (2*ak.wrap (2*n))+1)=2*(2*n)+1 by simp only[n_];omega);clear hn;go_enter Tryz.func134,Tryz.ntmps134;go_wp2_with fail;refine HK.o.mono ?_;rintro e w' ⟨rfl,rfl⟩;go_wp2_with fail;refine HV.o.mono ?_;rintro e w' ⟨rfl,rfl⟩;go_wp2_with fail;go_ret;exact⟨by rw[HZ.o,HF.o,<-HW.o];rfl,rfl⟩
   .have hd:decide (0<=n)=false:=(by simpa using hn);have HF:=aa (sU hn);have HW:=aa (show ak.wrap (ak.wrap (2*ak.wrap (-2*n-1))+1)=2*(-2*n-1)+1 by simp only[n_];omega);clear hn;go_enter Tryz.func134,Tryz.ntmps134;go_wp2_with fail;refine HK.o.mono ?_;rintro e w' ⟨rfl,rfl⟩;go_wp2_with fail;refine HV.o.mono ?_;rintro e w' ⟨rfl,rfl⟩;go_wp2_with fail;go_ret;exact⟨by rw[HZ.o,HF.o,<-HW.o];rfl,rfl⟩
theorem ze:∀ (k x:Nat),x<128 ^ (k+1)->(fq x).length<=k+1
 | 0,x,h=>by rw[gR (by simpa using h)];simp
 | k+1,x,h=>by
   by_cases hx:x<128
   .rw[gR hx];simp
   .rw[jO hx];have:=ze k (x/128) (by rw[Nat.div_lt_iff_lt_mul (by omega)];rw[Nat.pow_succ]at h;exact h);simp;omega
theorem zf {x:Nat}(h:x<18446744073709551616):(fq x).length<=10:=by
 have e:(128:Nat) ^ (9+1)=1180591620717411303424:=by decide
 exact ze 9 x (by rw[e];omega)
structure fG (w w':World) (v v':Value):Prop where
 g:w.grownBy w' v.ownBlock
 at_:∀ k,v'.ownBlock=some k->v.ownBlock=some k\/w.heap.size<=k
theorem fG.refl (w:World)(v:Value):fG w w v v:=⟨World.grownBy.refl w _,fun _ h=> .inl h⟩
theorem fG.size {w w':World}{v v':Value}(h:fG w w' v v'):w.heap.size<=w'.heap.size:=h.g.size
theorem fG.trans {a b c:World}{u v x:Value}(h:fG a b u v)(h':fG b c v x):fG a c u x:=by
 refine⟨⟨h'.g.os.trans h.g.os,h'.g.tape.trans h.g.tape,h'.g.output.trans h.g.output,au h.g.size h'.g.size,fun k hk hn=>?_⟩,fun k hk=>?_⟩
 .refine (h'.g.block k (by have:=h.g.size;omega) (fun e=>?_)).trans (h.g.block k hk hn);rcases h.at_ k e.symm with e'|e'
  .exact hn e'.symm
  .omega
 .rcases h'.at_ k hk with e|e
  .exact h.at_ k e
  .right;have:=h.g.size;omega
theorem fG.below {a b c:World}{u v:Value}(h:fG a b u v)(hb:Below b.heap.size b c):fG a c u v:=
 h.trans ⟨⟨hb.os,hb.tape,hb.output,hb.size,fun k hk _=>hb.block k hk⟩,fun _ e=> .inl e⟩
theorem fG.of {a b:World}{u v:Value}(hg:a.grownBy b u.ownBlock)(ha:v.ownBlock=u.ownBlock\/v.ownBlock=some a.heap.size):fG a b u v:=
 ⟨hg,fun k hk=>by
  rcases ha with e|e
  .exact .inl (e ▸ hk)
  .rw[e]at hk;injection hk with hk;exact .inr (by omega)⟩
def SQ (B:Nat)(v:Value)(bs:List Nat)(x:Nat)(w:World)(e:Ending)(w':World):Prop:=
 ∃ v',e= .returned v'/\w'.ownsRow B 5 1 v' (bs++fq x).length (fP (bs++fq x))/\fG w w' v v'
theorem Nf (m:Nat):bits .or .u8 ((m:Int)%256) 128=((m%128+128:Nat):Int):=by
 have h:∀ a:Fin 256,(a.val ||| 128)=a.val%128+128:=by decide
 have h1:=u8_or_nat (m%256) 128 (by omega) (by omega);rw[h ⟨m%256,by omega⟩]at h1;simp only at h1;rw[show ((m:Int)%256)=((m%256:Nat):Int) by omega,show (128:Int)=((128:Nat):Int) from rfl,h1];congr 1;omega
theorem lu {w:World}{B n:Nat}{v:Value}{bs:List Nat}(hown:w.ownsRow B 5 1 v n (fP bs))(A:Option Addr)(c x:Nat)(hn:n<=100000000000000)(hr:eQ w w.heap.size 1 A 1 [.int .u64 x])(hx:x<18446744073709551616)(hB:B<=w.heap.size):
 Calls Tryz.prog 133 #[v,.slice A 1 c] w (SQ B v bs x w):=by
 have hl:bs.length=n:=by have:=hown.1;simpa[fP] using this
 have HO:=aa (show w.ownsRow B 5 1 v bs.length (fP bs) from hl ▸ hown);have abA:=zf hx;obtain⟨ad,u0,rfl,_,hgx,hcell⟩:=hr.at_ (k:=0) (by omega);have HR:=aa hr;replace hcell:w.cell? ad=some u0:=hcell;have hu:u0= .int .u64 (x:Int):=by simpa using hgx.symm
 subst hu;obtain⟨i0,iF,hz0,hz1,hz2⟩:=info_parts kW;clear hown hgx hr;go_enter Tryz.func133,Tryz.ntmps133;go_wp2_with fail
 go_loopw [0,6,9] (fun b y i wr=>(i= .int .i64 0/\v=b/\wr.ownsRow B 5 1 b bs.length (fP bs)/\wr.cell? ad=some (.int .u64 x)/\fG w wr v b)\/(i= .int .i64 1/\wr.ownsRow B 5 1 b (bs++fq x).length (fP (bs++fq x))/\fG w wr v b)) (fun _ _ i _=>1-(intOf i).toNat)
 case atStart=>exact .inl ⟨rfl,rfl,HO.o,hcell,.refl _ _⟩
 case round=>
  clear hcell HO;rcases hrel with ⟨rfl,rfl,hown,hcell,hgr⟩|⟨rfl,hown,hgr⟩
  .have HOW:=aa hown;have Cu:=aa hgr;clear hown hgr;go_wp2_with fail;clear hcell
   go_loopw [0,6] (fun b y wr=>∃ m gJ,y= .int .u64 (m:Nat)/\m<18446744073709551616/\gJ++fq m=bs++fq x/\wr.ownsRow B 5 1 b (gJ:List Nat).length (fP gJ)/\fG w wr v b) (fun _ y _=>(intOf y).toNat)
   case atStart=>exact⟨x,bs,rfl,by omega,rfl,HOW.o,Cu.o⟩
   case round=>
    clear HOW Cu;obtain⟨m,gJ,rfl,hm,P9,hown,hgr⟩:=hrel;have HOW:=aa hown;have Cu:=aa hgr;have D_:=aa P9;clear hown hgr P9;have hBw:B<=wr.heap.size:=au hB Cu.o.size;by_cases h128:m<128
    .have hbl:gJ.length<=bs.length+10:=(by have:=congrArg aD D_.o;simp at this;omega);have hd:decide (128<=(m:Int))=false:=(by simp;omega);have hm8:((m:Int)%256)=(m:Int):=(by omega);have xr:=aa (show bs++fq x=gJ++[m] by rw[<-D_.o,gR h128]);clear h128 hm;go_wp2_with (at_builtin;refine eM _ rfl (.tmp 23) (.tmp 26) _ rfl B 5 i0 _ 1 1 Tryz.underlying22 iF hz0 hz1 hz2 rfl (by omega) u0 gJ.length _ rfl (HOW.o.alloc _) (wr.heap.size+1) (some ⟨wr.heap.size,0,none⟩) 1 1 (fP [m]) rfl ⟨rfl,fun _=>⟨_,rfl,by simp,cell_one_new _ _ _⟩⟩ (kX _) (by simp only[maxLen];omega) (by omega) (by simp;omega) ?_;intro v1 w5 fe hgrow j0);go_roundw
     case rel=>
      refine .inr ⟨by go_num,?_,?_⟩
      .rw[xr.o];unfold fP at fe ⊢;rw[ay,aj];exact fe
      .exact (Cu.o.below ((Below.refl _ wr).alloc (af _) _)).trans (.of hgrow j0)
     case measure=>simp[intOf]
    .have hbl:gJ.length+1<=bs.length+10:=(by have:=congrArg aD D_.o;rw[jO h128]at this;simp at this;omega);have hd:decide (128<=(m:Int))=true:=(by simp;omega);have Ow:=Nf m;have xr:=aa (show (gJ++[m%128+128])++fq (m/128)=bs++fq x by rw[<-D_.o,jO h128];simp);have HD:=aa (show m/128<18446744073709551616/\m/128<m by omega);clear h128 hm;go_wp2_with (at_builtin;refine eM _ rfl (.tmp 15) (.tmp 19) _ rfl B 5 i0 _ 1 1 Tryz.underlying22 iF hz0 hz1 hz2 rfl (by omega) u0 gJ.length _ rfl (HOW.o.alloc _) (wr.heap.size+1) (some ⟨wr.heap.size,0,none⟩) 1 1 (fP [m%128+128]) rfl ⟨rfl,fun _=>⟨_,rfl,by simp,cell_one_new _ _ _⟩⟩ (kX _) (by simp only[maxLen];omega) (by omega) (by simp;omega) ?_;intro v1 w5 fe hgrow j0);go_roundw
     case rel=>
      refine⟨m/128,gJ++[m%128+128],by go_num,HD.o.1,xr.o,?_,(Cu.o.below ((Below.refl _ wr).alloc (af _) _)).trans (.of hgrow j0)⟩;unfold fP at fe ⊢;rw[ay,aj];exact fe
     case measure=>have:=HD.o.2;simp[intOf];omega
  .have HOW:=aa hown;have Cu:=aa hgr;clear hown hgr;go_wp2_with fail;go_ret;exact⟨_,rfl,HOW.o,Cu.o⟩
end
section
open Go.RowKit
attribute [local go_sem] ai
def jE (l:List Int):List Value:=l.map (.int .i64 ·)
theorem jf (l:List Int):(jE l).length=l.length:=by simp[jE]
theorem Gw {l:List Int}{k:Nat}(h:k<l.length):(jE l)[k]? = some (.int .i64 (l.getD k 0)):=by
 unfold jE;rw[List.getElem?_map,ar h,aq,ar h];rfl
end
end Go.Proofs.YtlkahgagmfhdaaaGreatDoor
