import Derived.Test.YtlkahgagmfhdaaaGreatDoorJISec
import Derived.Laws.EntriesVeiled
set_option linter.unusedVariables false
set_option linter.unusedSimpArgs false
set_option linter.unusedSectionVars false
open List renaming setIfInBounds_toArray→ae,set_cons_zero→af,set_cons_succ→ag,getElem?_eq_getElem→ah,getD_eq_getElem?_getD→ai,range→aq,length_append→aw,take_add_one→ax,length_map→ay,map_append→az,eq_nil_of_length_eq_zero→aA,length_take→aC,getElem_mem→aD,getElem?_map→aF,length_cons→aH,mem_of_mem_take→aI,map_cons→aK,mem_cons→aL,append_assoc→aM,take_of_length_le→aN,any_append→aQ,take_length→aU,mem_map→aV,mem_of_mem_drop→aW,mem_cons_of_mem→aX,mem_map_of_mem→aZ,mem_singleton→bg,mem_cons_self→bk,length_range→bn,mem_append→bu,range_succ→bv,sum_cons→bw
open Nat renaming le_refl→aj,le_trans→ar,zero_le→aB,eq_zero_or_pos→bi,mod_eq_of_lt→br,zero_add→bz,le_of_lt→bD
open Go.Act renaming put→ak
open Go.World renaming cell?_of_block→au,size_alloc→aJ,setCell→aT,ownsRow→aY
open Go.IntWalk renaming i64_in→aG
open Go.IntKind renaming i64→aO
open Go.Oper renaming semAt_some→aP
open Go.WideShapes renaming add_plain→aR
open Go.Calls renaming quiet_of→aS,quiet_of_same→a8
open UInt8 renaming toNat_ofNat'→bj,ofNat→bp
open Bool renaming and_eq_true→bq,or_eq_true→bt
set_option maxRecDepth 100000
set_option maxHeartbeats 8000000
namespace Go.Proofs.YtlkahgagmfhdaaaGreatDoor
section
open Go.RowKit
attribute [local go_sem] aP
def yl (ver:Nat)(last:Nat)(vw vr:Value):Value:=.agg #[.int .i64 ver,.int .i64 0,.int .u32 last,vw,vr]
def afP (g:Nat)(i:ye)(size:Nat)(w:World)(e:Ending)(w':World):Prop:=
 kw g w w'/\(if size<fL i.ts then e= .returned (.tuple #[yl 0 0 (.slice none 0 0) (.slice none 0 0),.int .i64 4])
  else if i.apm=true then e= .returned (.tuple #[yl 0 0 (.slice none 0 0) (.slice none 0 0),.int .i64 145])
  else ∃ (A1 A2:Option Addr) (c1 c2:Nat),e= .returned (.tuple #[yl 2 i.last (.slice A1 i.words.length c1) (.slice A2 i.roots.length c2),.int .i64 0])/\
   eQ w' w'.heap.size 1 A1 i.words.length (eN i.words)/\eQ w' w'.heap.size 1 A2 i.roots.length (eN i.roots)/\∀ a,A1=some a\/A2=some a->w.heap.size<=a.block)
theorem EP {ts:List Th}(h:∀ t∈ts,t.x.size<=65535):fL ts<=1+ts.length*65538:=by
 induction ts with
 | nil=>simp[fL]
 | cons a ts ih=>
   have h1:=h a (by simp);have h2:=ih (fun t ht=>h t (by simp[ht]));unfold fL at*;simp only[aK,bw,aH]at*;omega
theorem x9 (ts l:List Th)(h:∀ t∈l,t.Ok):(0 :: fV (l.map (mz ts))).length=fL l:=by
 induction l with
 | nil=>rfl
 | cons t l ih=>
   have h1:=ih (fun x hx=>h x (by simp[hx]));have h2:=(h t (by simp)).size;have h3:(mz ts t).fs.length=t.fs.length:=(by unfold mz;simp only;split <;> simp);unfold fL at*;rw[aK,fD,aH,aw,Ob.apt,h3,aK,bw];rw[aH]at h1;omega
theorem Xv {w W:World}{rg g:Nat}(h:kw rg W w)(hB:W.heap.size<=g)(a' b' c' d' e':Value):kw rg W (((((w.setCell ⟨g,0,none⟩ a').setCell ⟨g,1,none⟩ b').setCell ⟨g,2,none⟩ c').setCell ⟨g,3,none⟩ d').setCell ⟨g,4,none⟩ e'):=by
 have h1:∀ (V:World) (i:Nat) (v:Value),kw rg W V->kw rg W (V.setCell ⟨g,i,none⟩ v):=fun V i v F=>⟨F.os,F.tape,F.output,by have:=F.size;simp[aT];exact this,fun k hk hne=>(Below.heap_setCell V ⟨g,i,none⟩ v k (by show k≠g;omega)).trans (F.same k hk hne)⟩;exact h1 _ _ _ (h1 _ _ _ (h1 _ _ _ (h1 _ _ _ (h1 _ _ _ h))))
theorem hZ {w W:World}{B g:Nat}(h:Below B W w)(hB:B<=g)(a' b' c' d' e':Value):Below B W (((((w.setCell ⟨g,0,none⟩ a').setCell ⟨g,1,none⟩ b').setCell ⟨g,2,none⟩ c').setCell ⟨g,3,none⟩ d').setCell ⟨g,4,none⟩ e'):=
 ((((h.setCell (p:=⟨g,0,none⟩) hB a').setCell (p:=⟨g,1,none⟩) hB b').setCell (p:=⟨g,2,none⟩) hB c').setCell (p:=⟨g,3,none⟩) hB d').setCell (p:=⟨g,4,none⟩) hB e'
theorem QF {w:World}{Bg g c nr cr last size:Nat}{A Ar:Option Addr}{us:List Wr}{rts:List Nat}(hs:eX w)(hsp:0<Bg)(hB:Bg<=g)(hg:g<w.heap.size)(hA:0<us.length->A=some ⟨g,0,none⟩/\BU w g us)(hlen:us.length<=9000000)
 (hok:∀ t∈us.map Wr.th,t.Ok)(uD:Sw w w.heap.size g us)(hr:eQ w w.heap.size 1 Ar nr (eN rts))(hrg:∀ a,Ar=some a->a.block≠g)(Qx:∀ r∈rts,r<4294967296)(Za:nr=64)(hsize:size<=1048576)(tF:last<4294967296):
 Calls Tryz.prog 199 #[yl 2 last (.slice none 0 0) (.slice none 0 0),.slice A us.length c,.slice Ar nr cr,.int .i64 size] w (afP g ⟨us.map Wr.th,rts,last⟩ size w):=by
 have jv:∀ k,fL ((us.map Wr.th).take k)<=600000000000:=fun k=>by
  have:=EP (ts:=(us.map Wr.th).take k) (fun t ht=>by
   have hm:=(hok t (aI ht)).may;unfold Hd.may at hm;simp at hm;omega)
  rw[aC,ay]at this;have h2:min k us.length*65538<=9000000*65538:=Nat.mul_le_mul_right _ (by omega);omega
 have yT:=aa hok;have OW:=aa uD;have Im:=aa hr;have HRG:=aa hrg;have WU:=aa Qx;clear hok uD hr hrg Qx;unfold yl;go_enter Tryz.func199,Tryz.ntmps199;go_wp2_with fail;have b4:=((eW.new w 130 #[.int .i64 ((2:Nat):Int),.int .i64 0,.int .u32 last,.slice none 0 0,.slice none 0 0]).alloc (.cells #[.slice A us.length c] 301)).alloc (.cells #[.int .i64 0,.int .i64 0,.int .u32 0,.slice none 0 0,.slice none 0 0] 130);have b5:=(eW.new (w.alloc (.cells #[.int .i64 ((2:Nat):Int),.int .i64 0,.int .u32 last,.slice none 0 0,.slice none 0 0] 130)) 301 #[.slice A us.length c]).alloc (.cells #[.int .i64 0,.int .i64 0,.int .u32 0,.slice none 0 0,.slice none 0 0] 130);have b8:=eW.new ((w.alloc (.cells #[.int .i64 ((2:Nat):Int),.int .i64 0,.int .u32 last,.slice none 0 0,.slice none 0 0] 130)).alloc (.cells #[.slice A us.length c] 301)) 130 #[.int .i64 0,.int .i64 0,.int .u32 0,.slice none 0 0,.slice none 0 0];rw[aJ]at b5;rw[aJ,aJ]at b8
 have hb0:Below w.heap.size w (((w.alloc (.cells #[.int .i64 ((2:Nat):Int),.int .i64 0,.int .u32 last,.slice none 0 0,.slice none 0 0] 130)).alloc (.cells #[.slice A us.length c] 301)).alloc (.cells #[.int .i64 0,.int .i64 0,.int .u32 0,.slice none 0 0,.slice none 0 0] 130)):=
  (((Below.refl _ w).alloc (aj _) _).alloc (by simp) _).alloc (by simp;omega) _
 have hsz:(((w.alloc (.cells #[.int .i64 ((2:Nat):Int),.int .i64 0,.int .u32 last,.slice none 0 0,.slice none 0 0] 130)).alloc (.cells #[.slice A us.length c] 301)).alloc (.cells #[.int .i64 0,.int .i64 0,.int .u32 0,.slice none 0 0,.slice none 0 0] 130)).heap.size=w.heap.size+3:=by simp
 have HW:=aa (fun h=>(hA h).2.same (hb0.block g hg));have j8:=aa hb0;have yM:=aa b4;have jL:=aa b5;have LD:=aa b8;have HA:=aa (fun h=>(hA h).1);clear b4 b5 b8 hb0 hA;generalize (((w.alloc (.cells #[.int .i64 ((2:Nat):Int),.int .i64 0,.int .u32 last,.slice none 0 0,.slice none 0 0] 130)).alloc (.cells #[.slice A us.length c] 301)).alloc (.cells #[.int .i64 0,.int .i64 0,.int .u32 0,.slice none 0 0,.slice none 0 0] 130))=W0 at*
 go_loopw [10,25] (fun a i wr=>∃ k:Nat,i= .int .i64 k/\k<=us.length/\a= .int .i64 (fL ((us.map Wr.th).take k):Nat)/\kw g W0 wr/\(0<us.length->BU wr g (wB us k))) (fun _ i _=>us.length-(intOf i).toNat)
 case atStart=>exact⟨0,rfl,aB _,rfl,kw.refl _ _,fun h=>by rw[RZ];exact HW.o h⟩
 case round=>
  clear HW;obtain⟨k,rfl,hk,rfl,F,hW⟩:=hrel;have HF:=aa F;have n5:w.heap.size+1≠g:=by omega
  have q5:=(jL.o.fr1 F n5).cell 0;by_cases hkn:k<us.length
  .have hd:decide ((k:Int)<(us.length:Int))=true:=(by simp;omega);have Uh:(k:Int)<(us.length:Int):=(by omega);have HWk:=aa (hW (by omega));have hA0:=HA.o (by omega);subst hA0;have Gb:=jv k;have hpc:=HWk.o.cell (i:=k) (j:=7) (u:=.int .i64 ((wB us k).getD k default).pl) (by rw[ld];exact hkn) (by omega) rfl;have hpz:=HWk.o.frozen (k*8+7);have wE:=aa (show BU (wr.setCell ⟨g,k*8+7,none⟩ (.int .i64 (fL ((us.map Wr.th).take k):Nat))) g (wB us (k+1)) from by
    have h:=HWk.o.place k (by rw[ld];exact hkn) (fL ((us.map Wr.th).take k));rw[UZ us k hkn]at h;exact h)
   have Bz:=aa (HF.o.trans (kw.set g (k*8+7) wr (.int .i64 (fL ((us.map Wr.th).take k):Nat))));have tO:=aa (show fL ((us.map Wr.th).take (k+1))=fL ((us.map Wr.th).take k)+(3+(us.getD k default).x.size) from by
    rw[ax,aF,ah hkn];simp only[Option.map_some,Option.toList_some,G9];rw[ai,ah hkn];rfl)
   have hsx:(us.getD k default).x.size<=65535:=by
    have hm:=(yT.o (us.getD k default).th (by rw[ai,ah hkn];exact aZ (aD hkn))).may;have wy:(us.getD k default).x.may=true:=hm;unfold Hd.may at wy;simp only[bq,bt,decide_eq_true_eq]at wy;omega
   clear F HWk hW HF;generalize fL ((us.map Wr.th).take k)=at_ at*;go_upto_region 6 with fail;generalize wr.setCell ⟨g,k*8+7,none⟩ (.int .i64 (at_:Int))=W1 at*;clear q5 hpc hpz;have q5:=(jL.o.fr1 Bz.o n5).cell 0;have hsc:W1.cell? ⟨g,k*8,none⟩=some (.int .i64 (us.getD k default).x.size):=wE.o.cell (i:=k) (j:=0) (u:=.int .i64 (us.getD k default).x.size) (by rw[ld];exact hkn) (by omega) (by rw[sR us (k+1) k hkn,if_pos (by omega)];rfl);generalize (us.getD k default).x.size=sx at*;go_wp2_with fail;go_roundw
   case rel=>exact⟨k+1,by go_num,by omega,by rw[tO.o];go_num,Bz.o,fun _=>wE.o⟩
   case measure=>simp[intOf];omega
  .obtain rfl:k=us.length:=(by omega);have hd:decide ((us.length:Int)<(us.length:Int))=false:=(by simp);have Ix:(us.map Wr.th).take us.length=us.map Wr.th:=aN (by simp);have HWf:=aa hW;have ae1:=aa (show kw g w wr from (kw.apa j8.o).trans HF.o);have Va:=aa (show Below Bg w wr from⟨HF.o.os.trans j8.o.os,HF.o.tape.trans j8.o.tape,HF.o.output.trans j8.o.output,ar j8.o.size HF.o.size,fun k hk=>(HF.o.same k (by omega) (by omega)).trans (j8.o.block k (by omega))⟩);have hbt:=jv us.length;rw[Ix]at hbt;rw[Ix];have E_:=aa (LD.o.fr1 HF.o (by omega));clear hW F hk hkn;by_cases tY:size<fL (us.map Wr.th)
   .have hdb:decide ((size:Int)<((fL (us.map Wr.th):Nat):Int))=true:=decide_eq_true (by omega);have VC:(size:Int)<((fL (us.map Wr.th):Nat):Int):=(by omega);have HBG:=aa tY;clear tY;have z0:=E_.o.frozen 0;have z1:=E_.o.frozen 1;have z2:=E_.o.frozen 2;have z3:=E_.o.frozen 3;have z4:=E_.o.frozen 4;have d0:=E_.o.cell 0;have d1:=E_.o.cell 1;have d2:=E_.o.cell 2;have d3:=E_.o.cell 3;have d4:=E_.o.cell 4;have gh:=aa (E_.o.apf (.int .i64 0) (.int .i64 0) (.int .u32 0) (.slice none 0 0) (.slice none 0 0));have jC:=aa (Xv ae1.o (g:=w.heap.size+1+1) (by omega) (.int .i64 0) (.int .i64 0) (.int .u32 0) (.slice none 0 0) (.slice none 0 0));go_wp2_with fail;generalize (((((wr.setCell ⟨w.heap.size+1+1,0,none⟩ (.int .i64 0)).setCell ⟨w.heap.size+1+1,1,none⟩ (.int .i64 0)).setCell ⟨w.heap.size+1+1,2,none⟩ (.int .u32 0)).setCell ⟨w.heap.size+1+1,3,none⟩ (.slice none 0 0)).setCell ⟨w.heap.size+1+1,4,none⟩ (.slice none 0 0))=WF at*;clear z0 d0 z1 d1 z2 d2 z3 d3 z4 d4;have f0:=gh.o.cell 0;have f1:=gh.o.cell 1;have f2:=gh.o.cell 2;have f3:=gh.o.cell 3;have f4:=gh.o.cell 4;refine bodyPost_ret (v:=.tuple #[.agg #[.int .i64 0,.int .i64 0,.int .u32 0,.slice none 0 0,.slice none 0 0],.int .i64 4]) (by simp[results,Tryz.results199,go_sem,f0,f1,f2,f3,f4]) rfl ?_;exact⟨jC.o,by show (if size<fL (us.map Wr.th) then _ else _);rw[if_pos HBG.o];rfl⟩
   .have hdb:decide ((size:Int)<((fL (us.map Wr.th):Nat):Int))=false:=decide_eq_false (by omega);have VC:¬ (size:Int)<((fL (us.map Wr.th):Nat):Int):=(by omega);go_upto_region 13 with fail;have oo:fL (us.map Wr.th)<=size:=(by omega);have HBG:=aa tY;have aah:=aa (show ∀ i,i<(wB us us.length).length->((wB us us.length).getD i default).pl=fL ((us.map Wr.th).take i) from fun i hi=>by
     rw[ld]at hi;rw[sR us _ i hi,if_pos hi])
    have YD:=aa (ld us us.length);have HKT:=aa (Ys us us.length);have HFK:=aa ((OW.o.usK us.length).keep (w':=wr) (fun k h1 h2=>(HF.o.same k (by omega) h2).trans (j8.o.block k h1)));have HU4:=aa (yM.o.fr1 HF.o (show w.heap.size≠g by omega));have HU5:=aa (jL.o.fr1 HF.o n5);have hwr:w.heap.size+3<=wr.heap.size:=(by have:=HF.o.size;omega);have oU:=aa (show ∀ t∈us.map Wr.th,t.Ok from yT.o);have ZW:=aa (show ∀ k,k<w.heap.size->k≠g->wr.heap[k]? = w.heap[k]? from fun k h1 h2=>(HF.o.same k (by omega) h2).trans (j8.o.block k h1));clear OW yM jL LD j8 HF yT jv Ix tY q5 n5 hd;generalize wB us us.length=uf at*;generalize us.map Wr.th=ts at*;generalize us.length=n at*;obtain rfl:uf.length=n:=YD.o;clear YD;obtain rfl:=HKT.o;have XZ:=hlen;have HA0:=HA;clear HKT HA hlen
    have hb2:Below wr.heap.size wr ((wr.alloc (.cells #[.bool true] 4)).alloc (.cells #[.func (.func 251) #[] #[.pointer (some ⟨w.heap.size+1,0,none⟩),.pointer (some ⟨wr.heap.size,0,none⟩)]] 55)):=
     ((Below.refl _ wr).alloc (aj _) _).alloc (by simp) _
    have bcl:=eW.new (wr.alloc (.cells #[.bool true] 4)) 55 #[.func (.func 251) #[] #[.pointer (some ⟨w.heap.size+1,0,none⟩),.pointer (some ⟨wr.heap.size,0,none⟩)]];rw[aJ]at bcl;have ME:((wr.alloc (.cells #[.bool true] 4)).alloc (.cells #[.func (.func 251) #[] #[.pointer (some ⟨w.heap.size+1,0,none⟩),.pointer (some ⟨wr.heap.size,0,none⟩)]] 55)).heap.size=wr.heap.size+2:=by simp
    have S0:ii Bg w ((wr.alloc (.cells #[.bool true] 4)).alloc (.cells #[.func (.func 251) #[] #[.pointer (some ⟨w.heap.size+1,0,none⟩),.pointer (some ⟨wr.heap.size,0,none⟩)]] 55)) w.heap.size (w.heap.size+1) wr.heap.size (wr.heap.size+1) (w.heap.size+1+1) g A c uf last true (wr.heap.size+2) (.slice none 0 0) [] (.slice none 0 0) []:=
     ⟨⟨⟨HU5.o.below hb2 HU5.o.lt,(eW.new wr 4 #[.bool true]).alloc _,fun h0=>⟨g,HA0.out h0,(HWf.o h0).below hb2⟩,aah.o,by omega,XZ⟩,bcl⟩,HU4.o.below hb2 HU4.o.lt,E_.o.below hb2 E_.o.lt,⟨rfl,.inl ⟨rfl,rfl⟩⟩,⟨rfl,.inl ⟨rfl,rfl⟩⟩,⟨hb2.os.trans Va.o.os,hb2.tape.trans Va.o.tape,hb2.output.trans Va.o.output,ar Va.o.size hb2.size,fun k hk=>(hb2.block k (by omega)).trans (Va.o.block k hk)⟩,HFK.o.keep (fun k h1 _=>hb2.block k (by omega)),by omega,by omega,by omega,by omega,by omega,hg,hB,HA0.out,by omega,by omega,fun k h1 h2=>(hb2.block k (by omega)).trans (ZW.o k h1 h2)⟩
    have xt:=aa S0;clear S0 hb2 bcl ME HU4 HU5 E_ HWf HFK Va aah;generalize ((wr.alloc (.cells #[.bool true] 4)).alloc (.cells #[.func (.func 251) #[] #[.pointer (some ⟨w.heap.size+1,0,none⟩),.pointer (some ⟨wr.heap.size,0,none⟩)]] 55))=W2 at*;have VH:W2.grownBy (W2.alloc (.cells #[.int .u32 0] 32)) (none:Option Nat):=⟨rfl,rfl,rfl,by simp,fun k hk _=>Below.heap_alloc W2 _ k hk⟩;have qI:=aa (xt.o.aqm (w':=W2.alloc (.cells #[.int .u32 0] 32)) (v':=.slice (some ⟨W2.heap.size,0,none⟩) 1 1) (ys:=[0]) (m:=1) rfl ⟨rfl,.inr ⟨W2.heap.size,1,_,rfl,xt.o.top,heap_alloc_new W2 _,by decide,by decide,rfl,rfl⟩⟩ VH);have q3:=(xt.o.room VH).cell 3;have y3:=(xt.o.room VH).frozen 3;clear xt VH;go_upto_region 14 with fail;generalize (W2.alloc (.cells #[.int .u32 0] 32)).setCell ⟨w.heap.size,3,none⟩ (.slice (some ⟨W2.heap.size,0,none⟩) 1 1)=W3 at*;have Fl:=aa (show eX w/\0<Bg from⟨hs,hsp⟩);clear q3 y3 hs hsp hwr hsz;generalize wr.heap.size+1=b13 at*;generalize wr.heap.size+2=Bw at*;generalize wr.heap.size=bf at*;generalize SF:Value.slice (some ⟨W2.heap.size,0,none⟩) 1 1=vw0 at*;clear SF;have q5:=qI.o.v.b.aqT.cell 0;have hlu:uf.length<=9000000:=XZ;have Be:=aa (show ∀ k,(0 :: fV (((uf.map Wr.th).take k).map (mz (uf.map Wr.th)))).length<=1048576 from fun k=>by
     have h1:=x9 (uf.map Wr.th) ((uf.map Wr.th).take k) (fun t ht=>oU.o t (aI ht));have h2:=DB (uf.map Wr.th) k;omega)
    go_wp2_with fail
    go_loopw [53] (fun i wr=>∃ (k:Nat) (vw:Value),i= .int .i64 k/\k<=uf.length/\ii Bg w wr w.heap.size (w.heap.size+1) bf b13 (w.heap.size+1+1) g A c uf last (!(((uf.map Wr.th).take k).any (jB (uf.map Wr.th)))) Bw vw (0 :: fV (((uf.map Wr.th).take k).map (mz (uf.map Wr.th)))) (.slice none 0 0) []) (fun i _=>uf.length-(intOf i).toNat)
    case atStart=>exact⟨0,vw0,rfl,aB _,qI.o⟩
    case round=>
     clear qI q5;obtain⟨k,vw,rfl,hk,S⟩:=hrel;have HS:=aa S;clear S;by_cases hkn:k<uf.length
     .have hd:decide ((k:Int)<(uf.length:Int))=true:=(by simp;omega);have Uh:(k:Int)<(uf.length:Int):=(by omega);have kM:uf.getD k default∈uf:=(by rw[ai,ah hkn];exact aD hkn);have hA1:=HS.o.eg (by omega);subst hA1;obtain⟨g',hg',hrow⟩:=HS.o.v.b.row (by omega);injection hg' with hg';injection hg' with hg';subst hg';have p0:wr.cell? ⟨g,k*8,none⟩=_:=hrow.cell (i:=k) (j:=0) (u:=.int .i64 (uf.getD k default).x.size) hkn (by omega) rfl;have p1:=hrow.cell (i:=k) (j:=1) (u:=.int .i64 (uf.getD k default).x.fmt) hkn (by omega) rfl;have p2:=hrow.cell (i:=k) (j:=2) (u:=.int .i64 (uf.getD k default).x.spare) hkn (by omega) rfl;have p3:=hrow.cell (i:=k) (j:=3) (u:=.int .u32 0) hkn (by omega) rfl;have p4:=hrow.cell (i:=k) (j:=4) (u:=.int .u32 (uf.getD k default).x.ser) hkn (by omega) rfl;have p5:=hrow.cell (i:=k) (j:=5) (u:=.int .u32 (uf.getD k default).x.cls) hkn (by omega) rfl;have p6:=hrow.cell (i:=k) (j:=6) (u:=.slice (uf.getD k default).A (uf.getD k default).fs.length (uf.getD k default).c) hkn (by omega) rfl;have p7:=hrow.cell (i:=k) (j:=7) (u:=.int .i64 (uf.getD k default).pl) hkn (by omega) rfl;have Pf:=aa (oU.o (uf.getD k default).th (aZ kM));have oV:=aa (show (uf.map Wr.th).take (k+1)=(uf.map Wr.th).take k++[(uf.getD k default).th] from by
       rw[ax,aF,ah hkn,ai,ah hkn];rfl)
      have HUF:=aa (fun (wr':World) (h:Sw wr' w.heap.size g uf)=>h _ kM);clear hrow kM;generalize uf.getD k default=u at*;obtain⟨⟨sx,fx,px,cx,rx⟩,uA,uc,jK,V2⟩:=u;simp only at p0 p1 p2 p4 p5 p6 p7;go_upto_region 17 with fail;have nG:=aa (HS.o.below ((Below.refl _ _).alloc (aj _) (.cells #[.int .i64 sx,.int .i64 fx,.int .i64 px,.int .u32 0,.int .u32 rx,.int .u32 cx,.slice uA jK.length uc,.int .i64 V2] 303)));have Ec:=aa (eW.new wr 303 #[.int .i64 sx,.int .i64 fx,.int .i64 px,.int .u32 0,.int .u32 rx,.int .u32 cx,.slice uA jK.length uc,.int .i64 V2]);have hbB:Bw<=wr.heap.size:=HS.o.top;clear HS p0 p1 p2 p3 p4 p5 p6 p7;generalize wr.alloc (.cells #[.int .i64 sx,.int .i64 fx,.int .i64 px,.int .u32 0,.int .u32 rx,.int .u32 cx,.slice uA jK.length uc,.int .i64 V2] 303)=W5 at*;generalize wr.heap.size=b16 at*;have c13:=nG.o.v.cl.cell 0;have o5:=Ec.o.cell 5;have hcx:cx<4294967296:=Pf.o.fit.cls;have mF:=aa (vB nG.o.v.b cx hcx);go_wp2_with fail;refine mF.o.mono ?_;rintro e w6 ⟨rfl,hf6,F6⟩;have lM:=aa (nG.o.aqF hf6 F6);have ww:=aa (nG.o.aqS Ec.o F6);have mh:kh (uf.map Wr.th) cx<4294967296:=wW _ _;obtain⟨cl,XK⟩ :∃ cl,cl=kh (uf.map Wr.th) cx:=⟨_,rfl⟩;have pR:=aa XK;rw[<-XK]at mh ⊢;have o3:=ww.o.cell 3;have y3:=ww.o.frozen 3;have mf:=aa (lM.o.oSet ww.o hbB 3 (.int .u32 (cl:Nat)));have Oh:=aa (ww.o.apg 3 (.int .u32 (cl:Nat)));clear mF hf6 F6 nG Ec c13 o5 lM ww XK;go_upto_region 18 with fail;generalize w6.setCell ⟨b16,3,none⟩ (.int .u32 (cl:Int))=W7 at*;have o0:=Oh.o.cell 0;have o1:=Oh.o.cell 1;have o2:=Oh.o.cell 2;have o3':=Oh.o.cell 3;have o4:=Oh.o.cell 4;clear o3 y3;have kJ:(⟨sx,fx,px,cl,rx⟩ :Hd).Fit:=⟨Pf.o.fit.size,Pf.o.fit.fmt,Pf.o.fit.spare,mh,Pf.o.fit.ser⟩;have pT:=aa (y7 ⟨sx,fx,px,cl,rx⟩ kJ Pf.o.may W7 (fun i hi=>(au (a:=⟨0,i,none⟩) (mf.o.fr.block _ Fl.o.2)).trans (Fl.o.1 i hi)));go_wp2_with fail;refine pT.o.mono ?_;rintro e w8 ⟨rfl,l9⟩;rw[show (⟨sx,fx,px,cl,rx⟩ :Hd).packed= .agg #[.int .u32 (⟨sx,fx,px,cl,rx⟩ :Hd).w0,.int .u32 (cl:Nat),.int .u32 (rx:Nat)] from rfl];obtain⟨wz,VW⟩ :∃ wz,wz=(⟨sx,fx,px,cl,rx⟩ :Hd).w0:=⟨_,rfl⟩;have HWZ:=aa VW;rw[<-VW];have kq:=aa ((mf.o.below l9).below ((Below.refl _ _).alloc (aj _) (.cells #[.int .u32 (wz:Nat),.int .u32 (cl:Nat),.int .u32 (rx:Nat)] 248)));have BL:=aa ((Oh.o.below l9 Oh.o.lt).alloc (.cells #[.int .u32 (wz:Nat),.int .u32 (cl:Nat),.int .u32 (rx:Nat)] 248));have Bu:=aa (eW.new w8 248 #[.int .u32 (wz:Nat),.int .u32 (cl:Nat),.int .u32 (rx:Nat)]);have HWE:=aa (show ∀ fs',(mz (uf.map Wr.th) ⟨⟨sx,fx,px,cx,rx⟩,jK⟩).fs=fs'->0 :: fV (((uf.map Wr.th).take (k+1)).map (mz (uf.map Wr.th)))=(0 :: fV (((uf.map Wr.th).take k).map (mz (uf.map Wr.th))))++[wz,cl,rx]++fs' from fun fs' Y6=>by
       rw[oV.o,az,jU,<-Y6,VW,pR.o];simp only[aK,List.map_nil,fD,km,List.append_nil,List.cons_append,aM,List.nil_append];rfl)
      have Wu:=aa (show ∀ b,jB (uf.map Wr.th) ⟨⟨sx,fx,px,cx,rx⟩,jK⟩=(jb (uf.map Wr.th) cx || b)->(!(((uf.map Wr.th).take (k+1)).any (jB (uf.map Wr.th))))=((!(((uf.map Wr.th).take k).any (jB (uf.map Wr.th))) && !jb (uf.map Wr.th) cx) && !b) from fun b hb=>by
       rw[oV.o,aQ];simp only[List.any_cons,List.any_nil,Bool.or_false];rw[show jB (uf.map Wr.th) (Wr.th ⟨⟨sx,fx,px,cx,rx⟩,uA,uc,jK,V2⟩)=(jb (uf.map Wr.th) cx || b) from hb];cases ((uf.map Wr.th).take k).any (jB (uf.map Wr.th)) <;> cases jb (uf.map Wr.th) cx <;> cases b <;> rfl)
      have hl0:(0 :: fV (((uf.map Wr.th).take k).map (mz (uf.map Wr.th)))).length<=1048576:=Be.o k;clear pT mf Oh l9 o0 o1 o2 o3' o4 VW kJ oV;generalize (0 :: fV (((uf.map Wr.th).take k).map (mz (uf.map Wr.th))))=ws0 at*;generalize ((!(((uf.map Wr.th).take k).any (jB (uf.map Wr.th)))) && !jb (uf.map Wr.th) cx)=fb2 at*;go_upto_region 19 with fail;generalize w8.alloc (.cells #[.int .u32 (wz:Int),.int .u32 (cl:Int),.int .u32 (rx:Int)] 248)=W9 at*;generalize w8.heap.size=b17 at*;refine iB 5 (fun w'=>w'.cell? ⟨w.heap.size,3,none⟩=some vw/\True) (by kernel_rfl) ?_;have jv:Below W9.heap.size W9 W9.drew:=⟨rfl,rfl,rfl,aj _,fun _ _=>rfl⟩;have yb:=aa (kq.o.below jv);have WO:=aa (BL.o.below jv BL.o.lt);have Wl:=aa (Bu.o.below jv Bu.o.lt);clear jv kq BL Bu;generalize W9.drew=wq at*;have hS:wq.cell? ⟨w.heap.size,3,none⟩=some vw/\True:=⟨yb.o.box.cell 3,trivial⟩;obtain⟨i0,iF,hz0,hz1,hz2⟩:=info_parts jR;refine eT 0 (v:=(.pointer (some ⟨w.heap.size,3,none⟩))) rfl (by kernel_rfl) (fun _ _ _ h=>h) hS (by rfl) (fun w' hw'=>by obtain⟨h0,h1⟩:=hw';go_simp) ?_;try simp only[ak,ae,af,ag]
      refine eT 1 (v:=vw) rfl (by kernel_rfl) (fun _ _ _ h=>h) hS (by rfl) (fun w' hw'=>by obtain⟨h0,h1⟩:=hw';go_simp) ?_;try simp only[ak,ae,af,ag]
      refine eT 2 (v:=(.slice (some ⟨b17,0,none⟩) 3 3)) rfl (by kernel_rfl) (fun _ _ _ h=>h) hS (by rfl) (fun w' hw'=>by obtain⟨h0,h1⟩:=hw';go_simp) ?_;try simp only[ak,ae,af,ag]
      refine fh 3 (by kernel_rfl) rfl rfl (fun K hK=>?_);have acH:eQ wq wq.heap.size 1 (some ⟨b17,0,none⟩) 3 (eN [wz,cl,rx]):=⟨rfl,fun _=>⟨_,rfl,Wl.o.lt,fun jj v hv=>by
       rw[aR,bz];refine (Wl.o.cell jj).trans ?_;rw[<-hv];simp[eN]⟩⟩
      refine fS _ (.tmp 70) (.tmp 71) _ rfl Bw 32 i0 _ 1 4 Tryz.underlying84 iF hz0 hz1 hz2 rfl (by omega) vw ws0.length (eN ws0) rfl yb.o.wo wq.heap.size (some ⟨b17,0,none⟩) 3 3 (eN [wz,cl,rx]) rfl acH (fU _) (by simp only[maxLen];omega) (by omega) yb.o.top ?_;intro v10 w10 t_ oJ KQ;obtain⟨g10,c10,rfl,-,-,-⟩:=Row.apk t_ (by omega);have gu:=aa (yb.o.aqm (ys:=[wz,cl,rx]) rfl t_ oJ);have Tm:=aa (yb.o.aqH (v':=.slice (some ⟨g10,0,none⟩) (ws0.length+3) c10) WO.o oJ);have tD:=(yb.o.room oJ).cell 3;have tE:=(yb.o.room oJ).frozen 3;have XF:w10.cell? ⟨w.heap.size,3,none⟩=some vw/\True:=⟨tD,trivial⟩;clear t_ oJ KQ acH yb WO Wl;refine hK _ _ (fun _=>XF) ?_;clear hK K;try simp only[ak,ae,af,ag]
      refine fh 4 (by kernel_rfl) rfl rfl (fun K hK=>?_);go_simp;refine hK _ _ (fun _=>XF) ?_;clear hK K;try simp only[ak,ae,af,ag]
      refine fh 5 (by kernel_rfl) rfl rfl (fun K hK=>?_);go_simp;refine hK _ _ (fun h=>absurd h (by decide)) ?_;clear hK K;try simp only[ak,ae,af,ag]
      refine g_ (by kernel_rfl) ?_ _;simp only[Calm,Exit.then];clear hS XF tD tE;generalize w10.setCell ⟨w.heap.size,3,none⟩ (.slice (some ⟨g10,0,none⟩) (ws0.length+3) c10)=W12 at*;have lK:=gu;have Eb:=aa (show eW W12 b16 303 #[.int .i64 sx,.int .i64 fx,.int .i64 px,.int .u32 cl,.int .u32 rx,.int .u32 cx,.slice uA jK.length uc,.int .i64 V2] from Tm.o);clear gu Tm;have o6:=Eb.o.cell 6;have YU:=aa (show (ws0++[wz,cl,rx]).length<=1048579/\jK.length<=65535 from by
       have h1:=Pf.o.size;have h2:jK.length=sx:=h1;have h3:=Pf.o.may;have h4:(⟨sx,fx,px,cx,rx⟩ :Hd).may=true:=h3;unfold Hd.may at h4;simp only[bq,bt,decide_eq_true_eq]at h4;rw[aw];simp only[aH,List.length_nil];omega)
      generalize ws0++[wz,cl,rx]=Ki at*;have anx:jK.length<=65535:=YU.o.2;by_cases Qc:fx=1
      .have Iq:((fx:Int) == 1)=true:=(by simp;omega);have BA:=aa Qc;clear Qc;go_wp2_with fail;clear o6
       go_loopw [20,77] (fun _ i wr=>∃ (j:Nat) (vw:Value),i= .int .i64 j/\j<=jK.length/\ii Bg w wr w.heap.size (w.heap.size+1) bf b13 (w.heap.size+1+1) g (some ⟨g,0,none⟩) c uf last (fb2 && !((jK.take j).any (fX (uf.map Wr.th)))) Bw vw (Ki++(jK.take j).map (js (uf.map Wr.th))) (.slice none 0 0) []/\eW wr b16 303 #[.int .i64 sx,.int .i64 fx,.int .i64 px,.int .u32 cl,.int .u32 rx,.int .u32 cx,.slice uA jK.length uc,.int .i64 V2]) (fun _ i _=>jK.length-(intOf i).toNat)
       case atStart=>exact⟨0,_,rfl,aB _,by simpa using lK.out,Eb.o⟩
       case round=>
        clear lK Eb;obtain⟨j,vw,rfl,hj,S,O⟩:=hrel;have HS:=aa S;have HO:=aa O;by_cases hjn:j<jK.length
        .have qY:decide ((j:Int)<(jK.length:Int))=true:=(by simp;omega);have acb:(j:Int)<(jK.length:Int):=(by omega);obtain⟨ad,v0,Vv,-,hv0,Y3⟩:=(HUF.o wr S.apU).1.at_ hjn;rw[ft hjn]at hv0;injection hv0 with hv0;subst hv0 Vv;have Ub:jK.getD j 0<4294967296:=(by rw[ai,ah hjn];exact Pf.o.f32 _ (aD hjn));have Xd:=aa (show (jK.take (j+1)).map (js (uf.map Wr.th))=(jK.take j).map (js (uf.map Wr.th))++[js (uf.map Wr.th) (jK.getD j 0)] from by rw[ax,ah hjn,az,ai,ah hjn];rfl);have ZJ:=aa (show (jK.take (j+1)).any (fX (uf.map Wr.th))=((jK.take j).any (fX (uf.map Wr.th)) || fX (uf.map Wr.th) (jK.getD j 0)) from by rw[ax,ah hjn,aQ,ai,ah hjn];simp);have o1:=O.cell 1;have o6:=O.cell 6;have Gt:((Ki++(jK.take j).map (js (uf.map Wr.th))).length)<=9000000:=(by have:=YU.o;simp only[aw,ay,aC];omega);clear S O;generalize jK.getD j 0=f at*;generalize (jK.take j).map (js (uf.map Wr.th))=pk at*;generalize (jK.take j).any (fX (uf.map Wr.th))=fbj at*;have tP:=aa (qj HS.o.v f Ub);go_wp2_with fail;refine tP.o.mono ?_;rintro e w13 ⟨rfl,Ge,Sg⟩;have kE:=aa (HS.o.aqF Ge Sg);have O6:=aa (HS.o.aqS HO.o Sg);have MG:=wl (uf.map Wr.th) f;have Sj:=aa (show (fb2 && !fbj && !fX (uf.map Wr.th) f)=(fb2 && !(fbj || fX (uf.map Wr.th) f)) from by cases fb2 <;> cases fbj <;> cases fX (uf.map Wr.th) f <;> rfl);have zv:=kE.o;rw[Sj.o]at zv;have gz:=aa zv;clear tP Ge Sg HS HO Y3 o1 o6 kE zv Sj;generalize js (uf.map Wr.th) f=y at*;have q3:=gz.o.box.cell 3;have l7:=aa (gz.o.below ((Below.refl _ _).alloc (aj _) (.cells #[.int .u32 (y:Nat)] 32)));have Ij:=aa (O6.o.below ((Below.refl _ _).alloc (aj _) (.cells #[.int .u32 (y:Nat)] 32)) O6.o.lt);obtain⟨nl,wA⟩ :∃ n,n=(Ki++pk).length:=⟨_,rfl⟩;have HWO:=aa (show aY _ Bw 32 1 vw nl (eN (Ki++pk)) from by rw[wA];exact l7.o.wo);have HNL:=aa wA;have hnb:nl<=9000000:=(by rw[wA];exact Gt);clear wA Gt;go_wp2_with (at_builtin;refine eM _ rfl (.tmp 95) (.tmp 97) _ rfl Bw 32 i0 _ 1 4 Tryz.underlying84 iF hz0 hz1 hz2 rfl (by omega) vw nl (eN (Ki++pk)) rfl HWO.o (w13.heap.size+1) (some ⟨w13.heap.size,0,none⟩) 1 1 (eN [y]) rfl ⟨rfl,fun _=>⟨_,rfl,by simp,cell_one_new _ _ _⟩⟩ (fU _) (by simp only[maxLen];omega) (by omega) (l7.o.top) ?_;intro v15 w15 iR kK rA;obtain⟨g15,c15,rfl,-,-,-⟩:=Row.apk iR (by omega);have yV:=aa (l7.o.aqm (ys:=[y]) rfl (by rw[<-HNL.o];exact iR) kK);have O8:=aa (l7.o.aqH (v':=.slice (some ⟨g15,0,none⟩) (nl+1) c15) Ij.o kK);have tE:=(l7.o.room kK).frozen 3;have tD:=(l7.o.room kK).cell 3;clear iR kK rA l7 Ij q3);go_roundw
         case rel=>exact⟨j+1,_,by go_num,by omega,by rw[Xd.o,ZJ.o,<-aM];exact yV.o,O8.o⟩
         case measure=>simp[intOf];omega
        .obtain rfl:j=jK.length:=(by omega);have qY:decide ((jK.length:Int)<(jK.length:Int))=false:=(by simp);have hS:=HS.o;rw[aU]at hS;have sY:=aa (show ii Bg w wr w.heap.size (w.heap.size+1) bf b13 (w.heap.size+1+1) g (some ⟨g,0,none⟩) c uf last (!(((uf.map Wr.th).take (k+1)).any (jB (uf.map Wr.th)))) Bw vw (0 :: fV (((uf.map Wr.th).take (k+1)).map (mz (uf.map Wr.th)))) (.slice none 0 0) [] from by
          have e1:=HWE.o (jK.map (js (uf.map Wr.th))) (by unfold mz;rw[if_pos (by show Hd.apB ⟨sx,fx,px,cx,rx⟩=true;unfold Hd.apB;simp[BA.o])]);have e2:=Wu.o (jK.any (fX (uf.map Wr.th))) (by unfold jB;rw[show (⟨⟨sx,fx,px,cx,rx⟩,jK⟩ :Th).x.apB=true by show Hd.apB ⟨sx,fx,px,cx,rx⟩=true;unfold Hd.apB;simp[BA.o]];simp);rw[e1,e2];exact hS
         )
         clear hS HS HO hj hjn S O;go_wp2_with fail;go_roundw
         case rel=>exact⟨k+1,vw,by go_num,by omega,sY.o⟩
         case measure=>simp[intOf];omega
      .have Iq:((fx:Int) == 1)=false:=(by simp;omega);by_cases VG:fx=4
       .have hd4:((fx:Int) == 4)=true:=(by simp;omega);have BA:=aa VG;clear Qc VG;go_wp2_with fail;clear o6
        go_loopw [20,77] (fun _ i wr=>∃ (j:Nat) (vw:Value),i= .int .i64 j/\j<=jK.length/\ii Bg w wr w.heap.size (w.heap.size+1) bf b13 (w.heap.size+1+1) g (some ⟨g,0,none⟩) c uf last (fb2 && !((jK.take j).any (fX (uf.map Wr.th)))) Bw vw (Ki++(jK.take j).map (js (uf.map Wr.th))) (.slice none 0 0) []/\eW wr b16 303 #[.int .i64 sx,.int .i64 fx,.int .i64 px,.int .u32 cl,.int .u32 rx,.int .u32 cx,.slice uA jK.length uc,.int .i64 V2]) (fun _ i _=>jK.length-(intOf i).toNat)
        case atStart=>exact⟨0,_,rfl,aB _,by simpa using lK.out,Eb.o⟩
        case round=>
         clear lK Eb;obtain⟨j,vw,rfl,hj,S,O⟩:=hrel;have HS:=aa S;have HO:=aa O;by_cases hjn:j<jK.length
         .have qY:decide ((j:Int)<(jK.length:Int))=true:=(by simp;omega);have acb:(j:Int)<(jK.length:Int):=(by omega);obtain⟨ad,v0,Vv,-,hv0,Y3⟩:=(HUF.o wr S.apU).1.at_ hjn;rw[ft hjn]at hv0;injection hv0 with hv0;subst hv0 Vv;have Ub:jK.getD j 0<4294967296:=(by rw[ai,ah hjn];exact Pf.o.f32 _ (aD hjn));have Xd:=aa (show (jK.take (j+1)).map (js (uf.map Wr.th))=(jK.take j).map (js (uf.map Wr.th))++[js (uf.map Wr.th) (jK.getD j 0)] from by rw[ax,ah hjn,az,ai,ah hjn];rfl);have ZJ:=aa (show (jK.take (j+1)).any (fX (uf.map Wr.th))=((jK.take j).any (fX (uf.map Wr.th)) || fX (uf.map Wr.th) (jK.getD j 0)) from by rw[ax,ah hjn,aQ,ai,ah hjn];simp);have o1:=O.cell 1;have o6:=O.cell 6;have Gt:((Ki++(jK.take j).map (js (uf.map Wr.th))).length)<=9000000:=(by have:=YU.o;simp only[aw,ay,aC];omega);clear S O;generalize jK.getD j 0=f at*;generalize (jK.take j).map (js (uf.map Wr.th))=pk at*;generalize (jK.take j).any (fX (uf.map Wr.th))=fbj at*;have tP:=aa (qj HS.o.v f Ub);go_wp2_with fail;refine tP.o.mono ?_;rintro e w13 ⟨rfl,Ge,Sg⟩;have kE:=aa (HS.o.aqF Ge Sg);have O6:=aa (HS.o.aqS HO.o Sg);have MG:=wl (uf.map Wr.th) f;have Sj:=aa (show (fb2 && !fbj && !fX (uf.map Wr.th) f)=(fb2 && !(fbj || fX (uf.map Wr.th) f)) from by cases fb2 <;> cases fbj <;> cases fX (uf.map Wr.th) f <;> rfl);have zv:=kE.o;rw[Sj.o]at zv;have gz:=aa zv;clear tP Ge Sg HS HO Y3 o1 o6 kE zv Sj;generalize js (uf.map Wr.th) f=y at*;have q3:=gz.o.box.cell 3;have l7:=aa (gz.o.below ((Below.refl _ _).alloc (aj _) (.cells #[.int .u32 (y:Nat)] 32)));have Ij:=aa (O6.o.below ((Below.refl _ _).alloc (aj _) (.cells #[.int .u32 (y:Nat)] 32)) O6.o.lt);obtain⟨nl,wA⟩ :∃ n,n=(Ki++pk).length:=⟨_,rfl⟩;have HWO:=aa (show aY _ Bw 32 1 vw nl (eN (Ki++pk)) from by rw[wA];exact l7.o.wo);have HNL:=aa wA;have hnb:nl<=9000000:=(by rw[wA];exact Gt);clear wA Gt;go_wp2_with (at_builtin;refine eM _ rfl (.tmp 95) (.tmp 97) _ rfl Bw 32 i0 _ 1 4 Tryz.underlying84 iF hz0 hz1 hz2 rfl (by omega) vw nl (eN (Ki++pk)) rfl HWO.o (w13.heap.size+1) (some ⟨w13.heap.size,0,none⟩) 1 1 (eN [y]) rfl ⟨rfl,fun _=>⟨_,rfl,by simp,cell_one_new _ _ _⟩⟩ (fU _) (by simp only[maxLen];omega) (by omega) (l7.o.top) ?_;intro v15 w15 iR kK rA;obtain⟨g15,c15,rfl,-,-,-⟩:=Row.apk iR (by omega);have yV:=aa (l7.o.aqm (ys:=[y]) rfl (by rw[<-HNL.o];exact iR) kK);have O8:=aa (l7.o.aqH (v':=.slice (some ⟨g15,0,none⟩) (nl+1) c15) Ij.o kK);have tE:=(l7.o.room kK).frozen 3;have tD:=(l7.o.room kK).cell 3;clear iR kK rA l7 Ij q3);go_roundw
          case rel=>exact⟨j+1,_,by go_num,by omega,by rw[Xd.o,ZJ.o,<-aM];exact yV.o,O8.o⟩
          case measure=>simp[intOf];omega
         .obtain rfl:j=jK.length:=(by omega);have qY:decide ((jK.length:Int)<(jK.length:Int))=false:=(by simp);have hS:=HS.o;rw[aU]at hS;have sY:=aa (show ii Bg w wr w.heap.size (w.heap.size+1) bf b13 (w.heap.size+1+1) g (some ⟨g,0,none⟩) c uf last (!(((uf.map Wr.th).take (k+1)).any (jB (uf.map Wr.th)))) Bw vw (0 :: fV (((uf.map Wr.th).take (k+1)).map (mz (uf.map Wr.th)))) (.slice none 0 0) [] from by
           have e1:=HWE.o (jK.map (js (uf.map Wr.th))) (by unfold mz;rw[if_pos (by show Hd.apB ⟨sx,fx,px,cx,rx⟩=true;unfold Hd.apB;simp[BA.o])]);have e2:=Wu.o (jK.any (fX (uf.map Wr.th))) (by unfold jB;rw[show (⟨⟨sx,fx,px,cx,rx⟩,jK⟩ :Th).x.apB=true by show Hd.apB ⟨sx,fx,px,cx,rx⟩=true;unfold Hd.apB;simp[BA.o]];simp);rw[e1,e2];exact hS
          )
          clear hS HS HO hj hjn S O;go_wp2_with fail;go_roundw
          case rel=>exact⟨k+1,vw,by go_num,by omega,sY.o⟩
          case measure=>simp[intOf];omega
       .have hd4:((fx:Int) == 4)=false:=(by simp;omega);have BA:=aa (And.intro Qc VG);clear Qc VG;go_wp2_with fail;clear o6
        go_loopw [20,77] (fun _ i wr=>∃ (j:Nat) (vw:Value),i= .int .i64 j/\j<=jK.length/\ii Bg w wr w.heap.size (w.heap.size+1) bf b13 (w.heap.size+1+1) g (some ⟨g,0,none⟩) c uf last fb2 Bw vw (Ki++jK.take j) (.slice none 0 0) []/\eW wr b16 303 #[.int .i64 sx,.int .i64 fx,.int .i64 px,.int .u32 cl,.int .u32 rx,.int .u32 cx,.slice uA jK.length uc,.int .i64 V2]) (fun _ i _=>jK.length-(intOf i).toNat)
        case atStart=>exact⟨0,_,rfl,aB _,by simpa using lK.out,Eb.o⟩
        case round=>
         clear lK Eb;obtain⟨j,vw,rfl,hj,S,O⟩:=hrel;have HS:=aa S;have HO:=aa O;by_cases hjn:j<jK.length
         .have qY:decide ((j:Int)<(jK.length:Int))=true:=(by simp;omega);have acb:(j:Int)<(jK.length:Int):=(by omega);obtain⟨ad,v0,Vv,-,hv0,Y3⟩:=(HUF.o wr S.apU).1.at_ hjn;rw[ft hjn]at hv0;injection hv0 with hv0;subst hv0 Vv;have Ub:jK.getD j 0<4294967296:=(by rw[ai,ah hjn];exact Pf.o.f32 _ (aD hjn));have Xd:=aa (show jK.take (j+1)=jK.take j++[jK.getD j 0] from by rw[ax,ah hjn,ai,ah hjn];rfl);have o1:=O.cell 1;have o6:=O.cell 6;have Gt:((Ki++jK.take j).length)<=9000000:=(by have:=YU.o;simp only[aw,aC];omega);clear S O;generalize jK.getD j 0=f at*;generalize jK.take j=pk at*;generalize hyf:f=y at*;clear hyf;have q3:=HS.o.box.cell 3;have l7:=aa (HS.o.below ((Below.refl _ _).alloc (aj _) (.cells #[.int .u32 (y:Nat)] 32)));have Ij:=aa (HO.o.below ((Below.refl _ _).alloc (aj _) (.cells #[.int .u32 (y:Nat)] 32)) HO.o.lt);obtain⟨nl,wA⟩ :∃ n,n=(Ki++pk).length:=⟨_,rfl⟩;have HWO:=aa (show aY _ Bw 32 1 vw nl (eN (Ki++pk)) from by rw[wA];exact l7.o.wo);have HNL:=aa wA;have hnb:nl<=9000000:=(by rw[wA];exact Gt);clear wA Gt;go_wp2_with (at_builtin;refine eM _ rfl (.tmp 95) (.tmp 97) _ rfl Bw 32 i0 _ 1 4 Tryz.underlying84 iF hz0 hz1 hz2 rfl (by omega) vw nl (eN (Ki++pk)) rfl HWO.o (wr.heap.size+1) (some ⟨wr.heap.size,0,none⟩) 1 1 (eN [y]) rfl ⟨rfl,fun _=>⟨_,rfl,by simp,cell_one_new _ _ _⟩⟩ (fU _) (by simp only[maxLen];omega) (by omega) (l7.o.top) ?_;intro v15 w15 iR kK rA;obtain⟨g15,c15,rfl,-,-,-⟩:=Row.apk iR (by omega);have yV:=aa (l7.o.aqm (ys:=[y]) rfl (by rw[<-HNL.o];exact iR) kK);have O8:=aa (l7.o.aqH (v':=.slice (some ⟨g15,0,none⟩) (nl+1) c15) Ij.o kK);have tE:=(l7.o.room kK).frozen 3;have tD:=(l7.o.room kK).cell 3;clear iR kK rA l7 Ij q3);go_roundw
          case rel=>exact⟨j+1,_,by go_num,by omega,by rw[Xd.o,<-aM];exact yV.o,O8.o⟩
          case measure=>simp[intOf];omega
         .obtain rfl:j=jK.length:=(by omega);have qY:decide ((jK.length:Int)<(jK.length:Int))=false:=(by simp);have hS:=HS.o;rw[aU]at hS;have sY:=aa (show ii Bg w wr w.heap.size (w.heap.size+1) bf b13 (w.heap.size+1+1) g (some ⟨g,0,none⟩) c uf last (!(((uf.map Wr.th).take (k+1)).any (jB (uf.map Wr.th)))) Bw vw (0 :: fV (((uf.map Wr.th).take (k+1)).map (mz (uf.map Wr.th)))) (.slice none 0 0) [] from by
           have e1:=HWE.o (jK) (by unfold mz;rw[if_neg (by show ¬ Hd.apB ⟨sx,fx,px,cx,rx⟩=true;unfold Hd.apB;simp;have:=BA.o;omega)]);have e2:=Wu.o false (by unfold jB;rw[show (⟨⟨sx,fx,px,cx,rx⟩,jK⟩ :Th).x.apB=false by show Hd.apB ⟨sx,fx,px,cx,rx⟩=false;unfold Hd.apB;simp;have:=BA.o;omega];simp);rw[e1,e2];simpa using hS
          )
          clear hS HS HO hj hjn S O;go_wp2_with fail;go_roundw
          case rel=>exact⟨k+1,vw,by go_num,by omega,sY.o⟩
          case measure=>simp[intOf];omega
     .obtain rfl:k=uf.length:=(by omega);have hd:decide ((uf.length:Int)<(uf.length:Int))=false:=(by simp);have hS:=HS.o;rw[show (uf.map Wr.th).take uf.length=uf.map Wr.th from aN (by simp)]at hS;have YT:=aa (show (0 :: fV ((uf.map Wr.th).map (mz (uf.map Wr.th))))=(⟨uf.map Wr.th,rts,last⟩ :ye).words from rfl);have HFW:=aa (show (!(uf.map Wr.th).any (jB (uf.map Wr.th)) && !(rts.any (fX (uf.map Wr.th)))) = !(⟨uf.map Wr.th,rts,last⟩ :ye).apm from by
       unfold ye.apm;cases (uf.map Wr.th).any (jB (uf.map Wr.th)) <;> cases rts.any (fX (uf.map Wr.th)) <;> rfl)
      have Il:=aa (show rts.map (js (uf.map Wr.th))=(⟨uf.map Wr.th,rts,last⟩ :ye).roots from rfl);have Xb:=aa hS;have VO:rts.length=64:=(by have:=Im.o.1;rw[eY]at this;omega);clear hS HS hk hkn Be;generalize (0 :: fV ((uf.map Wr.th).map (mz (uf.map Wr.th))))=wsF at*;generalize (!(uf.map Wr.th).any (jB (uf.map Wr.th)))=fbO at*;go_wp2_with fail;clear hd;obtain⟨i0,iF,hz0,hz1,hz2⟩:=info_parts lZ
      go_loopw [104] (fun i wr=>∃ (k:Nat) (vr:Value),i= .int .i64 k/\k<=64/\ii Bg w wr w.heap.size (w.heap.size+1) bf b13 (w.heap.size+1+1) g A c uf last (fbO && !((rts.take k).any (fX (uf.map Wr.th)))) Bw vw wsF vr ((rts.take k).map (js (uf.map Wr.th)))) (fun i _=>64-(intOf i).toNat)
      case atStart=>exact⟨0,_,rfl,aB _,by simpa using Xb.o⟩
      case round=>
       clear Xb;obtain⟨k,vr,rfl,hk,S⟩:=hrel;have HS:=aa S;by_cases hkn:k<64
       .have hd:decide ((k:Int)<64)=true:=(by simp;omega);have Uh:(k:Int)<64:=(by omega);have XY:k<rts.length:=(by omega);have ag1:k<nr:=(by omega);obtain⟨ad,v0,Vv,hbl,hv0,hc0⟩:=Im.o.at_ ag1;have Y3:wr.cell? (ad.add k)=some v0:=(au (a:=ad.add k) (by rw[gi];exact S.kept ad.block hbl (HRG.o ad Vv))).trans hc0;rw[ft XY]at hv0;injection hv0 with hv0;subst hv0 Vv;have qW:rts.getD k 0<4294967296:=(by rw[ai,ah XY];exact WU.o _ (aD XY));have Xd:=aa (show (rts.take (k+1)).map (js (uf.map Wr.th))=(rts.take k).map (js (uf.map Wr.th))++[js (uf.map Wr.th) (rts.getD k 0)] from by rw[ax,ah XY,az,ai,ah XY];rfl);have ZJ:=aa (show (rts.take (k+1)).any (fX (uf.map Wr.th))=((rts.take k).any (fX (uf.map Wr.th)) || fX (uf.map Wr.th) (rts.getD k 0)) from by rw[ax,ah XY,aQ,ai,ah XY];simp);have hpl:((rts.take k).map (js (uf.map Wr.th))).length<=64:=(by rw[ay,aC];omega);clear S hc0;generalize rts.getD k 0=x at*;generalize (rts.take k).map (js (uf.map Wr.th))=pk at*;generalize (rts.take k).any (fX (uf.map Wr.th))=fbj at*;go_upto_region 31 with fail;refine iB 8 (fun w'=>w'.cell? ⟨w.heap.size,4,none⟩=some vr/\True) (by kernel_rfl) ?_;have jv:Below wr.heap.size wr wr.drew:=⟨rfl,rfl,rfl,aj _,fun _ _=>rfl⟩;have yb:=aa (HS.o.below jv);clear jv HS Y3;generalize wr.drew=wq at*;have hS:wq.cell? ⟨w.heap.size,4,none⟩=some vr/\True:=⟨yb.o.box.cell 4,trivial⟩;refine eT 0 (v:=(.pointer (some ⟨w.heap.size,4,none⟩))) rfl (by kernel_rfl) (fun _ _ _ h=>h) hS (by rfl) (fun w' hw'=>by obtain⟨h0,h1⟩:=hw';go_simp) ?_;try simp only[ak,ae,af,ag]
        refine eT 1 (v:=vr) rfl (by kernel_rfl) (fun _ _ _ h=>h) hS (by rfl) (fun w' hw'=>by obtain⟨h0,h1⟩:=hw';go_simp) ?_;try simp only[ak,ae,af,ag]
        refine eT 2 (v:=(.func (.func 252) #[] #[.pointer (some ⟨b13,0,none⟩)])) rfl (by kernel_rfl) (fun _ _ _ h=>h) hS (by rfl) (fun w' hw'=>by obtain⟨h0,h1⟩:=hw';go_simp) ?_;try simp only[ak,ae,af,ag]
        refine eT 3 (v:=(.int .u32 (x:Int))) rfl (by kernel_rfl) (fun _ _ _ h=>h) hS (by rfl) (fun w' hw'=>by obtain⟨h0,h1⟩:=hw';go_simp) ?_;try simp only[ak,ae,af,ag]
        refine fh 4 (by kernel_rfl) rfl rfl (fun K hK=>?_);go_simp;refine (qj yb.o.v x qW).mono ?_;rintro e w13 ⟨rfl,Ge,Sg⟩;have Sj:=aa (show (fbO && !fbj && !fX (uf.map Wr.th) x)=(fbO && !(fbj || fX (uf.map Wr.th) x)) from by cases fbO <;> cases fbj <;> cases fX (uf.map Wr.th) x <;> rfl);have zv:=yb.o.aqF Ge Sg;rw[Sj.o]at zv;have gz:=aa zv;have MG:=wl (uf.map Wr.th) x;clear Ge Sg yb zv Sj;generalize js (uf.map Wr.th) x=y at*;have F_:w13.cell? ⟨w.heap.size,4,none⟩=some vr/\True:=⟨gz.o.box.cell 4,trivial⟩;refine hK _ _ (fun _=>F_) ?_;clear hK K;try simp only[ak,ae,af,ag]
        refine fh 5 (by kernel_rfl) rfl rfl (fun K hK=>?_);go_simp;have l7:=aa (gz.o.below ((Below.refl _ _).alloc (aj _) (.cells #[.int .u32 (y:Nat)] 54)));have PY:(w13.alloc (.cells #[.int .u32 (y:Nat)] 54)).cell? ⟨w.heap.size,4,none⟩=some vr/\True:=⟨l7.o.box.cell 4,trivial⟩;refine hK _ _ (fun _=>PY) ?_;clear hK K;try simp only[ak,ae,af,ag]
        refine fh 6 (by kernel_rfl) rfl rfl (fun K hK=>?_);refine fS _ (.tmp 109) (.tmp 113) _ rfl Bw 54 i0 _ 1 4 Tryz.underlying101 iF hz0 hz1 hz2 rfl (by omega) vr pk.length (eN pk) rfl l7.o.ro (w13.heap.size+1) (some ⟨w13.heap.size,0,none⟩) 1 1 (eN [y]) rfl ⟨rfl,fun _=>⟨_,rfl,by simp,cell_one_new _ _ _⟩⟩ (fU _) (by simp only[maxLen];omega) (by omega) l7.o.top ?_;intro v15 w15 iR kK rA;obtain⟨g15,c15,rfl,-,-,-⟩:=Row.apk iR (by omega);have yV:=aa (l7.o.appR (ys:=[y]) rfl iR kK);have tE:=(l7.o.aqt kK).frozen 4;have tD:=(l7.o.aqt kK).cell 4;have zw:w15.cell? ⟨w.heap.size,4,none⟩=some vr/\True:=⟨tD,trivial⟩;clear iR kK rA l7 gz;refine hK _ _ (fun _=>zw) ?_;clear hK K;try simp only[ak,ae,af,ag]
        refine fh 7 (by kernel_rfl) rfl rfl (fun K hK=>?_);go_simp;refine hK _ _ (fun _=>zw) ?_;clear hK K;try simp only[ak,ae,af,ag]
        refine fh 8 (by kernel_rfl) rfl rfl (fun K hK=>?_);go_simp;refine hK _ _ (fun h=>absurd h (by decide)) ?_;clear hK K;try simp only[ak,ae,af,ag]
        refine g_ (by kernel_rfl) ?_ _;simp only[Calm,Exit.then];clear hS F_ PY zw tD tE;go_wp2_with fail;go_roundw
        case rel=>exact⟨k+1,_,by go_num,by omega,by rw[Xd.o,ZJ.o];exact yV.o⟩
        case measure=>simp[intOf];omega
       .obtain rfl:k=64:=(by omega);have hd:decide ((64:Int)<64)=false:=(by decide);have hS:=S;rw[show rts.take 64=rts from aN (by omega),HFW.o,Il.o,YT.o]at hS;have sY:=aa hS;clear hS S HS hk hkn HFW Il YT;have Zs:=aa (show ¬ size<fL (⟨uf.map Wr.th,rts,last⟩ :ye).ts from HBG.o);have HIL:=aa (show (⟨uf.map Wr.th,rts,last⟩ :ye).last=last from rfl);generalize (⟨uf.map Wr.th,rts,last⟩ :ye)=im at*;have cf:=sY.o.v.b.fn.cell 0;have uC:=aa sY.o.res;have S_:=aa (show kw g w wr from⟨sY.o.fr.os,sY.o.fr.tape,sY.o.fr.output,sY.o.fr.size,sY.o.kept⟩);have hw3:w.heap.size<=w.heap.size+1+1:=(by omega);have hbg:Bg<=w.heap.size:=(by omega);by_cases hwr:im.apm=true
        .have Pg:=aa hwr;rw[hwr]at cf;clear hwr;simp only[Bool.not_true]at cf;have z0:=uC.o.frozen 0;have z1:=uC.o.frozen 1;have z2:=uC.o.frozen 2;have z3:=uC.o.frozen 3;have z4:=uC.o.frozen 4;have d0:=uC.o.cell 0;have d1:=uC.o.cell 1;have d2:=uC.o.cell 2;have d3:=uC.o.cell 3;have d4:=uC.o.cell 4;have gh:=aa (uC.o.apf (.int .i64 0) (.int .i64 0) (.int .u32 0) (.slice none 0 0) (.slice none 0 0));have jC:=aa (Xv S_.o (g:=w.heap.size+1+1) (by omega) (.int .i64 0) (.int .i64 0) (.int .u32 0) (.slice none 0 0) (.slice none 0 0));go_wp2_with fail;generalize (((((wr.setCell ⟨w.heap.size+1+1,0,none⟩ (.int .i64 0)).setCell ⟨w.heap.size+1+1,1,none⟩ (.int .i64 0)).setCell ⟨w.heap.size+1+1,2,none⟩ (.int .u32 0)).setCell ⟨w.heap.size+1+1,3,none⟩ (.slice none 0 0)).setCell ⟨w.heap.size+1+1,4,none⟩ (.slice none 0 0))=WF at*;clear z0 d0 z1 d1 z2 d2 z3 d3 z4 d4;have f0:=gh.o.cell 0;have f1:=gh.o.cell 1;have f2:=gh.o.cell 2;have f3:=gh.o.cell 3;have f4:=gh.o.cell 4;refine bodyPost_ret (v:=.tuple #[.agg #[.int .i64 0,.int .i64 0,.int .u32 0,.slice none 0 0,.slice none 0 0],.int .i64 145]) (by simp[results,Tryz.results199,go_sem,f0,f1,f2,f3,f4]) rfl ?_;exact⟨jC.o,by rw[if_neg Zs.o,if_pos Pg.o];rfl⟩
        .have Pg:=aa hwr;rw[show im.apm=false by simpa using hwr]at cf;clear hwr;simp only[Bool.not_false]at cf;obtain⟨AW,cW,rfl,hrW⟩:=fy sY.o.wo;obtain⟨AR,cR,rfl,hrR⟩:=fy sY.o.ro;have hn8:=sY.o.l8.2;have Vj:=aa (oN (g:=w.heap.size+1+1) hrW (fun _ a ha e=>by have:=(sY.o.wo.lt a.block (by rw[ha];rfl)).1;omega) (.int .i64 2) (.int .i64 0) (.int .u32 last) (.slice AW im.words.length cW) (.slice AR im.roots.length cR));have TA:=aa (oN (g:=w.heap.size+1+1) hrR (fun _ a ha e=>by have:=(sY.o.ro.lt a.block (by rw[ha];rfl)).1;omega) (.int .i64 2) (.int .i64 0) (.int .u32 last) (.slice AW im.words.length cW) (.slice AR im.roots.length cR));have IE:=aa (show ∀ a,AW=some a\/AR=some a->w.heap.size<=a.block from fun a ha=>by
          have hl4:=sY.o.l4;rcases ha with ha|ha
          .have:=(sY.o.wo.lt a.block (by rw[ha];rfl)).1;omega
          .have:=(sY.o.ro.lt a.block (by rw[ha];rfl)).1;omega)
         have e0:=sY.o.box.cell 0;have e1:=sY.o.box.cell 1;have e2:=sY.o.box.cell 2;have e3:=sY.o.box.cell 3;have e4:=sY.o.box.cell 4;clear hrW hrR sY;have z0:=uC.o.frozen 0;have z1:=uC.o.frozen 1;have z2:=uC.o.frozen 2;have z3:=uC.o.frozen 3;have z4:=uC.o.frozen 4;have d0:=uC.o.cell 0;have d1:=uC.o.cell 1;have d2:=uC.o.cell 2;have d3:=uC.o.cell 3;have d4:=uC.o.cell 4;have gh:=aa (uC.o.apf (.int .i64 2) (.int .i64 0) (.int .u32 last) (.slice AW im.words.length cW) (.slice AR im.roots.length cR));have jC:=aa (Xv S_.o (g:=w.heap.size+1+1) (by omega) (.int .i64 2) (.int .i64 0) (.int .u32 last) (.slice AW im.words.length cW) (.slice AR im.roots.length cR));go_wp2_with fail;generalize (((((wr.setCell ⟨w.heap.size+1+1,0,none⟩ (.int .i64 2)).setCell ⟨w.heap.size+1+1,1,none⟩ (.int .i64 0)).setCell ⟨w.heap.size+1+1,2,none⟩ (.int .u32 last)).setCell ⟨w.heap.size+1+1,3,none⟩ (.slice AW im.words.length cW)).setCell ⟨w.heap.size+1+1,4,none⟩ (.slice AR im.roots.length cR))=WF at*;clear z0 d0 z1 d1 z2 d2 z3 d3 z4 d4;have f0:=gh.o.cell 0;have f1:=gh.o.cell 1;have f2:=gh.o.cell 2;have f3:=gh.o.cell 3;have f4:=gh.o.cell 4;refine bodyPost_ret (v:=.tuple #[.agg #[.int .i64 2,.int .i64 0,.int .u32 last,.slice AW im.words.length cW,.slice AR im.roots.length cR],.int .i64 0]) (by simp[results,Tryz.results199,go_sem,f0,f1,f2,f3,f4]) rfl ?_;exact⟨jC.o,by rw[if_neg Zs.o,if_neg Pg.o];exact⟨AW,AR,cW,cR,by rw[HIL.o];rfl,Vj.o,TA.o,IE.o⟩⟩
end
section
open Go.RowKit
attribute [local go_sem] aP
def rk (bs:List Nat)(size:Nat)(w:World)(e:Ending)(w':World):Prop:=
 Below w.heap.size w w'/\match ly bs with
  | .error E=>e= .returned (.tuple #[yl 0 0 (.slice none 0 0) (.slice none 0 0),.int .i64 (E:Nat)])
  | .ok i=>if size<fL i.ts then e= .returned (.tuple #[yl 0 0 (.slice none 0 0) (.slice none 0 0),.int .i64 4])
    else if i.apm=true then e= .returned (.tuple #[yl 0 0 (.slice none 0 0) (.slice none 0 0),.int .i64 145])
    else ∃ (A1 A2:Option Addr) (c1 c2:Nat),e= .returned (.tuple #[yl 2 i.last (.slice A1 i.words.length c1) (.slice A2 i.roots.length c2),.int .i64 0])/\
     eQ w' w'.heap.size 1 A1 i.words.length (eN i.words)/\eQ w' w'.heap.size 1 A2 i.roots.length (eN i.roots)/\∀ a,A1=some a\/A2=some a->w.heap.size<=a.block
theorem rk.err {bs:List Nat}{size E:Nat}{w w':World}(hb:Below w.heap.size w w')(h:ly bs= .error E):rk bs size w (.returned (.tuple #[.agg #[.int .i64 0,.int .i64 0,.int .u32 0,.slice none 0 0,.slice none 0 0],.int .i64 (E:Nat)])) w':=
 ⟨hb,by rw[h];rfl⟩
structure Ip (w0 W:World) (L b4 b8 gp cp last:Nat) (vs:List Value) (ps:List (List Nat)):Prop where
 res:eW W b4 130 #[.int .i64 0,.int .i64 0,.int .u32 0,.slice none 0 0,.slice none 0 0]
 box:eW W b8 130 #[.int .i64 2,.int .i64 0,.int .u32 last,.slice none 0 0,.slice none 0 0]
 row:Row W gp 22 cp vs
 pay:wI W L vs ps
 fr:Below w0.heap.size w0 W
 h4:w0.heap.size<=b4
 h8:w0.heap.size<=b8
 hp:w0.heap.size<=gp
 hL:w0.heap.size<=L
section
variable {w0 W W':World}{L b4 b8 gp cp last rg:Nat}{vs:List Value}{ps:List (List Nat)}
theorem Ip.read (S:Ip w0 W L b4 b8 gp cp last vs ps)(F:kw rg W W')(h1:b4≠rg)(h2:b8≠rg)(h3:gp≠rg)(h4:L<=rg)(h5:L<=W.heap.size):Ip w0 W' L b4 b8 gp cp last vs ps:=
 ⟨S.res.fr1 F h1,S.box.fr1 F h2,S.row.same (F.same _ S.row.lt h3),S.pay.below (F.below h4 h5),⟨F.os.trans S.fr.os,F.tape.trans S.fr.tape,F.output.trans S.fr.output,ar S.fr.size F.size,fun k hk=>(F.same k (Nat.lt_of_lt_of_le hk S.fr.size) (by have:=S.hL;omega)).trans (S.fr.block k hk)⟩,S.h4,S.h8,S.hp,S.hL⟩
theorem Ip.below (S:Ip w0 W L b4 b8 gp cp last vs ps)(h:Below W.heap.size W W')(h5:L<=W.heap.size):Ip w0 W' L b4 b8 gp cp last vs ps:=
 ⟨S.res.below h S.res.lt,S.box.below h S.box.lt,S.row.below h,S.pay.below (h.mono h5),eF S.fr h,S.h4,S.h8,S.hp,S.hL⟩
theorem Ip.apl (S:Ip w0 W L b4 b8 gp cp last vs ps)(hs:eX w0):eX W:=hs.below S.fr
end
theorem Ip.aqz {w0 W:World}{L b4 b8 gp cp last:Nat}{vs:List Value}{ps:List (List Nat)}(S:Ip w0 W L b4 b8 gp cp last vs ps)(hLb:L<=b8)(v:Nat):Ip w0 (W.setCell ⟨b8,2,none⟩ (.int .u32 v)) L b4 b8 gp cp v vs ps:=by
 have jQ:∀ k,k≠b8->(W.setCell ⟨b8,2,none⟩ (.int .u32 v)).heap[k]? = W.heap[k]? :=fun k h=>Below.heap_setCell W ⟨b8,2,none⟩ (.int .u32 v) k h;have n48:b4≠b8:=fun e=>by
  have h1:=S.res;have h2:=S.box;unfold eW at h1 h2;rw[e,h2]at h1;injection h1 with h1;injection h1 with h1 _;simp at h1
 exact⟨S.res.same (jQ _ n48),S.box.apg 2 _,S.row.same (jQ _ (S.row.aph S.box (by decide))),S.pay.below (Below.setCell (Below.refl _ _) (p:=⟨b8,2,none⟩) hLb _),S.fr.setCell (p:=⟨b8,2,none⟩) S.h8 _,S.h4,S.h8,S.hp,S.hL⟩
theorem JY {bs:List Nat}{ps:List (List Nat)}(h:iy [72,79,82,90] bs= .ok (ps,[]))(hp:lz (ps.getD 0 []) (ps.getD 1 []) (ps.getD 2 []) (ps.getD 3 [])=none):ly bs= .error 143:=by
 unfold ly;rw[h];simp only[ne_eq,not_true_eq_false,if_false,hp]
theorem Nr {bs:List Nat}{ps:List (List Nat)}{i:ye}(h:iy [72,79,82,90] bs= .ok (ps,[]))(hp:lz (ps.getD 0 []) (ps.getD 1 []) (ps.getD 2 []) (ps.getD 3 [])=some i):ly bs= .ok i:=by
 unfold ly;rw[h];simp only[ne_eq,not_true_eq_false,if_false,hp]
def Xr (w:World)(B:Nat)(v:Value)(us:List Wr):Prop:=∀ u∈us,eQ w w.heap.size 1 u.A u.fs.length (eN u.fs)/\∀ a,u.A=some a->B<=a.block/\(0<u.fs.length->v.ownBlock≠some a.block)
theorem Xr.read {w w':World}{B:Nat}{v:Value}{us:List Wr}(N:Xr w B v us)(hsz:w.heap.size<=w'.heap.size)(hk:∀ q,q<w.heap.size->B<=q->w'.heap[q]? = w.heap[q]?):Xr w' B v us:=fun u hu=>by
 obtain⟨h1,h2⟩:=N u hu;refine⟨⟨h1.1,fun hn=>?_⟩,h2⟩;obtain⟨a,ha,hb,hc⟩:=h1.2 hn;exact⟨a,ha,by omega,fun j x hx=>(au (a:=a.add j) (by rw[gi];exact hk a.block hb (h2 a ha).1)).trans (hc j x hx)⟩
theorem Rw (w:World)(u:Wr):eQ (w.alloc (.cells u.cells.toArray 303)) (w.heap.size+1) 8 (some ⟨w.heap.size,0,none⟩) 1 u.cells:=by
 refine⟨rfl,fun _=>⟨_,rfl,by simp,fun j v hv=>?_⟩⟩;rw[aR,bz];refine ((eW.new w _ _).cell j).trans ?_;rw[<-hv];simp
theorem Xr.snoc {w9 w10:World}{Bo lo:Nat}{v v10:Value}{us:List Wr}{u:Wr}{o:Obj}(N:Xr w9 Bo v us)(hrx:eQ w9 w9.heap.size 1 u.A u.fs.length (eN u.fs))(hnx:∀ a,u.A=some a->lo<=a.block)(Ov:Bo<=lo)(KZ:∀ q,v.ownBlock=some q->q<lo){b12:Nat}(hb:lo<=b12)
 (hg:(w9.alloc o).grownBy w10 v.ownBlock)(hat:v10.ownBlock=v.ownBlock\/v10.ownBlock=some (w9.alloc o).heap.size):Xr w10 Bo v10 (us++[u]):=by
 have hs:∀ q,q<w9.heap.size->v.ownBlock≠some q->w10.heap[q]? = w9.heap[q]? :=fun q h1 h2=>(hg.block q (by simp;omega) (fun e=>h2 (by first|exact e|exact e.symm))).trans (Below.heap_alloc w9 o q h1);have hsz:w9.heap.size<=w10.heap.size:=ar (by simp) hg.size;have key:∀ x:Wr,eQ w9 w9.heap.size 1 x.A x.fs.length (eN x.fs)->(∀ a,x.A=some a->Bo<=a.block/\(0<x.fs.length->v.ownBlock≠some a.block))->eQ w10 w10.heap.size 1 x.A x.fs.length (eN x.fs)/\∀ a,x.A=some a->Bo<=a.block/\(0<x.fs.length->v10.ownBlock≠some a.block):=fun x h1 h2=>by
  refine⟨⟨h1.1,fun hn=>?_⟩,fun a ha=>⟨(h2 a ha).1,fun hn e=>?_⟩⟩
  .obtain⟨a,ha,Gb,hc⟩:=h1.2 hn;exact⟨a,ha,by omega,fun j y hy=>(au (a:=a.add j) (by rw[gi];exact hs a.block Gb ((h2 a ha).2 hn))).trans (hc j y hy)⟩
  .obtain⟨a',ha',Gb,_⟩:=h1.2 hn;rw[ha]at ha';injection ha' with ha';subst ha';rcases hat with e2|e2
   .exact (h2 a ha).2 hn (e2 ▸ e)
   .rw[e2]at e;injection e with e;simp at e;omega
 intro x hx;rcases bu.1 hx with hx|hx
 .obtain⟨h1,h2⟩:=N x hx;exact key x h1 h2
 .rcases bg.1 hx with rfl;exact key x hrx (fun a ha=>⟨ar Ov (hnx a ha),fun _ e=>by have:=KZ _ e;have:=hnx a ha;omega⟩)
theorem Ip.low {w0 W W':World}{L b4 b8 gp cp last B:Nat}{vs:List Value}{ps:List (List Nat)}(S:Ip w0 W L b4 b8 gp cp last vs ps)(h1:W'.os=W.os)(h2:W'.tape=W.tape)(h3:W'.output=W.output)(h4:W.heap.size<=W'.heap.size)(hk:∀ q,q<B->W'.heap[q]? = W.heap[q]?)
 (k4:b4<B)(k8:b8<B)(kp:gp<B)(kL:L<=B):Ip w0 W' L b4 b8 gp cp last vs ps:=
 ⟨S.res.same (hk _ k4),S.box.same (hk _ k8),S.row.same (hk _ kp),⟨S.pay.1,fun i p hp=>by
   obtain⟨A,c,a1,a2,a3,a4⟩:=S.pay.2 i p hp;exact⟨A,c,a1,a2,a3.keep (fun q hq=>au (hk q.block (by omega))),a4⟩⟩,⟨h1.trans S.fr.os,h2.trans S.fr.tape,h3.trans S.fr.output,ar S.fr.size h4,fun q hq=>(hk q (by have:=S.hL;omega)).trans (S.fr.block q hq)⟩,S.h4,S.h8,S.hp,S.hL⟩
theorem lm.low {w w':World}{L rg c B:Nat}{A:Option Addr}{bs:List Nat}{bad:Bool}(R:lm w L rg A c bs bad)(hk:∀ q,q<B->w'.heap[q]? = w.heap[q]?)(h:rg<B):lm w' L rg A c bs bad:=
 ⟨R.box.same (hk _ h),R.cap,R.rd.keep (fun q hq=>au (hk q.block (by have:=R.far;omega))),R.far,R.b8⟩
theorem Rp {p2 b' b10 rts:List Nat}{k n10:Nat}{bad d10:Bool}(h:(bad=false->tI k p2=some (rts,b'))/\((∃ q,tI k p2=some q)->bad=false))(D:TH bad (rdNum b') n10 b10 d10):
 (d10=false->tI (k+1) p2=some (rts++[n10],b10))/\((∃ q,tI (k+1) p2=some q)->d10=false):=by
 refine⟨fun e=>?_,fun⟨q,hq⟩=>?_⟩
 .obtain⟨e1,e2⟩:=D.1 e;rw[rQ _ _ _ _ (h.1 e1),e2]
 .have hk:∃ q,tI k p2=some q:=by
   cases hh:tI k p2 with
   | some q=>exact⟨q,rfl⟩
   | none=>rw[Al (k+1) k p2 hh (by omega)]at hq;cases hq
  have hb:=h.2 hk;rw[rQ _ _ _ _ (h.1 hb)]at hq
  cases hn:rdNum b' with
  | none=>rw[hn]at hq;cases hq
  | some r=>exact D.2 hb ⟨r,hn⟩
theorem nU {w w':World}{base s n:Nat}{e:TypeId}{v:Value}{xs:List Value}(h:w.ownsRow base e s v n xs)(hs:∀ k,v.ownBlock=some k->w'.heap[k]? = w.heap[k]?):w'.ownsRow base e s v n xs:=fE h hs
theorem Gd {p0 p1 p2 p3 q4 q6:List Nat}{la many:Nat}{d4 d6:Bool}(D4:TH false (rdNum p0) la q4 d4)(D6:TH d4 (rdNum q4) many q6 d6)(h:d6=true\/q6≠[]):lz p0 p1 p2 p3=none:=by
 unfold lz
 cases d4 with
 | true=>
   have h1:rdNum p0=none:=by
    cases hh:rdNum p0 with
    | none=>rfl
    | some q=>have:=D4.2 rfl ⟨q,hh⟩;cases this
   rw[h1]
 | false=>
   rw[(D4.1 rfl).2];simp only
   cases d6 with
   | true=>
     have h1:rdNum q4=none:=by
      cases hh:rdNum q4 with
      | none=>rfl
      | some q=>have:=D6.2 rfl ⟨q,hh⟩;cases this
     rw[h1]
   | false=>
     rw[(D6.1 rfl).2];simp only;rcases h with h|h
     .cases h
     .rw[if_pos h]
theorem RD {w:World}{base n:Nat}{v:Value}{us:List Wr}(O:w.ownsRow base 303 8 v n (Ib us))(Ix:us.length=n):
 ∃ A c g,v= .slice A us.length c/\base<=g/\(0<us.length->A=some ⟨g,0,none⟩/\BU w g us/\v.ownBlock=some g)/\(us.length=0->g=base):=by
 by_cases h0:0<n
 .obtain⟨g,c,rfl,h1,h2⟩:=UN O Ix h0;exact⟨_,c,g,by rw[Ix],h2,fun _=>⟨rfl,h1,rfl⟩,fun h=>by omega⟩
 .have hn:n=0:=by omega
  rcases O.2 with ⟨rfl,_⟩|⟨g,cap,cur,rfl,_⟩
  .exact⟨none,0,base,by rw[Ix,hn],aj _,fun h=>by omega,fun _=>rfl⟩
  .exact⟨some ⟨g,0,none⟩,cap,base,by rw[Ix],aj _,fun h=>by omega,fun _=>rfl⟩
theorem Dv {p0 p1 p2 p3 q4 gJ b' rts:List Nat}{ts:List Th}{la many:Nat}{bad:Bool}(h0:rdNum p0=some (la,q4))(h1:rdNum q4=some (many,[]))(h2:jJ many p1=some (ts,gJ))
 (K:(bad=false->tI 64 p2=some (rts,b'))/\((∃ q,tI 64 p2=some q)->bad=false)):
 ((gJ≠[]\/bad=true\/b'≠[]\/p3≠[])->lz p0 p1 p2 p3=none)/\(gJ=[]->bad=false->b'=[]->p3=[]->lz p0 p1 p2 p3=some ⟨ts,rts,la⟩):=by
 have e:lz p0 p1 p2 p3=if gJ≠[] then none else match tI 64 p2 with
  | none=>none
  | some (rts,q2)=>if q2≠[]\/p3≠[] then none else some ⟨ts,rts,la⟩:=by
  unfold lz;rw[h0];simp only;rw[h1];simp only;rw[if_neg (by simp),h2];rfl
 rw[e];refine⟨fun h=>?_,fun a b c d=>?_⟩
 .by_cases hb:gJ=[]
  .rw[if_neg (by simpa using hb)]
   cases bad with
   | true=>
     cases hr:tI 64 p2 with
     | none=>rfl
     | some q=>have:=K.2 ⟨q,hr⟩;cases this
   | false=>
     rw[K.1 rfl];simp only;rw[if_pos];rcases h with h|h|h
     .exact absurd hb h
     .cases h
     .exact h
  .rw[if_pos hb]
 .subst a b;rw[if_neg (by simp),K.1 rfl];simp only;rw[if_neg];rintro (h|h)
  .exact h c
  .exact h d
theorem rk.of {bs:List Nat}{size:Nat}{w w':World}{e:Ending}{i:ye}(hb:Below w.heap.size w w')(h:ly bs= .ok i)
 (hc:if size<fL i.ts then e= .returned (.tuple #[yl 0 0 (.slice none 0 0) (.slice none 0 0),.int .i64 4])
   else if i.apm=true then e= .returned (.tuple #[yl 0 0 (.slice none 0 0) (.slice none 0 0),.int .i64 145])
   else ∃ (A1 A2:Option Addr) (c1 c2:Nat),e= .returned (.tuple #[yl 2 i.last (.slice A1 i.words.length c1) (.slice A2 i.roots.length c2),.int .i64 0])/\
    eQ w' w'.heap.size 1 A1 i.words.length (eN i.words)/\eQ w' w'.heap.size 1 A2 i.roots.length (eN i.roots)/\∀ a,A1=some a\/A2=some a->w.heap.size<=a.block):rk bs size w e w':=
 ⟨hb,by rw[h];exact hc⟩
theorem NB {t:Nat}{b:List Nat}{E:Nat}(h:mQ t b= .error E):E≠0:=by
 unfold mQ at h;split at h
 .cases h;decide
 .split at h
  .cases h;decide
  .split at h
   .cases h;decide
   .split at h
    .cases h;decide
    .split at h
     .cases h
     .cases h;decide
theorem um:∀ {ts b:List Nat} {E:Nat},iy ts b= .error E->E≠0
 | [],b,E,h=>by cases h
 | t :: ts,b,E,h=>by
   unfold iy at h;split at h
   .rename_i e he;cases h;exact NB he
   .split at h
    .rename_i he;cases h;exact um he
    .cases h
theorem NC {t:Nat}{b p r:List Nat}(h:mQ t b= .ok (p,r)):p.length+r.length<=b.length:=by
 unfold mQ at h;split at h
 .cases h
 .rename_i x b1;split at h
  .cases h
  .split at h
   .cases h
   .rename_i n b2 hn;obtain⟨_,h2,_⟩:=nY hn;split at h
    .cases h
    .split at h
     .cases h;simp only[aC,List.length_drop,aH];omega
     .cases h
theorem xR:∀ {ts b:List Nat} {ps:List (List Nat)} {r:List Nat},iy ts b= .ok (ps,r)->∀ p∈ps,p.length<=b.length
 | [],b,ps,r,h=>by cases h;exact fun p hp=>by cases hp
 | t :: ts,b,ps,r,h=>by
   unfold iy at h;split at h
   .cases h
   .rename_i p q hq;split at h
    .cases h
    .rename_i Zh r' h2;cases h;have h3:=NC hq;have h4:=xR h2;intro p' Un;rcases aL.1 Un with rfl|Un
     .omega
     .have:=h4 p' Un;omega
theorem J2 {b:List Nat}{p0 p1 p2 p3 r:List Nat}(h:iy [72,79,82,90] b= .ok ([p0,p1,p2,p3],r))(_:∀ x∈b,x<256):p0.length<=b.length/\p1.length<=b.length/\p2.length<=b.length:=by
 have h1:=xR h;exact⟨h1 p0 (by simp),h1 p1 (by simp),h1 p2 (by simp)⟩
theorem EL {w:World}{A:Option Addr}{n c:Nat}{bs:List Nat}{size:Nat}(hs:eX w)(hr:eQ w w.heap.size 1 A n (fP bs))(hc:n<=c)(hn:n<=9000000)(h8:∀ x∈bs,x<256)(hsize:size<=1048576):
 Calls Tryz.prog 140 #[.slice A n c,.int .i64 size] w (rk bs size w):=by
 have hbl:bs.length=n:=by have:=hr.1;rw[gW]at this;omega
 have hb0:=(Below.refl w.heap.size w).alloc (aj _) (.cells #[.int .i64 0,.int .i64 0,.int .u32 0,.slice none 0 0,.slice none 0 0] 130);have HSC:=aa (EZ (w:=w.alloc (.cells #[.int .i64 0,.int .i64 0,.int .u32 0,.slice none 0 0,.slice none 0 0] 130)) (c:=c) ((hr.below hb0).more hb0.size) hc hn h8);have j8:=aa hb0;have yM:=aa (eW.new w 130 #[.int .i64 0,.int .i64 0,.int .u32 0,.slice none 0 0,.slice none 0 0]);have yX:=aa hs;have X_:(w.alloc (.cells #[.int .i64 0,.int .i64 0,.int .u32 0,.slice none 0 0,.slice none 0 0] 130)).heap.size=w.heap.size+1:=by simp
 clear hr hb0 hs;go_enter Tryz.func140,Tryz.ntmps140;go_wp2_with fail;generalize w.alloc (.cells #[.int .i64 0,.int .i64 0,.int .u32 0,.slice none 0 0,.slice none 0 0] 130)=W0 at*;refine HSC.o.mono ?_;rintro e w1 ⟨hb1,hm⟩;have Bz:=aa (eF j8.o hb1);have j_:=aa (yM.o.below hb1 yM.o.lt);clear HSC
 cases nO:iy [72,79,82,90] bs with
 | error E=>
   rw[nO]at hm;simp only at hm;subst hm;have hE:E≠0:=um nO;have he:((E:Int) != 0)=true:=(by simp;omega);have mF:=aa (show ly bs= .error E from by unfold ly;rw[nO]);clear nO hE j8 yM hb1;have z0:=j_.o.frozen 0;have z1:=j_.o.frozen 1;have z2:=j_.o.frozen 2;have z3:=j_.o.frozen 3;have z4:=j_.o.frozen 4;have d0:=j_.o.cell 0;have d1:=j_.o.cell 1;have d2:=j_.o.cell 2;have d3:=j_.o.cell 3;have d4:=j_.o.cell 4;have gh:=aa (j_.o.apf (.int .i64 0) (.int .i64 0) (.int .u32 0) (.slice none 0 0) (.slice none 0 0));have jC:=aa (hZ Bz.o (g:=w.heap.size) (by omega) (.int .i64 0) (.int .i64 0) (.int .u32 0) (.slice none 0 0) (.slice none 0 0));go_wp2_with fail;generalize (((((w1.setCell ⟨w.heap.size,0,none⟩ (.int .i64 0)).setCell ⟨w.heap.size,1,none⟩ (.int .i64 0)).setCell ⟨w.heap.size,2,none⟩ (.int .u32 0)).setCell ⟨w.heap.size,3,none⟩ (.slice none 0 0)).setCell ⟨w.heap.size,4,none⟩ (.slice none 0 0))=WF at*;clear z0 d0 z1 d1 z2 d2 z3 d3 z4 d4;have f0:=gh.o.cell 0;have f1:=gh.o.cell 1;have f2:=gh.o.cell 2;have f3:=gh.o.cell 3;have f4:=gh.o.cell 4;refine bodyPost_ret (v:=.tuple #[.agg #[.int .i64 0,.int .i64 0,.int .u32 0,.slice none 0 0,.slice none 0 0],.int .i64 (E:Nat)]) (by simp[results,Tryz.results140,go_sem,f0,f1,f2,f3,f4]) rfl ?_;exact rk.err jC.o mF.o
 | ok q =>
   obtain⟨ps,rest⟩:=q;rw[nO]at hm;simp only at hm;by_cases K4:rest=[]
   .subst K4;rw[if_pos rfl]at hm;obtain⟨vp,vs,rfl,hown,Mz,hpl⟩:=hm;obtain⟨gp,cp,rfl,hrow,-,hgp⟩:=Row.apk hown (by omega)
    match ps,hpl with
    | [p0, p1, p2, p3],_=>
      obtain⟨A0,c0,v0,k0,r0,y0⟩:=Mz.2 0 p0 rfl;obtain⟨A1,c1,v1,k1,r1,y1⟩:=Mz.2 1 p1 rfl;obtain⟨A2,c2,v2,k2,r2,y2⟩:=Mz.2 2 p2 rfl;obtain⟨A3,c3,v3,k3,r3,y3⟩:=Mz.2 3 p3 rfl;have sw:=J2 nO h8;have hL1:W0.heap.size<=w1.heap.size:=hb1.size;have hb2:Below w1.heap.size w1 (w1.alloc (.cells #[.int .i64 2,.int .i64 0,.int .u32 0,.slice none 0 0,.slice none 0 0] 130)):=(Below.refl _ _).alloc (aj _) _
      have Ee:=aa (show Ip w (w1.alloc (.cells #[.int .i64 2,.int .i64 0,.int .u32 0,.slice none 0 0,.slice none 0 0] 130)) W0.heap.size w.heap.size w1.heap.size gp cp 0 vs [p0,p1,p2,p3] from
       ⟨j_.o.below hb2 j_.o.lt,eW.new w1 _ _,hrow.below hb2,Mz.below (hb2.mono hL1),eF Bz.o hb2,aj _,by omega,by omega,by omega⟩)
      have HV:=aa (show vs[0]? = some (.slice A0 p0.length c0)/\vs[1]? = some (.slice A1 p1.length c1)/\vs[2]? = some (.slice A2 p2.length c2)/\vs[3]? = some (.slice A3 p3.length c3) from⟨v0,v1,v2,v3⟩);have HK:=aa (show p0.length<=c0/\p1.length<=c1/\p2.length<=c2/\p3.length<=c3 from⟨k0,k1,k2,k3⟩);have HY:=aa (show (∀ x∈p0,x<256)/\(∀ x∈p1,x<256)/\(∀ x∈p2,x<256) from⟨y0,y1,y2⟩);have uN:=aa (fun (W':World) (h:wI W' W0.heap.size vs [p0,p1,p2,p3])=>show eQ W' W0.heap.size 1 A0 p0.length (fP p0)/\eQ W' W0.heap.size 1 A1 p1.length (fP p1)/\eQ W' W0.heap.size 1 A2 p2.length (fP p2) from by
       obtain⟨a0,d0,e0,_,f0,_⟩:=h.2 0 p0 rfl;obtain⟨a1,d1,e1,_,f1,_⟩:=h.2 1 p1 rfl;obtain⟨a2,d2,e2,_,f2,_⟩:=h.2 2 p2 rfl;rw[v0]at e0;rw[v1]at e1;rw[v2]at e2;injection e0 with e0;injection e1 with e1;injection e2 with e2;injection e0 with e0 _ _;injection e1 with e1 _ _;injection e2 with e2 _ _;exact⟨by rw[e0];exact f0,by rw[e1];exact f1,by rw[e2];exact f2⟩)
      have U9:=aa (show lz p0 p1 p2 p3=none->ly bs= .error 143 from fun h=>JY nO h);have O_:=aa (fun i=>show lz p0 p1 p2 p3=some i->ly bs= .ok i from fun h=>Nr nO h);clear v0 v1 v2 v3 k0 k1 k2 k3 y0 y1 y2 y3 r0 r1 r2 r3 nO hown Mz hrow j_ Bz j8 yM hb1 hb2;go_upto_region 5 with fail;generalize w1.alloc (.cells #[.int .i64 2,.int .i64 0,.int .u32 0,.slice none 0 0,.slice none 0 0] 130)=W2 at*;have l9:w1.heap.size<W2.heap.size:=Ee.o.box.lt;generalize agB:w1.heap.size=b8 at*;clear agB;generalize hLg:W0.heap.size=L at*;have hLw:w.heap.size<L:=(by omega);clear hLg X_;have q0:=Ee.o.row.cell HV.o.1;have hLW:L<=W2.heap.size:=(by omega);have hgW:gp<W2.heap.size:=Ee.o.row.lt;have h4W:w.heap.size<W2.heap.size:=Ee.o.res.lt;have hb3:Below W2.heap.size W2 (W2.alloc (.cells #[.slice A0 p0.length c0,.bool false] 300)):=(Below.refl _ _).alloc (aj _) _
      have WT:=aa (show lm (W2.alloc (.cells #[.slice A0 p0.length c0,.bool false] 300)) L W2.heap.size A0 c0 p0 false from
       ⟨eW.new W2 _ _,HK.o.1,((uN.o W2 Ee.o.pay).1).below (hb3.mono hLW),hLW,HY.o.1⟩)
      have Cy:=aa (Ee.o.below hb3 hLW);clear Ee hb3;go_upto_region 6 with fail;clear q0;have al8:W2.heap.size<(W2.alloc (.cells #[.slice A0 p0.length c0,.bool false] 300)).heap.size:=(by simp);generalize W2.alloc (.cells #[.slice A0 p0.length c0,.bool false] 300)=W3 at*;generalize W2.heap.size=g1 at*;have HN:=aa (ji WT.o (by omega));go_wp2_with fail;refine HN.o.mono ?_;rintro e w4 ⟨la,A4,c4,q4,d4,rfl,vk,R4,F4,D4,e4,he4⟩;have LF:=aa D4;have Ef:=aa (Cy.o.read F4 (by omega) (by omega) (by omega) hLW (by omega));have hl4:q4.length<=9000000:=(by have:=sw.1;rw[he4,aw]at this;omega);have WV:=aa R4;have hg4:g1<w4.heap.size:=R4.box.lt;clear HN R4 F4 D4 he4 WT Cy;have c2:=Ef.o.box.cell 2;have y2:=Ef.o.box.frozen 2;have YN:=aa (Ef.o.aqz hL1 la);have j9:=aa (WV.o.set (g:=b8) (i:=2) (v:=.int .u32 la) (by omega) hL1);clear Ef WV;go_upto_region 7 with fail;clear c2 y2;have hg5:g1<(w4.setCell ⟨b8,2,none⟩ (.int .u32 (la:Int))).heap.size:=(by simp[aT];exact hg4);generalize w4.setCell ⟨b8,2,none⟩ (.int .u32 (la:Int))=W5 at*;have HN:=aa (ji j9.o hl4);go_wp2_with fail;refine HN.o.mono ?_;rintro e w6 ⟨many,A6,c6,q6,d6,rfl,aj6,R6,F6,D6,e6,he6⟩;have LG:=aa D6;have Kr:=aa (YN.o.read F6 (by omega) (by omega) (by omega) hLW (by omega));have YP:=aa R6;have r0:=R6.box.cell 0;have r1:=R6.box.cell 1;clear HN R6 F6 D6 he6 j9 YN
      cases d6 with
      | true=>
        have mF:=aa (show ly bs= .error 143 from U9.o (Gd LF.o LG.o (.inl rfl)));have qR:=aa Kr.o.res;have Si:=aa Kr.o.fr;clear Kr YP U9 O_ uN;have z0:=qR.o.frozen 0;have z1:=qR.o.frozen 1;have z2:=qR.o.frozen 2;have z3:=qR.o.frozen 3;have z4:=qR.o.frozen 4;have d0:=qR.o.cell 0;have d1:=qR.o.cell 1;have d2:=qR.o.cell 2;have d3:=qR.o.cell 3;have d4:=qR.o.cell 4;have gh:=aa (qR.o.apf (.int .i64 0) (.int .i64 0) (.int .u32 0) (.slice none 0 0) (.slice none 0 0));have jC:=aa (hZ Si.o (g:=w.heap.size) (by omega) (.int .i64 0) (.int .i64 0) (.int .u32 0) (.slice none 0 0) (.slice none 0 0));go_wp2_with fail;generalize (((((w6.setCell ⟨w.heap.size,0,none⟩ (.int .i64 0)).setCell ⟨w.heap.size,1,none⟩ (.int .i64 0)).setCell ⟨w.heap.size,2,none⟩ (.int .u32 0)).setCell ⟨w.heap.size,3,none⟩ (.slice none 0 0)).setCell ⟨w.heap.size,4,none⟩ (.slice none 0 0))=WF at*;clear z0 d0 z1 d1 z2 d2 z3 d3 z4 d4;have f0:=gh.o.cell 0;have f1:=gh.o.cell 1;have f2:=gh.o.cell 2;have f3:=gh.o.cell 3;have f4:=gh.o.cell 4;refine bodyPost_ret (v:=.tuple #[.agg #[.int .i64 0,.int .i64 0,.int .u32 0,.slice none 0 0,.slice none 0 0],.int .i64 143]) (by simp[results,Tryz.results140,go_sem,f0,f1,f2,f3,f4]) rfl ?_;exact rk.err jC.o mF.o
      | false =>
        obtain⟨hd4,h6⟩:=LG.o.1 rfl;obtain⟨_,h4⟩:=LF.o.1 hd4;have r0':w6.cell? ⟨g1,0,none⟩=some (.slice A6 q6.length c6):=r0;obtain⟨lq,hlq⟩ :∃ l,l=q6.length:=⟨_,rfl⟩;rw[<-hlq]at r0';have YG:=aa hlq;clear hlq r0;by_cases hq6:lq=0
        .have hd0 :decide (0<(lq:Int))=false:=decide_eq_false (by omega);have hq0:q6=[]:=aA (by rw[<-YG.o];exact hq6);have Kn:=aa (show rdNum p0=some (la,q4)/\rdNum q4=some (many,[]) from⟨h4,by rw[h6,hq0]⟩);clear h4 h6 hd4 LF LG hq0;go_upto_region 10 with fail;clear r0' r1 YP YG;have TU:L<=w6.heap.size:=(by have:=Kr.o.row.lt;omega);have amz:gp<w6.heap.size:=Kr.o.row.lt;have alJ:w.heap.size<w6.heap.size:=Kr.o.res.lt;have alO:b8<w6.heap.size:=Kr.o.box.lt;have q1:=Kr.o.row.cell HV.o.2.1;have kT:Below w6.heap.size w6 (w6.alloc (.cells #[.slice A1 p1.length c1,.bool false] 300)):=(Below.refl _ _).alloc (aj _) _
         have Cz:=aa (show lm (w6.alloc (.cells #[.slice A1 p1.length c1,.bool false] 300)) L w6.heap.size A1 c1 p1 false from
          ⟨eW.new w6 _ _,HK.o.2.1,((uN.o w6 Kr.o.pay).2.1).below (kT.mono TU),TU,HY.o.2.1⟩)
         have HP7:=aa (Kr.o.below kT TU);clear Kr kT;go_upto_region 11 with fail;clear q1;have al9:w6.heap.size<(w6.alloc (.cells #[.slice A1 p1.length c1,.bool false] 300)).heap.size:=(by simp);generalize w6.alloc (.cells #[.slice A1 p1.length c1,.bool false] 300)=W7 at*;generalize w6.heap.size=g2 at*;have hsp:0<L:=(by have:=World.block_lt_of_cell? _ _ (yX.o 0 (by omega));omega);obtain⟨i0,iF,hz0,hz1,hz2⟩:=info_parts Uw;go_wp2_with fail
         go_loopw [11,54] (fun v i wr=>∃ (k:Nat) (us:List Wr) (A':Option Addr) (c':Nat) (gJ:List Nat),i= .int .u32 k/\k<=many/\Ip w wr L w.heap.size b8 gp cp la vs [p0,p1,p2,p3]/\lm wr L g2 A' c' gJ false/\wr.ownsRow W7.heap.size 303 8 v k (Ib us)/\Xr wr W7.heap.size v us/\jJ k p1=some (us.map Wr.th,gJ)/\W7.heap.size<=wr.heap.size) (fun _ i _=>many-(intOf i).toNat)
         case atStart=>exact⟨0,[],A1,c1,p1,rfl,aB _,HP7.o,Cz.o,⟨rfl,.inl ⟨rfl,rfl⟩⟩,fun u hu=>(by cases hu),rfl,aj _⟩
         case round=>
          clear HP7 Cz;obtain⟨k,us,A',c',gJ,rfl,hk,P,R,O,N,K,hW⟩:=hrel;obtain⟨Bt,ace,hkb,dk,Y4⟩:=xd _ _ _ _ K HY.o.2.1;have Ix:us.length=k:=(by rw[ay]at Bt;exact Bt);have hbl:gJ.length<=9000000:=(by omega);have amQ:k<=2250000:=(by omega);have Xf:=aa Ix;have YE:=aa ace;have HKB:=aa hkb;clear Y4 Ix Bt ace hkb;have HP:=aa P;have HR:=aa R;have HO:=aa O;have HN:=aa N;have IC:=aa K;by_cases hkm:k<many
          .have hd:decide ((k:Int)<(many:Int))=true:=(by simp;omega);have Ed:=aa (GR R hbl (P.apl yX.o) hsp);clear P R O N K;go_wp2_with fail;refine Ed.o.mono ?_;rintro e w8 ⟨v8,A8,c8,bs8,afT,rfl,hv8,R8,F8,iY,Qg⟩;have HFS:=aa F8.size;have Sq:=aa (show ∀ q,u11.ownBlock=some q->q<wr.heap.size from fun q hq=>(HO.o.lt q hq).2);have WP:=aa (HP.o.read F8 (by omega) (by omega) (by omega) TU (by omega));have IG:=aa (nU HO.o (fun q hq=>F8.same q (HO.o.lt q hq).2 (by have:=(HO.o.lt q hq).1;omega)));have HN8:=aa (HN.o.read (w':=w8) F8.size (fun q h1 h2=>F8.same q h1 (by omega)));have hW8:W7.heap.size<=w8.heap.size:=ar hW F8.size;clear Ed HP HO HN;have rr1:=R8.box.cell 1;have ri:=aa R8;clear R8 F8
           cases afT with
           | true=>
             obtain⟨x8,Af,nf,cf,rfl⟩:=hv8;have hno:=iY rfl
             have mF:=aa (show ly bs= .error 143 from U9.o (by
              have h1:=rR _ _ _ _ IC.o;rw[hno]at h1;unfold lz;rw[Kn.o.1];simp only;rw[Kn.o.2];simp only;rw[if_neg (by simp),xQ many (k+1) p1 h1 (by omega)]))
             clear iY Qg hno U9 O_ uN IC HN8 IG HR;unfold Fc qH;have lN:Below w8.heap.size w8 (w8.alloc (.cells #[.int .i64 x8.size,.int .i64 x8.fmt,.int .i64 x8.spare,.int .u32 0,.int .u32 x8.ser,.int .u32 x8.cls,.slice Af nf cf,.int .i64 ((0:Nat):Int)] 303)):=(Below.refl _ _).alloc (aj _) _;have Tt:=aa (WP.o.below lN (by omega));have rr1:=(ri.o.below lN).box.cell 1;clear lN WP ri;go_upto_region 15 with fail;generalize w8.alloc (.cells #[.int .i64 x8.size,.int .i64 x8.fmt,.int .i64 x8.spare,.int .u32 0,.int .u32 x8.ser,.int .u32 x8.cls,.slice Af nf cf,.int .i64 ((0:Nat):Int)] 303)=w9 at*;have Ph:=aa Tt.o.res;have Wt:=aa Tt.o.fr;clear Tt;have z0:=Ph.o.frozen 0;have z1:=Ph.o.frozen 1;have z2:=Ph.o.frozen 2;have z3:=Ph.o.frozen 3;have z4:=Ph.o.frozen 4;have d0:=Ph.o.cell 0;have d1:=Ph.o.cell 1;have d2:=Ph.o.cell 2;have d3:=Ph.o.cell 3;have d4:=Ph.o.cell 4;have gh:=aa (Ph.o.apf (.int .i64 0) (.int .i64 0) (.int .u32 0) (.slice none 0 0) (.slice none 0 0));have jC:=aa (hZ Wt.o (g:=w.heap.size) (by omega) (.int .i64 0) (.int .i64 0) (.int .u32 0) (.slice none 0 0) (.slice none 0 0));go_wp2_with fail;generalize (((((w9.setCell ⟨w.heap.size,0,none⟩ (.int .i64 0)).setCell ⟨w.heap.size,1,none⟩ (.int .i64 0)).setCell ⟨w.heap.size,2,none⟩ (.int .u32 0)).setCell ⟨w.heap.size,3,none⟩ (.slice none 0 0)).setCell ⟨w.heap.size,4,none⟩ (.slice none 0 0))=WF at*;clear z0 d0 z1 d1 z2 d2 z3 d3 z4 d4;have f0:=gh.o.cell 0;have f1:=gh.o.cell 1;have f2:=gh.o.cell 2;have f3:=gh.o.cell 3;have f4:=gh.o.cell 4;refine bodyPost_ret (v:=.tuple #[.agg #[.int .i64 0,.int .i64 0,.int .u32 0,.slice none 0 0,.slice none 0 0],.int .i64 143]) (by simp[results,Tryz.results140,go_sem,f0,f1,f2,f3,f4]) rfl ?_;exact rk.err jC.o mF.o
           | false=>
             obtain⟨t,acs,Ax,cx,rfl,hrx,hnx⟩:=Qg rfl;have afn:=aa acs;clear hv8 iY Qg acs;unfold Fc qH;have lN:Below w8.heap.size w8 (w8.alloc (.cells #[.int .i64 t.x.size,.int .i64 t.x.fmt,.int .i64 t.x.spare,.int .u32 0,.int .u32 t.x.ser,.int .u32 t.x.cls,.slice Ax t.fs.length cx,.int .i64 ((0:Nat):Int)] 303)):=(Below.refl _ _).alloc (aj _) _;have B9:=eW.new w8 303 #[.int .i64 t.x.size,.int .i64 t.x.fmt,.int .i64 t.x.spare,.int .u32 0,.int .u32 t.x.ser,.int .u32 t.x.cls,.slice Ax t.fs.length cx,.int .i64 ((0:Nat):Int)];have Tt:=aa (WP.o.below lN (by omega));have Ik:=aa (ri.o.below lN);have BL:=aa (nU IG.o (fun q hq=>lN.block q (IG.o.lt q hq).2));have HN9:=aa (HN8.o.read lN.size (fun q h1 _=>lN.block q h1));have acM:=(hrx.below lN).more lN.size;have mn:=aa (show ∀ a,Ax=some a->wr.heap.size<=a.block from hnx);have W_:=aa acM;have hW9:W7.heap.size<=(w8.alloc (.cells #[.int .i64 t.x.size,.int .i64 t.x.fmt,.int .i64 t.x.spare,.int .u32 0,.int .u32 t.x.ser,.int .u32 t.x.cls,.slice Ax t.fs.length cx,.int .i64 ((0:Nat):Int)] 303)).heap.size:=ar hW8 lN.size;have ahP:wr.heap.size<=w8.heap.size:=HFS.o;have rr1:=Ik.o.box.cell 1;clear lN WP ri IG HN8 hrx hnx acM HR hW8;go_upto_region 15 with fail;generalize w8.alloc (.cells #[.int .i64 t.x.size,.int .i64 t.x.fmt,.int .i64 t.x.spare,.int .u32 0,.int .u32 t.x.ser,.int .u32 t.x.cls,.slice Ax t.fs.length cx,.int .i64 ((0:Nat):Int)] 303)=w9 at*;generalize w8.heap.size=b12 at*;have o0:=B9.cell 0;have o1:=B9.cell 1;have o2:=B9.cell 2;have o3:=B9.cell 3;have o4:=B9.cell 4;have o5:=B9.cell 5;have o6:=B9.cell 6;have o7:=B9.cell 7;clear B9;have Ga:Below w9.heap.size w9 (w9.alloc (.cells #[.int .i64 t.x.size,.int .i64 t.x.fmt,.int .i64 t.x.spare,.int .u32 0,.int .u32 t.x.ser,.int .u32 t.x.cls,.slice Ax t.fs.length cx,.int .i64 0] 303)):=(Below.refl _ _).alloc (aj _) _;have Ij:=aa (nU BL.o (fun q hq=>Ga.block q (BL.o.lt q hq).2));go_wp2_with (at_builtin;refine eM _ rfl (.tmp 63) (.tmp 65) _ rfl W7.heap.size 303 i0 _ 8 72 Tryz.underlying301 iF hz0 hz1 hz2 rfl (by omega) u11 k (Ib us) rfl Ij.o (w9.heap.size+1) (some ⟨w9.heap.size,0,none⟩) 1 1 (Wr.cells ⟨t.x,Ax,cx,t.fs,0⟩) rfl (Rw w9 ⟨t.x,Ax,cx,t.fs,0⟩) (Yt _) (by simp only[maxLen];omega) (by omega) (by simp;omega) ?_;intro v10 w10 t_ oJ KQ);have nM:∀ q,q<W7.heap.size->w10.heap[q]? = w9.heap[q]? :=fun q hq=>(oJ.block q (by simp;omega) (fun e=>by have:=(Ij.o.lt q (by first|exact e|exact e.symm)).1;omega)).trans (Ga.block q (by omega));have MF:w9.heap.size<=w10.heap.size:=ar Ga.size oJ.size;have Ts:=aa (Tt.o.low (oJ.os.trans Ga.os) (oJ.tape.trans Ga.tape) (oJ.output.trans Ga.output) MF nM (by omega) (by omega) (by omega) (by omega));have afv:=aa (Ik.o.low (w':=w10) nM (by omega));have afi:=aa (HN9.o.snoc (u:=(⟨t.x,Ax,cx,t.fs,0⟩ :Wr)) (lo:=wr.heap.size) W_.o mn.o hW Sq.o ahP oJ KQ);have ae9:=aa (show jJ (k+1) p1=some ((us++[(⟨t.x,Ax,cx,t.fs,0⟩ :Wr)]).map Wr.th,bs8) from by
              have h1:=rR _ _ _ _ IC.o;rw[afn.o]at h1;rw[h1,az];rfl)
             rw[<-Sc]at t_;have Tm:=aa t_;have ags:W7.heap.size<=w10.heap.size:=ar hW9 MF;clear t_ oJ KQ nM MF Tt Ik BL HN9 Ij Ga W_ mn Sq;go_roundw
             case rel=>exact⟨k+1,us++[(⟨t.x,Ax,cx,t.fs,0⟩ :Wr)],A8,c8,bs8,by go_num,by omega,Ts.o,afv.o,Tm.o,afi.o,ae9.o,ags⟩
             case measure=>simp[intOf];omega
          .obtain rfl:many=k:=(by omega);have hd:decide ((many:Int)<(many:Int))=false:=(by simp);have rr0:wr.cell? ⟨g2,0,none⟩=some (.slice A' gJ.length c'):=R.box.cell 0;obtain⟨lb,Fa⟩ :∃ l,l=gJ.length:=⟨_,rfl⟩;rw[<-Fa]at rr0;have Sn:=aa Fa;have q2:=P.row.cell HV.o.2.2.1;have TV:L<=wr.heap.size:=(by omega);have lN:Below wr.heap.size wr (wr.alloc (.cells #[.slice A2 p2.length c2,.bool false] 300)):=(Below.refl _ _).alloc (aj _) _
           have Ik:=aa (show lm (wr.alloc (.cells #[.slice A2 p2.length c2,.bool false] 300)) L wr.heap.size A2 c2 p2 false from
            ⟨eW.new wr _ _,HK.o.2.2.1,((uN.o wr P.pay).2.2).below (lN.mono TV),TV,HY.o.2.2⟩)
           have Tt:=aa (P.below lN TV);have BL:=aa (nU O (fun q hq=>lN.block q (O.lt q hq).2))
           have Sp:=aa (show ∀ u∈us,eQ (wr.alloc (.cells #[.slice A2 p2.length c2,.bool false] 300)) wr.heap.size 1 u.A u.fs.length (eN u.fs)/\(0<u.fs.length->∀ a,u.A=some a->u11.ownBlock≠some a.block) from
            fun u hu=>⟨(N u hu).1.keep (fun q hq=>au (lN.block q.block hq)),fun h0 a ha=>((N u hu).2 a ha).2 h0⟩)
           have IH:=aa (show ∀ q,u11.ownBlock=some q->q<wr.heap.size from fun q hq=>(O.lt q hq).2);have hW9:W7.heap.size<=(wr.alloc (.cells #[.slice A2 p2.length c2,.bool false] 300)).heap.size:=(by simp;omega);have amw:wr.heap.size<(wr.alloc (.cells #[.slice A2 p2.length c2,.bool false] 300)).heap.size:=(by simp);clear P R O N K HP HR HO HN Fa lN hk hkm i0 iF hz0 hz1 hz2;go_upto_region 21 with fail;generalize wr.alloc (.cells #[.slice A2 p2.length c2,.bool false] 300)=W9 at*;have hWw:W7.heap.size<=wr.heap.size:=hW;clear q2 rr0 hd hW;generalize wr.heap.size=g3 at*;obtain⟨i0,iF,hz0,hz1,hz2⟩:=info_parts jR;go_wp2_with fail
           go_loopw [14,79] (fun r i wr=>∃ (k:Nat) (rts:List Nat) (A':Option Addr) (c':Nat) (b':List Nat) (bad:Bool),i= .int .i64 k/\k<=64/\kw g3 W9 wr/\lm wr L g3 A' c' b' bad/\wr.ownsRow W9.heap.size 32 1 r k (eN rts)/\(∀ x∈rts,x<4294967296)/\(bad=false->tI k p2=some (rts,b'))/\((∃ q,tI k p2=some q)->bad=false)/\b'.length<=9000000) (fun _ i _=>64-(intOf i).toNat)
           case atStart=>exact⟨0,[],A2,c2,p2,false,rfl,by omega,kw.refl _ _,Ik.o,⟨rfl,.inl ⟨rfl,rfl⟩⟩,fun _ h=>(by cases h),fun _=>rfl,fun _=>rfl,by have:=sw.2.2;omega⟩
           case round=>
            clear Ik;obtain⟨k,rts,A',c',b',bad,rfl,hk,F,R,O,h32,K1,K2,hbl⟩:=hrel;have HF:=aa F;have HR:=aa R;have HO:=aa O;have yL:=aa h32;have Te:=aa (And.intro K1 K2);clear F R O h32 K1 K2;by_cases agZ:k<64
            .have hd:decide ((k:Int)<64)=true:=(by simp;omega);have Sp:=aa (ji HR.o hbl);go_wp2_with fail;refine Sp.o.mono ?_;rintro e w10 ⟨n10,Lz,c10,b10,d10,rfl,ahm,R10,F10,D10,e10,abO⟩;have ag3:b10.length<=9000000:=(by rw[abO,aw]at hbl;omega);have IB:=aa (HF.o.trans F10);have O5:=aa (fE HO.o (fun q hq=>F10.same q (HO.o.lt q hq).2 (by have:=(HO.o.lt q hq).1;omega)));have aak:=aa R10;have ZV:=aa (Rp Te.o D10);have aq0:∀ x∈rts++[n10],x<4294967296:=fun x hx=>by
              rcases bu.1 hx with h|h
              .exact yL.o x h
              .rcases bg.1 h with rfl;exact ahm
             have V9:=aa aq0;have ajs:W9.heap.size<=w10.heap.size:=IB.o.size;clear Sp R10 F10 D10 abO HF HO HR Te yL aq0;have Ga:Below w10.heap.size w10 (w10.alloc (.cells #[.int .u32 (n10:Nat)] 32)):=(Below.refl _ _).alloc (aj _) _;have Ij:=aa (fE O5.o (fun q hq=>Ga.block q (O5.o.lt q hq).2));go_wp2_with (at_builtin;refine eM _ rfl (.tmp 81) (.tmp 84) _ rfl W9.heap.size 32 i0 _ 1 4 Tryz.underlying84 iF hz0 hz1 hz2 rfl (by omega) u14 k (eN rts) rfl Ij.o (w10.heap.size+1) (some ⟨w10.heap.size,0,none⟩) 1 1 (eN [n10]) rfl ⟨rfl,fun _=>⟨_,rfl,by simp,cell_one_new _ _ _⟩⟩ (fU _) (by simp only[maxLen];omega) (by omega) (by simp;omega) ?_;intro v12 w12 lx Mr abl);have nM:∀ q,q<W9.heap.size->w12.heap[q]? = w10.heap[q]? :=fun q hq=>(Mr.block q (by simp;omega) (fun e=>by have:=(Ij.o.lt q (by first|exact e|exact e.symm)).1;omega)).trans (Ga.block q (by omega));have MF:w10.heap.size<=w12.heap.size:=ar Ga.size Mr.size;have rh:=aa (aak.o.low (w':=w12) nM (by omega));have LH:=aa (show kw g3 W9 w12 from⟨(Mr.os.trans Ga.os).trans IB.o.os,(Mr.tape.trans Ga.tape).trans IB.o.tape,(Mr.output.trans Ga.output).trans IB.o.output,ar IB.o.size MF,fun q h1 h2=>(nM q h1).trans (IB.o.same q h1 h2)⟩);have e12:eN rts++eN [n10]=eN (rts++[n10]):=(by unfold eN;rw[az]);rw[e12]at lx;have Eb:=aa lx;clear lx Mr abl nM MF Ij Ga e12 O5 IB aak;go_roundw
             case rel=>exact⟨k+1,rts++[n10],Lz,c10,b10,d10,by go_num,by omega,LH.o,rh.o,Eb.o,V9.o,ZV.o.1,ZV.o.2,ag3⟩
             case measure=>simp[intOf];omega
            .obtain rfl:k=64:=(by omega);have hd:decide ((64:Int)<64)=false:=(by decide);have abd:L<=W9.heap.size:=(by omega);have m_:=aa (Tt.o.read HF.o (by omega) (by omega) (by omega) TV abd);have rr0:wr.cell? ⟨g3,0,none⟩=some (.slice A' b'.length c'):=HR.o.box.cell 0;have rr1:wr.cell? ⟨g3,1,none⟩=some (.bool bad):=HR.o.box.cell 1;have q3:=m_.o.row.cell HV.o.2.2.2;obtain⟨l2,hl2⟩ :∃ l,l=b'.length:=⟨_,rfl⟩;obtain⟨l3,Y8⟩ :∃ l,l=p3.length:=⟨_,rfl⟩;rw[<-hl2]at rr0;rw[<-Y8]at q3;have O1:=aa hl2;have WG:=aa Y8;clear hl2 Y8
             have pS:=aa (show (0<lb\/bad=true\/0<l2\/0<l3)->ly bs= .error 143 from fun h=>U9.o ((Dv Kn.o.1 Kn.o.2 IC.o Te.o).1 (by
              rcases h with h|h|h|h
              .left;intro e;rw[Sn.o,e]at h;exact absurd h (by simp)
              .exact .inr (.inl h)
              .right;right;left;intro e;rw[O1.o,e]at h;exact absurd h (by simp)
              .right;right;right;intro e;rw[WG.o,e]at h;exact absurd h (by simp))))
             have YM:=aa (show lb=0->bad=false->l2=0->l3=0->ly bs= .ok ⟨us.map Wr.th,rts,la⟩ from fun a b c d=>O_.o _ ((Dv Kn.o.1 Kn.o.2 IC.o Te.o).2 (aA (by rw[<-Sn.o];exact a)) b (aA (by rw[<-O1.o];exact c)) (aA (by rw[<-WG.o];exact d))));clear U9 O_ uN hbl hk Tt agZ;by_cases ag9:lb=0
             .have Iq:decide (0<(lb:Int))=false:=decide_eq_false (by omega)
              cases bad with
              | true=>
                have mF:=aa (show ly bs= .error 143 from pS.o (.inr (.inl rfl)));have jD:=aa m_.o.res;have BA:=aa m_.o.fr;clear m_ pS YM Sp IH BL HO HF HR yL Te IC Sn O1 WG YE Xf Kn;have z0:=jD.o.frozen 0;have z1:=jD.o.frozen 1;have z2:=jD.o.frozen 2;have z3:=jD.o.frozen 3;have z4:=jD.o.frozen 4;have d0:=jD.o.cell 0;have d1:=jD.o.cell 1;have d2:=jD.o.cell 2;have d3:=jD.o.cell 3;have d4:=jD.o.cell 4;have gh:=aa (jD.o.apf (.int .i64 0) (.int .i64 0) (.int .u32 0) (.slice none 0 0) (.slice none 0 0));have jC:=aa (hZ BA.o (g:=w.heap.size) (by omega) (.int .i64 0) (.int .i64 0) (.int .u32 0) (.slice none 0 0) (.slice none 0 0));go_wp2_with fail;generalize (((((wr.setCell ⟨w.heap.size,0,none⟩ (.int .i64 0)).setCell ⟨w.heap.size,1,none⟩ (.int .i64 0)).setCell ⟨w.heap.size,2,none⟩ (.int .u32 0)).setCell ⟨w.heap.size,3,none⟩ (.slice none 0 0)).setCell ⟨w.heap.size,4,none⟩ (.slice none 0 0))=WF at*;clear z0 d0 z1 d1 z2 d2 z3 d3 z4 d4;have f0:=gh.o.cell 0;have f1:=gh.o.cell 1;have f2:=gh.o.cell 2;have f3:=gh.o.cell 3;have f4:=gh.o.cell 4;refine bodyPost_ret (v:=.tuple #[.agg #[.int .i64 0,.int .i64 0,.int .u32 0,.slice none 0 0,.slice none 0 0],.int .i64 143]) (by simp[results,Tryz.results140,go_sem,f0,f1,f2,f3,f4]) rfl ?_;exact rk.err jC.o mF.o
              | false=>
                by_cases ag5:l2=0
                .have qY:decide (0<(l2:Int))=false:=decide_eq_false (by omega);by_cases ag7:l3=0
                 .have hd3:decide (0<(l3:Int))=false:=decide_eq_false (by omega);have HIM:=aa (YM.o ag9 rfl ag5 ag7);have hO:wr.ownsRow W7.heap.size 303 8 u11 many (Ib us):=nU BL.o (fun q hq=>HF.o.same q (BL.o.lt q hq).2 (by have:=IH.o q hq;omega));obtain⟨Ao,co,go,ahJ,hgo,Qf,ab0⟩:=RD hO Xf.o;obtain⟨Ar,cr,qV,Fb⟩:=fy HO.o;have amF:go<=g3:=by
                   rcases bi us.length with h|h
                   .have:=ab0 h;omega
                   .exact bD (IH.o go (Qf h).2.2)
                  have ans:W9.heap.size<=wr.heap.size:=HF.o.size;have HAR:=aa (show ∀ a,Ar=some a->a.block≠go from fun a ha e=>by have:=(HO.o.lt a.block (by rw[qV,ha];rfl)).1;omega);have HWB:=aa (show Sw wr wr.heap.size go us from fun u hu=>⟨((Sp.o u hu).1.keep (fun q hq=>au (HF.o.same q.block (by omega) (by omega)))).more (by omega),fun h0 a ha e=>by
                   rcases bi us.length with h|h
                   .rw[List.length_eq_zero_iff.1 h]at hu;cases hu
                   .exact (Sp.o u hu).2 h0 a ha (by rw[(Qf h).2.2,e])⟩)
                  have ahI:us.length<=9000000:=(by rw[Xf.o];omega);have HLY:=aa (QF (w:=wr) (Bg:=L) (g:=go) (c:=co) (nr:=64) (cr:=cr) (last:=la) (size:=size) (A:=Ao) (Ar:=Ar) (us:=us) (rts:=rts) (m_.o.apl yX.o) hsp (by omega) (by omega) (fun h=>⟨(Qf h).1,(Qf h).2.1⟩) ahI YE.o HWB.o Fb HAR.o yL.o rfl hsize vk);have agE:L<=go:=(by omega);have n4:w.heap.size≠go:=(by omega);have n8:b8≠go:=(by omega);have np:gp≠go:=(by omega);have agp:L<=wr.heap.size:=(by omega);have agb:w.heap.size<wr.heap.size:=(by omega);subst ahJ qV;have e0:=m_.o.box.cell 0;have e1:=m_.o.box.cell 1;have e2:=m_.o.box.cell 2;have e3:=m_.o.box.cell 3;have e4:=m_.o.box.cell 4;clear pS YM Sp IH BL HO HF HR yL Te IC Sn O1 WG YE Xf Kn hO Fb HAR HWB Qf ab0;go_wp2_with fail;unfold yl at HLY;refine HLY.o.mono ?_;rintro e wz ⟨FL,gI⟩;have Pa:=m_.o.read FL n4 n8 np agE agp;have jD:=aa Pa.res;have BA:=aa Pa.fr;have anu:wr.heap.size<=wz.heap.size:=FL.size;clear Pa m_ HLY FL;by_cases h1:size<fL (us.map Wr.th)
                  .rw[if_pos h1]at gI;unfold yl at gI;subst gI;have xr:=aa h1;clear h1;have z0:=jD.o.frozen 0;have z1:=jD.o.frozen 1;have z2:=jD.o.frozen 2;have z3:=jD.o.frozen 3;have z4:=jD.o.frozen 4;have d0:=jD.o.cell 0;have d1:=jD.o.cell 1;have d2:=jD.o.cell 2;have d3:=jD.o.cell 3;have d4:=jD.o.cell 4;have gh:=aa (jD.o.apf (.int .i64 0) (.int .i64 0) (.int .u32 0) (.slice none 0 0) (.slice none 0 0));have jC:=aa (hZ BA.o (g:=w.heap.size) (by omega) (.int .i64 0) (.int .i64 0) (.int .u32 0) (.slice none 0 0) (.slice none 0 0));go_wp2_with fail;generalize (((((wz.setCell ⟨w.heap.size,0,none⟩ (.int .i64 0)).setCell ⟨w.heap.size,1,none⟩ (.int .i64 0)).setCell ⟨w.heap.size,2,none⟩ (.int .u32 0)).setCell ⟨w.heap.size,3,none⟩ (.slice none 0 0)).setCell ⟨w.heap.size,4,none⟩ (.slice none 0 0))=WF at*;clear z0 d0 z1 d1 z2 d2 z3 d3 z4 d4;have f0:=gh.o.cell 0;have f1:=gh.o.cell 1;have f2:=gh.o.cell 2;have f3:=gh.o.cell 3;have f4:=gh.o.cell 4;refine bodyPost_ret (v:=.tuple #[.agg #[.int .i64 0,.int .i64 0,.int .u32 0,.slice none 0 0,.slice none 0 0],.int .i64 4]) (by simp[results,Tryz.results140,go_sem,f0,f1,f2,f3,f4]) rfl ?_;exact rk.of jC.o HIM.o (by rw[if_pos xr.o];rfl)
                  .rw[if_neg h1]at gI;have xr:=aa (show ¬ size<fL (⟨us.map Wr.th,rts,la⟩ :ye).ts from h1);clear h1;generalize (⟨us.map Wr.th,rts,la⟩ :ye)=im at*;by_cases h2:im.apm=true
                   .rw[if_pos h2]at gI;unfold yl at gI;subst gI;have nD:=aa h2;clear h2;have z0:=jD.o.frozen 0;have z1:=jD.o.frozen 1;have z2:=jD.o.frozen 2;have z3:=jD.o.frozen 3;have z4:=jD.o.frozen 4;have d0:=jD.o.cell 0;have d1:=jD.o.cell 1;have d2:=jD.o.cell 2;have d3:=jD.o.cell 3;have d4:=jD.o.cell 4;have gh:=aa (jD.o.apf (.int .i64 0) (.int .i64 0) (.int .u32 0) (.slice none 0 0) (.slice none 0 0));have jC:=aa (hZ BA.o (g:=w.heap.size) (by omega) (.int .i64 0) (.int .i64 0) (.int .u32 0) (.slice none 0 0) (.slice none 0 0));go_wp2_with fail;generalize (((((wz.setCell ⟨w.heap.size,0,none⟩ (.int .i64 0)).setCell ⟨w.heap.size,1,none⟩ (.int .i64 0)).setCell ⟨w.heap.size,2,none⟩ (.int .u32 0)).setCell ⟨w.heap.size,3,none⟩ (.slice none 0 0)).setCell ⟨w.heap.size,4,none⟩ (.slice none 0 0))=WF at*;clear z0 d0 z1 d1 z2 d2 z3 d3 z4 d4;have f0:=gh.o.cell 0;have f1:=gh.o.cell 1;have f2:=gh.o.cell 2;have f3:=gh.o.cell 3;have f4:=gh.o.cell 4;refine bodyPost_ret (v:=.tuple #[.agg #[.int .i64 0,.int .i64 0,.int .u32 0,.slice none 0 0,.slice none 0 0],.int .i64 145]) (by simp[results,Tryz.results140,go_sem,f0,f1,f2,f3,f4]) rfl ?_;exact rk.of jC.o HIM.o (by rw[if_neg xr.o,if_pos nD.o];rfl)
                   .rw[if_neg h2]at gI;obtain⟨A1,A2,c1,c2,gI,hr1,hr2,KY⟩:=gI;unfold yl at gI;subst gI;have nD:=aa h2;clear h2;have Vj:=aa (oN (g:=w.heap.size) hr1 (fun _ a ha e=>by have:=KY a (.inl ha);omega) (.int .i64 2) (.int .i64 0) (.int .u32 im.last) (.slice A1 im.words.length c1) (.slice A2 im.roots.length c2));have TA:=aa (oN (g:=w.heap.size) hr2 (fun _ a ha e=>by have:=KY a (.inr ha);omega) (.int .i64 2) (.int .i64 0) (.int .u32 im.last) (.slice A1 im.words.length c1) (.slice A2 im.roots.length c2));have IE:=aa (show ∀ a,A1=some a\/A2=some a->w.heap.size<=a.block from fun a ha=>ar (bD agb) (KY a ha));clear hr1 hr2 KY;have z0:=jD.o.frozen 0;have z1:=jD.o.frozen 1;have z2:=jD.o.frozen 2;have z3:=jD.o.frozen 3;have z4:=jD.o.frozen 4;have d0:=jD.o.cell 0;have d1:=jD.o.cell 1;have d2:=jD.o.cell 2;have d3:=jD.o.cell 3;have d4:=jD.o.cell 4;have gh:=aa (jD.o.apf (.int .i64 2) (.int .i64 0) (.int .u32 im.last) (.slice A1 im.words.length c1) (.slice A2 im.roots.length c2));have jC:=aa (hZ BA.o (g:=w.heap.size) (by omega) (.int .i64 2) (.int .i64 0) (.int .u32 im.last) (.slice A1 im.words.length c1) (.slice A2 im.roots.length c2));go_wp2_with fail;generalize (((((wz.setCell ⟨w.heap.size,0,none⟩ (.int .i64 2)).setCell ⟨w.heap.size,1,none⟩ (.int .i64 0)).setCell ⟨w.heap.size,2,none⟩ (.int .u32 im.last)).setCell ⟨w.heap.size,3,none⟩ (.slice A1 im.words.length c1)).setCell ⟨w.heap.size,4,none⟩ (.slice A2 im.roots.length c2))=WF at*;clear z0 d0 z1 d1 z2 d2 z3 d3 z4 d4;have f0:=gh.o.cell 0;have f1:=gh.o.cell 1;have f2:=gh.o.cell 2;have f3:=gh.o.cell 3;have f4:=gh.o.cell 4;refine bodyPost_ret (v:=.tuple #[.agg #[.int .i64 2,.int .i64 0,.int .u32 im.last,.slice A1 im.words.length c1,.slice A2 im.roots.length c2],.int .i64 0]) (by simp[results,Tryz.results140,go_sem,f0,f1,f2,f3,f4]) rfl ?_;exact rk.of jC.o HIM.o (by rw[if_neg xr.o,if_neg nD.o];exact⟨A1,A2,c1,c2,rfl,Vj.o,TA.o,IE.o⟩)
                 .have hd3:decide (0<(l3:Int))=true:=decide_eq_true (by omega);have ag8:0<l3:=(by omega);have mF:=aa (show ly bs= .error 143 from pS.o (.inr (.inr (.inr ag8))));have jD:=aa m_.o.res;have BA:=aa m_.o.fr;clear m_ pS YM Sp IH BL HO HF HR yL Te IC Sn O1 WG YE Xf Kn;have z0:=jD.o.frozen 0;have z1:=jD.o.frozen 1;have z2:=jD.o.frozen 2;have z3:=jD.o.frozen 3;have z4:=jD.o.frozen 4;have d0:=jD.o.cell 0;have d1:=jD.o.cell 1;have d2:=jD.o.cell 2;have d3:=jD.o.cell 3;have d4:=jD.o.cell 4;have gh:=aa (jD.o.apf (.int .i64 0) (.int .i64 0) (.int .u32 0) (.slice none 0 0) (.slice none 0 0));have jC:=aa (hZ BA.o (g:=w.heap.size) (by omega) (.int .i64 0) (.int .i64 0) (.int .u32 0) (.slice none 0 0) (.slice none 0 0));go_wp2_with fail;generalize (((((wr.setCell ⟨w.heap.size,0,none⟩ (.int .i64 0)).setCell ⟨w.heap.size,1,none⟩ (.int .i64 0)).setCell ⟨w.heap.size,2,none⟩ (.int .u32 0)).setCell ⟨w.heap.size,3,none⟩ (.slice none 0 0)).setCell ⟨w.heap.size,4,none⟩ (.slice none 0 0))=WF at*;clear z0 d0 z1 d1 z2 d2 z3 d3 z4 d4;have f0:=gh.o.cell 0;have f1:=gh.o.cell 1;have f2:=gh.o.cell 2;have f3:=gh.o.cell 3;have f4:=gh.o.cell 4;refine bodyPost_ret (v:=.tuple #[.agg #[.int .i64 0,.int .i64 0,.int .u32 0,.slice none 0 0,.slice none 0 0],.int .i64 143]) (by simp[results,Tryz.results140,go_sem,f0,f1,f2,f3,f4]) rfl ?_;exact rk.err jC.o mF.o
                .have qY:decide (0<(l2:Int))=true:=decide_eq_true (by omega);have ag6:0<l2:=(by omega);have mF:=aa (show ly bs= .error 143 from pS.o (.inr (.inr (.inl ag6))));have jD:=aa m_.o.res;have BA:=aa m_.o.fr;clear m_ pS YM Sp IH BL HO HF HR yL Te IC Sn O1 WG YE Xf Kn;have z0:=jD.o.frozen 0;have z1:=jD.o.frozen 1;have z2:=jD.o.frozen 2;have z3:=jD.o.frozen 3;have z4:=jD.o.frozen 4;have d0:=jD.o.cell 0;have d1:=jD.o.cell 1;have d2:=jD.o.cell 2;have d3:=jD.o.cell 3;have d4:=jD.o.cell 4;have gh:=aa (jD.o.apf (.int .i64 0) (.int .i64 0) (.int .u32 0) (.slice none 0 0) (.slice none 0 0));have jC:=aa (hZ BA.o (g:=w.heap.size) (by omega) (.int .i64 0) (.int .i64 0) (.int .u32 0) (.slice none 0 0) (.slice none 0 0));go_wp2_with fail;generalize (((((wr.setCell ⟨w.heap.size,0,none⟩ (.int .i64 0)).setCell ⟨w.heap.size,1,none⟩ (.int .i64 0)).setCell ⟨w.heap.size,2,none⟩ (.int .u32 0)).setCell ⟨w.heap.size,3,none⟩ (.slice none 0 0)).setCell ⟨w.heap.size,4,none⟩ (.slice none 0 0))=WF at*;clear z0 d0 z1 d1 z2 d2 z3 d3 z4 d4;have f0:=gh.o.cell 0;have f1:=gh.o.cell 1;have f2:=gh.o.cell 2;have f3:=gh.o.cell 3;have f4:=gh.o.cell 4;refine bodyPost_ret (v:=.tuple #[.agg #[.int .i64 0,.int .i64 0,.int .u32 0,.slice none 0 0,.slice none 0 0],.int .i64 143]) (by simp[results,Tryz.results140,go_sem,f0,f1,f2,f3,f4]) rfl ?_;exact rk.err jC.o mF.o
             .have Iq:decide (0<(lb:Int))=true:=decide_eq_true (by omega);have ag_:0<lb:=(by omega);have mF:=aa (show ly bs= .error 143 from pS.o (.inl ag_));have jD:=aa m_.o.res;have BA:=aa m_.o.fr;clear m_ pS YM Sp IH BL HO HF HR yL Te IC Sn O1 WG YE Xf Kn;have z0:=jD.o.frozen 0;have z1:=jD.o.frozen 1;have z2:=jD.o.frozen 2;have z3:=jD.o.frozen 3;have z4:=jD.o.frozen 4;have d0:=jD.o.cell 0;have d1:=jD.o.cell 1;have d2:=jD.o.cell 2;have d3:=jD.o.cell 3;have d4:=jD.o.cell 4;have gh:=aa (jD.o.apf (.int .i64 0) (.int .i64 0) (.int .u32 0) (.slice none 0 0) (.slice none 0 0));have jC:=aa (hZ BA.o (g:=w.heap.size) (by omega) (.int .i64 0) (.int .i64 0) (.int .u32 0) (.slice none 0 0) (.slice none 0 0));go_wp2_with fail;generalize (((((wr.setCell ⟨w.heap.size,0,none⟩ (.int .i64 0)).setCell ⟨w.heap.size,1,none⟩ (.int .i64 0)).setCell ⟨w.heap.size,2,none⟩ (.int .u32 0)).setCell ⟨w.heap.size,3,none⟩ (.slice none 0 0)).setCell ⟨w.heap.size,4,none⟩ (.slice none 0 0))=WF at*;clear z0 d0 z1 d1 z2 d2 z3 d3 z4 d4;have f0:=gh.o.cell 0;have f1:=gh.o.cell 1;have f2:=gh.o.cell 2;have f3:=gh.o.cell 3;have f4:=gh.o.cell 4;refine bodyPost_ret (v:=.tuple #[.agg #[.int .i64 0,.int .i64 0,.int .u32 0,.slice none 0 0,.slice none 0 0],.int .i64 143]) (by simp[results,Tryz.results140,go_sem,f0,f1,f2,f3,f4]) rfl ?_;exact rk.err jC.o mF.o
        .have hd0:decide (0<(lq:Int))=true:=decide_eq_true (by omega);have Qp:0<lq:=(by omega);have mF:=aa (show ly bs= .error 143 from U9.o (Gd LF.o LG.o (.inr (fun e=>hq6 (by rw[YG.o,e];rfl)))));have qR:=aa Kr.o.res;have Si:=aa Kr.o.fr;clear Kr YP U9 O_ uN h4 h6 hq6;have z0:=qR.o.frozen 0;have z1:=qR.o.frozen 1;have z2:=qR.o.frozen 2;have z3:=qR.o.frozen 3;have z4:=qR.o.frozen 4;have d0:=qR.o.cell 0;have d1:=qR.o.cell 1;have d2:=qR.o.cell 2;have d3:=qR.o.cell 3;have d4:=qR.o.cell 4;have gh:=aa (qR.o.apf (.int .i64 0) (.int .i64 0) (.int .u32 0) (.slice none 0 0) (.slice none 0 0));have jC:=aa (hZ Si.o (g:=w.heap.size) (by omega) (.int .i64 0) (.int .i64 0) (.int .u32 0) (.slice none 0 0) (.slice none 0 0));go_wp2_with fail;generalize (((((w6.setCell ⟨w.heap.size,0,none⟩ (.int .i64 0)).setCell ⟨w.heap.size,1,none⟩ (.int .i64 0)).setCell ⟨w.heap.size,2,none⟩ (.int .u32 0)).setCell ⟨w.heap.size,3,none⟩ (.slice none 0 0)).setCell ⟨w.heap.size,4,none⟩ (.slice none 0 0))=WF at*;clear z0 d0 z1 d1 z2 d2 z3 d3 z4 d4;have f0:=gh.o.cell 0;have f1:=gh.o.cell 1;have f2:=gh.o.cell 2;have f3:=gh.o.cell 3;have f4:=gh.o.cell 4;refine bodyPost_ret (v:=.tuple #[.agg #[.int .i64 0,.int .i64 0,.int .u32 0,.slice none 0 0,.slice none 0 0],.int .i64 143]) (by simp[results,Tryz.results140,go_sem,f0,f1,f2,f3,f4]) rfl ?_;exact rk.err jC.o mF.o
   .rw[if_neg K4]at hm;subst hm;have mF:=aa (show ly bs= .error 143 from by unfold ly;rw[nO];simp only;rw[if_pos K4]);clear nO K4 j8 yM hb1;have z0:=j_.o.frozen 0;have z1:=j_.o.frozen 1;have z2:=j_.o.frozen 2;have z3:=j_.o.frozen 3;have z4:=j_.o.frozen 4;have d0:=j_.o.cell 0;have d1:=j_.o.cell 1;have d2:=j_.o.cell 2;have d3:=j_.o.cell 3;have d4:=j_.o.cell 4;have gh:=aa (j_.o.apf (.int .i64 0) (.int .i64 0) (.int .u32 0) (.slice none 0 0) (.slice none 0 0));have jC:=aa (hZ Bz.o (g:=w.heap.size) (by omega) (.int .i64 0) (.int .i64 0) (.int .u32 0) (.slice none 0 0) (.slice none 0 0));go_wp2_with fail;generalize (((((w1.setCell ⟨w.heap.size,0,none⟩ (.int .i64 0)).setCell ⟨w.heap.size,1,none⟩ (.int .i64 0)).setCell ⟨w.heap.size,2,none⟩ (.int .u32 0)).setCell ⟨w.heap.size,3,none⟩ (.slice none 0 0)).setCell ⟨w.heap.size,4,none⟩ (.slice none 0 0))=WF at*;clear z0 d0 z1 d1 z2 d2 z3 d3 z4 d4;have f0:=gh.o.cell 0;have f1:=gh.o.cell 1;have f2:=gh.o.cell 2;have f3:=gh.o.cell 3;have f4:=gh.o.cell 4;refine bodyPost_ret (v:=.tuple #[.agg #[.int .i64 0,.int .i64 0,.int .u32 0,.slice none 0 0,.slice none 0 0],.int .i64 143]) (by simp[results,Tryz.results140,go_sem,f0,f1,f2,f3,f4]) rfl ?_;exact rk.err jC.o mF.o
end
section
open Go.RowKit Go.BigFrame
attribute [local go_sem] aP
theorem AX (i m y:Nat)(hm:m<2 ^ i)(hy:y*2 ^ i<4294967296)(wy:m<4294967296):bits .or .u32 (m:Int) ((y*2 ^ i:Nat):Int)=((m+y*2 ^ i:Nat):Int):=by
 rw[u32_or_nat _ _ wy hy,Nat.or_comm,nat_join i _ _ (by simp) hm,Nat.add_comm]
theorem or4 {a b c d:Nat}(ha:a<256)(hb:b<256)(hc:c<256)(hd:d<256):bits .or .u32 (bits .or .u32 (bits .or .u32 (a:Int) ((b:Int)*256)) ((c:Int)*65536)) ((d:Int)*16777216)=((a+b*256+c*65536+d*16777216:Nat):Int):=by
 have h1:=AX 8 a b (by omega) (by omega) (by omega);have h2:=AX 16 (a+b*2 ^ 8) c (by omega) (by omega) (by omega);have h3:=AX 24 (a+b*2 ^ 8+c*2 ^ 16) d (by omega) (by omega) (by omega);rw[show ((b:Int)*256)=((b*2 ^ 8:Nat):Int) by omega,show ((c:Int)*65536)=((c*2 ^ 16:Nat):Int) by omega,show ((d:Int)*16777216)=((d*2 ^ 24:Nat):Int) by omega,h1,h2,h3]
theorem Nx {w:World}{B g n c i:Nat}{A:Option Addr}{bs:List Nat}(hB:eW w g 22 #[.slice A n c])(hr:eQ w B 1 A n (fP bs))(hi:i+3<n)(hn:n<=9000000)(h8:∀ x∈bs,x<256):
 Calls Tryz.prog 195 #[.int .i64 i,.pointer (some ⟨g,0,none⟩)] w (fun e w'=>e= .returned (.int .u32 (gM bs i))/\∃ m,w'=w.drewN m):=by
 have hbl:bs.length=n:=by have:=hr.1;rw[gW]at this;omega
 obtain⟨ad,rfl,hb,hx⟩:=hr.2 (by omega)
 have hc:∀ j,j<n->w.cell? (ad.add j)=some (.int .u8 (bs.getD j 0:Nat)):=fun j hj=>hx j _ (by
  unfold fP;rw[aF,ai,ah (by omega)];rfl)
 have c0:=hc i (by omega);have c1:w.cell? ⟨ad.block,ad.off+(i+1),none⟩=some (.int .u8 (bs.getD (i+1) 0:Nat)):=by
  have:=hc (i+1) (by omega);unfold Addr.add at this;rw[if_neg (by omega)]at this;exact this
 have c2:w.cell? ⟨ad.block,ad.off+(i+2),none⟩=some (.int .u8 (bs.getD (i+2) 0:Nat)):=by
  have:=hc (i+2) (by omega);unfold Addr.add at this;rw[if_neg (by omega)]at this;exact this
 have c3:w.cell? ⟨ad.block,ad.off+(i+3),none⟩=some (.int .u8 (bs.getD (i+3) 0:Nat)):=by
  have:=hc (i+3) (by omega);unfold Addr.add at this;rw[if_neg (by omega)]at this;exact this
 have e:gM bs i=bs.getD i 0+bs.getD (i+1) 0*256+bs.getD (i+2) 0*65536+bs.getD (i+3) 0*16777216:=rfl;have b0:bs.getD i 0<256:=jt bs h8 _;have b1:bs.getD (i+1) 0<256:=jt bs h8 _;have b2:bs.getD (i+2) 0<256:=jt bs h8 _;have b3:bs.getD (i+3) 0<256:=jt bs h8 _;rw[e];generalize bs.getD i 0=x0 at*;generalize bs.getD (i+1) 0=x1 at*;generalize bs.getD (i+2) 0=x2 at*;generalize bs.getD (i+3) 0=x3 at*;have Vf:=or4 b0 b1 b2 b3;have d0:w.cell? ⟨g,0,none⟩=some (.slice (some ad) n c):=hB.cell 0;clear hc hx hr hB e h8 hb;go_enter Tryz.func195,Tryz.ntmps195;go_upto_region 1 with fail
 go_quiet (fail)
 go_wp2_with fail;refine bodyPost_ret (v:=.int .u32 ((x0+x1*256+x2*65536+x3*16777216:Nat):Int)) (by simp[results,Tryz.results195,go_sem]) rfl ?_;exact⟨rfl,nq,rfl⟩
end
section
open Go.RowKit
attribute [local go_sem] aP
def Ei (bs:List Nat)(w:World)(e:Ending)(w':World):Prop:=
 Below w.heap.size w w'/\match uh bs with
  | .error E=>e= .returned (.tuple #[yl 0 0 (.slice none 0 0) (.slice none 0 0),.int .i64 (E:Nat)])
  | .ok r=>∃ (A1 A2:Option Addr) (c1 c2:Nat),e= .returned (.tuple #[yl 1 r.last (.slice A1 r.words.length c1) (.slice A2 r.roots.length c2),.int .i64 0])/\
   eQ w' w'.heap.size 1 A1 r.words.length (eN r.words)/\eQ w' w'.heap.size 1 A2 r.roots.length (eN r.roots)/\∀ a,A1=some a\/A2=some a->w.heap.size<=a.block
theorem Ei.err {bs:List Nat}{E:Nat}{w w':World}(hb:Below w.heap.size w w')(h:uh bs= .error E):Ei bs w (.returned (.tuple #[.agg #[.int .i64 0,.int .i64 0,.int .u32 0,.slice none 0 0,.slice none 0 0],.int .i64 (E:Nat)])) w':=
 ⟨hb,by rw[h];rfl⟩
theorem IW {B:Nat}{w w':World}(h:Below B w w')(k:Nat):Below B w (w'.drewN k):=⟨h.os,h.tape,h.output,h.size,h.block⟩
theorem rZ {bs:List Nat}(h8:∀ x∈bs,x<256)(i:Nat):gM bs i<4294967296:=by
 unfold gM;have h0:=jt bs h8 i;have h1:=jt bs h8 (i+1);have h2:=jt bs h8 (i+2);have h3:=jt bs h8 (i+3);omega
structure wH (w0 W:World) (A:Option Addr) (n c:Nat) (bs:List Nat):Prop where
 inb:eW W w0.heap.size 22 #[.slice A n c]
 rd:eQ W w0.heap.size 1 A n (fP bs)
 res:eW W (w0.heap.size+1) 130 #[.int .i64 0,.int .i64 0,.int .u32 0,.slice none 0 0,.slice none 0 0]
 fr:Below w0.heap.size w0 W
theorem wH.drew {w0 W:World}{A:Option Addr}{n c:Nat}{bs:List Nat}(S:wH w0 W A n c bs)(k:Nat):wH w0 (W.drewN k) A n c bs:=
 ⟨S.inb,S.rd,S.res,IW S.fr k⟩
theorem wH.same {w0 wr w':World}{A:Option Addr}{n c:Nat}{bs:List Nat}(S:wH w0 wr A n c bs)(hos:w'.os=wr.os)(ht:w'.tape=wr.tape)(ho:w'.output=wr.output)(hsz:wr.heap.size<=w'.heap.size)
 (hk:∀ k,k<w0.heap.size+2->w'.heap[k]? = wr.heap[k]?):wH w0 w' A n c bs:=
 ⟨S.inb.same (hk _ (by omega)),S.rd.keep (fun q hq=>au (hk q.block (by omega))),S.res.same (hk _ (by omega)),⟨hos.trans S.fr.os,ht.trans S.fr.tape,ho.trans S.fr.output,ar S.fr.size hsz,fun k p_=>(hk k (by omega)).trans (S.fr.block k p_)⟩⟩
structure lT (w0 wr:World) (A:Option Addr) (n c:Nat) (bs:List Nat) (b5 last:Nat) (vw:Value) (ws:List Nat) (vr:Value) (rs:List Nat):Prop where
 a:wH w0 wr A n c bs
 box:eW wr b5 130 #[.int .i64 1,.int .i64 0,.int .u32 last,vw,vr]
 wo:wr.ownsRow (b5+1) 32 1 vw ws.length (eN ws)
 ro:wr.ownsRow (b5+1) 54 1 vr rs.length (eN rs)
 top:b5+1<=wr.heap.size
 h5:w0.heap.size+2<=b5
section
variable {w0 wr w':World}{A:Option Addr}{n c b5 last:Nat}{bs ws rs:List Nat}{vw vr v':Value}
theorem lT.drew (S:lT w0 wr A n c bs b5 last vw ws vr rs)(k:Nat):lT w0 (wr.drewN k) A n c bs b5 last vw ws vr rs:=
 ⟨S.a.drew k,S.box,S.wo,S.ro,S.top,S.h5⟩
theorem lT.below (S:lT w0 wr A n c bs b5 last vw ws vr rs)(h:Below wr.heap.size wr w'):lT w0 w' A n c bs b5 last vw ws vr rs:=
 ⟨S.a.same h.os h.tape h.output h.size (fun k hk=>h.block k (by have:=S.top;have:=S.h5;omega)),S.box.below h S.box.lt,fE S.wo (fun k hk=>h.block k (S.wo.lt k hk).2),fE S.ro (fun k hk=>h.block k (S.ro.lt k hk).2),ar S.top h.size,S.h5⟩
theorem lT.aqm {ys:List Nat}{m:Nat}(S:lT w0 wr A n c bs b5 last vw ws vr rs)(hm:ys.length=m)(ho:w'.ownsRow (b5+1) 32 1 v' (ws.length+m) (eN ws++eN ys))(hg:wr.grownBy w' vw.ownBlock):
 lT w0 (w'.setCell ⟨b5,3,none⟩ v') A n c bs b5 last v' (ws++ys) vr rs:=by
 have hs:∀ k,k<wr.heap.size->vw.ownBlock≠some k->w'.heap[k]? = wr.heap[k]? :=fun k h1 h2=>hg.block k h1 (fun e=>h2 (by first|exact e|exact e.symm));have ahG:=S.top;have h5:=S.h5;have hB:∀ k,k<b5+1->w'.heap[k]? = wr.heap[k]? :=fun k h1=>hs k (by omega) (fun e=>by have:=(S.wo.lt k e).1;omega);have jQ:∀ k,k≠b5->(w'.setCell ⟨b5,3,none⟩ v').heap[k]? = w'.heap[k]? :=fun k h=>Below.heap_setCell w' ⟨b5,3,none⟩ v' k h;have hsz:(w'.setCell ⟨b5,3,none⟩ v').heap.size=w'.heap.size:=by simp[aT]
 have hgs:=hg.size;refine⟨S.a.same hg.os hg.tape hg.output (by rw[hsz];exact hg.size) (fun k h1=>(jQ k (by omega)).trans (hB k (by omega))),(S.box.same (hB _ (by omega))).apg 3 v',?_,?_,by rw[hsz];omega,h5⟩
 .have h1:=fE (w':=w'.setCell ⟨b5,3,none⟩ v') ho (fun k e=>jQ k (by have:=(ho.lt k e).1;omega));rw[aw,hm,show eN (ws++ys)=eN ws++eN ys by simp[eN]];exact h1
 .exact fE S.ro (fun k e=>(jQ k (by have:=(S.ro.lt k e).1;omega)).trans (hs k (S.ro.lt k e).2 (vP S.ro S.wo (by decide) e)))
theorem lT.appR {ys:List Nat}{m:Nat}(S:lT w0 wr A n c bs b5 last vw ws vr rs)(hm:ys.length=m)(ho:w'.ownsRow (b5+1) 54 1 v' (rs.length+m) (eN rs++eN ys))(hg:wr.grownBy w' vr.ownBlock):
 lT w0 (w'.setCell ⟨b5,4,none⟩ v') A n c bs b5 last vw ws v' (rs++ys):=by
 have hs:∀ k,k<wr.heap.size->vr.ownBlock≠some k->w'.heap[k]? = wr.heap[k]? :=fun k h1 h2=>hg.block k h1 (fun e=>h2 (by first|exact e|exact e.symm));have ahG:=S.top;have h5:=S.h5;have hB:∀ k,k<b5+1->w'.heap[k]? = wr.heap[k]? :=fun k h1=>hs k (by omega) (fun e=>by have:=(S.ro.lt k e).1;omega);have jQ:∀ k,k≠b5->(w'.setCell ⟨b5,4,none⟩ v').heap[k]? = w'.heap[k]? :=fun k h=>Below.heap_setCell w' ⟨b5,4,none⟩ v' k h;have hsz:(w'.setCell ⟨b5,4,none⟩ v').heap.size=w'.heap.size:=by simp[aT]
 have hgs:=hg.size;refine⟨S.a.same hg.os hg.tape hg.output (by rw[hsz];exact hg.size) (fun k h1=>(jQ k (by omega)).trans (hB k (by omega))),(S.box.same (hB _ (by omega))).apg 4 v',?_,?_,by rw[hsz];omega,h5⟩
 .exact fE S.wo (fun k e=>(jQ k (by have:=(S.wo.lt k e).1;omega)).trans (hs k (S.wo.lt k e).2 (vP S.wo S.ro (by decide) e)))
 .have h1:=fE (w':=w'.setCell ⟨b5,4,none⟩ v') ho (fun k e=>jQ k (by have:=(ho.lt k e).1;omega));rw[aw,hm,show eN (rs++ys)=eN rs++eN ys by simp[eN]];exact h1
theorem lT.room (S:lT w0 wr A n c bs b5 last vw ws vr rs)(hg:wr.grownBy w' vw.ownBlock):eW w' b5 130 #[.int .i64 1,.int .i64 0,.int .u32 last,vw,vr]:=
 S.box.same (hg.block b5 S.box.lt (fun e=>iT S.wo S.box (by decide) (by first|exact e|exact e.symm)))
theorem lT.aqt (S:lT w0 wr A n c bs b5 last vw ws vr rs)(hg:wr.grownBy w' vr.ownBlock):eW w' b5 130 #[.int .i64 1,.int .i64 0,.int .u32 last,vw,vr]:=
 S.box.same (hg.block b5 S.box.lt (fun e=>iT S.ro S.box (by decide) (by first|exact e|exact e.symm)))
end
theorem Ei.ok {bs:List Nat}{r:Rd}{A1 A2:Option Addr}{c1 c2:Nat}{w w':World}(hb:Below w.heap.size w w')(h:uh bs= .ok r)
 (h1:eQ w' w'.heap.size 1 A1 r.words.length (eN r.words))(h2:eQ w' w'.heap.size 1 A2 r.roots.length (eN r.roots))(h3:∀ a,A1=some a\/A2=some a->w.heap.size<=a.block):
 Ei bs w (.returned (.tuple #[.agg #[.int .i64 1,.int .i64 0,.int .u32 r.last,.slice A1 r.words.length c1,.slice A2 r.roots.length c2],.int .i64 0])) w':=
 ⟨hb,by rw[h];exact⟨A1,A2,c1,c2,rfl,h1,h2,h3⟩⟩
theorem EM {w:World}{A:Option Addr}{n c:Nat}{bs:List Nat}(hr:eQ w w.heap.size 1 A n (fP bs))(hc:n<=c)(hn:n<=9000000)(h8:∀ x∈bs,x<256):
 Calls Tryz.prog 139 #[.slice A n c] w (Ei bs w):=by
 have hbl:bs.length=n:=by have:=hr.1;rw[gW]at this;omega
 have hmf:∀ (fn:Fn) (first cap:Array Value) (w:World),(Instr.makeFunc fn first cap).run Tryz.prog w= .ok (.func fn first cap) w:=fun _ _ _ _=>rfl;have hb1:Below w.heap.size w (w.alloc (.cells #[.slice A n c] 22)):=(Below.refl _ _).alloc (aj _) _;have hb2:=hb1.alloc (by simp) (.cells #[.int .i64 0,.int .i64 0,.int .u32 0,.slice none 0 0,.slice none 0 0] 130);have Gb:=(Below.refl (w.alloc (.cells #[.slice A n c] 22)).heap.size (w.alloc (.cells #[.slice A n c] 22))).alloc (aj _) (.cells #[.int .i64 0,.int .i64 0,.int .u32 0,.slice none 0 0,.slice none 0 0] 130);have b1:=(eW.new w 22 #[.slice A n c]).below Gb (by simp);have b2:=eW.new (w.alloc (.cells #[.slice A n c] 22)) 130 #[.int .i64 0,.int .i64 0,.int .u32 0,.slice none 0 0,.slice none 0 0];rw[aJ]at b2;have HA:=aa (show wH w _ A n c bs from⟨b1,hr.below hb2,b2,hb2⟩);have HM:=aa (show uh bs=if n<273\/n≠273+4*gM bs 9 then .error 143 else if mW (bs.take (n-4))≠gM bs (n-4) then .error 144 else .ok ⟨1,(aq (gM bs 9)).map (fun i=>gM bs (13+4*i)),(aq 64).map (fun i=>gM bs (13+4*gM bs 9+4*i)),gM bs 5,false⟩ from by unfold uh;rw[hbl]);have hm9:=rZ h8 9;have uQ:=aa (fun (W:World) (S:wH w W A n c bs) (i:Nat) (hi:i+3<n)=>Nx S.inb S.rd hi hn h8);have HW4:=aa (rZ h8);have H8:=aa h8;have xq:=aa hbl;clear hb1 hb2 Gb b1 b2 hr h8 hbl;go_enter Tryz.func139,Tryz.ntmps139;go_upto_region 2 with fail;generalize (w.alloc (.cells #[.slice A n c] 22)).alloc (.cells #[.int .i64 0,.int .i64 0,.int .u32 0,.slice none 0 0,.slice none 0 0] 130)=W1 at*;have d1:W1.cell? ⟨w.heap.size,0,none⟩=some (.slice A n c):=HA.o.inb.cell 0;by_cases h273:n<273
 .have hd:decide ((n:Int)<273)=true:=decide_eq_true (by omega);have mF:=aa (show uh bs= .error 143 from by rw[HM.o,if_pos (.inl h273)]);clear HM hm9
  go_quiet (fail)
  have HZ:=aa (HA.o.drew nq).res;have HF:=aa (HA.o.drew nq).fr;generalize W1.drewN nq=W2 at*;clear d1 HA;have z0:=HZ.o.frozen 0;have z1:=HZ.o.frozen 1;have z2:=HZ.o.frozen 2;have z3:=HZ.o.frozen 3;have z4:=HZ.o.frozen 4;have d0:=HZ.o.cell 0;have d1:=HZ.o.cell 1;have d2:=HZ.o.cell 2;have d3:=HZ.o.cell 3;have d4:=HZ.o.cell 4;have gh:=aa (HZ.o.apf (.int .i64 0) (.int .i64 0) (.int .u32 0) (.slice none 0 0) (.slice none 0 0));have jC:=aa (hZ HF.o (g:=w.heap.size+1) (by omega) (.int .i64 0) (.int .i64 0) (.int .u32 0) (.slice none 0 0) (.slice none 0 0));go_wp2_with fail;generalize (((((W2.setCell ⟨w.heap.size+1,0,none⟩ (.int .i64 0)).setCell ⟨w.heap.size+1,1,none⟩ (.int .i64 0)).setCell ⟨w.heap.size+1,2,none⟩ (.int .u32 0)).setCell ⟨w.heap.size+1,3,none⟩ (.slice none 0 0)).setCell ⟨w.heap.size+1,4,none⟩ (.slice none 0 0))=WF at*;clear z0 d0 z1 d1 z2 d2 z3 d3 z4 d4;have f0:=gh.o.cell 0;have f1:=gh.o.cell 1;have f2:=gh.o.cell 2;have f3:=gh.o.cell 3;have f4:=gh.o.cell 4;refine bodyPost_ret (v:=.tuple #[.agg #[.int .i64 0,.int .i64 0,.int .u32 0,.slice none 0 0,.slice none 0 0],.int .i64 143]) (by simp[results,Tryz.results139,go_sem,f0,f1,f2,f3,f4]) rfl ?_;exact Ei.err jC.o mF.o
 .have hd:decide ((n:Int)<273)=false:=decide_eq_false (by omega);have Cq:=aa (fun q=>uQ.o (W1.drewN q) (HA.o.drew q) 9 (by omega));generalize hwm:gM bs 9=m at*;have HWM:=aa hwm;clear hwm;by_cases Jo:n=273+4*m
  .have hne:((n:Int) != 273+4*(m:Int))=false:=(by simp;omega);have mF:=aa Jo;clear Jo
   go_quiet ((go_at_call 195;exact aS (Cq.o _)))
   go_upto_region 4 with fail;have Co:=aa (HA.o.drew nq);generalize W1.drewN nq=W2 at*;clear d1 HA Cq;have d1:W2.cell? ⟨w.heap.size,0,none⟩=some (.slice A n c):=Co.o.inb.cell 0;have e4:((n-4:Nat):Int)=(n:Int)-4:=(by omega);have Su:∀ w:World,(Instr.slice 22 (.slice A n c) none (some (.int .i64 ((n:Int)-4))) none).run Tryz.prog w= .ok (.slice (iH A c 0) (n-4) c) w:=fun w=>by
    have h:=AJ w A n c (n-4) (by omega);rw[e4]at h;exact h
   have h8t:∀ x∈bs.take (n-4),x<256:=fun x hx=>H8.o x (aI hx);obtain⟨hs1,hs2⟩:=sO h8t;have oU:=aa (fun q=>(sP (iH A c 0) (n-4) c w.heap.size (bs.take (n-4)) (W2.drewN q) (by omega) (qB (Co.o.drew q).rd (by omega)) h8t).mono fun e w' ⟨h1,h2⟩=>show e=Ending.returned (.int .u32 ((mW (bs.take (n-4)):Nat):Int))/\w'=W2.drewN q from⟨by rw[h1,hs1],h2.symm⟩);have pR:=aa (fun q=>uQ.o (W2.drewN q) (Co.o.drew q) (n-4) (by omega));rw[e4]at pR;have hw4:=HW4.o (n-4);clear h8t hs1 e4;generalize hsu:mW (bs.take (n-4))=su at*;generalize zC:gM bs (n-4)=lw at*;clear hsu zC;by_cases Iw:su=lw
   .have aco:((su:Int) != (lw:Int))=false:=(by simp;omega);have yT:=aa (HM.o.trans (by rw[if_neg (by have:=mF.o;omega),if_neg (by simpa using Iw)]));have ak_:=aa Iw;clear Iw HM
    go_quiet (first|(go_at_call 113;exact a8 (oU.o _))|(go_at_call 195;exact aS (pR.o _)))
    go_upto_region 6 with fail;have Yw:=aa (Co.o.drew nq);clear d1 oU pR Co;generalize W2.drewN nq=W3 at*;have oF:=aa (uQ.o W3 Yw.o 5 (by omega));generalize gM bs 5=la at*;go_wp2_with fail;refine oF.o.mono ?_;rintro e w4 ⟨rfl,mq,rfl⟩;have HA4:=aa (Yw.o.drew mq);clear oF Yw;generalize W3.drewN mq=W4 at*;have iW:Below W4.heap.size W4 (W4.alloc (.cells #[.int .i64 1,.int .i64 0,.int .u32 (la:Nat),.slice none 0 0,.slice none 0 0] 130)):=(Below.refl _ _).alloc (aj _) _
    have HST:=aa (show lT w (W4.alloc (.cells #[.int .i64 1,.int .i64 0,.int .u32 (la:Nat),.slice none 0 0,.slice none 0 0] 130)) A n c bs W4.heap.size la (.slice none 0 0) [] (.slice none 0 0) [] from
     ⟨HA4.o.same iW.os iW.tape iW.output iW.size (fun k hk=>iW.block k (by have:=HA4.o.res.lt;omega)),eW.new W4 _ _,⟨rfl,.inl ⟨rfl,rfl⟩⟩,⟨rfl,.inl ⟨rfl,rfl⟩⟩,by simp,by have:=HA4.o.res.lt;omega⟩)
    have Zn:=aa HST.o.a;have Sy:w.heap.size+2<=W4.heap.size:=HST.o.h5;clear iW HA4;go_upto_region 7 with fail;generalize W4.alloc (.cells #[.int .i64 1,.int .i64 0,.int .u32 (la:Int),.slice none 0 0,.slice none 0 0] 130)=W5 at*;generalize W4.heap.size=b5 at*;have Cq:=aa (by have:=uQ.o W5 Zn.o 9 (by omega);rw[HWM.o]at this;exact this);go_wp2_with fail;refine Cq.o.mono ?_;rintro e w6 ⟨rfl,mq2,rfl⟩;have aax:=aa (HST.o.drew mq2);clear Cq Zn HST;have HST:=aa aax.o;clear aax;generalize W5.drewN mq2=W6 at*;obtain⟨i0,iF,hz0,hz1,hz2⟩:=info_parts jR;go_wp2_with fail
    go_loopw [45] (fun i wr=>∃ (k:Nat) (vw:Value),i= .int .i64 k/\k<=m/\lT w wr A n c bs b5 la vw ((aq k).map (fun i=>gM bs (13+4*i))) (.slice none 0 0) []) (fun i _=>m-(intOf i).toNat)
    case atStart=>exact⟨0,_,rfl,aB _,HST.o⟩
    case round=>
     clear HST;obtain⟨k,vw,rfl,hk,S⟩:=hrel;have HS:=aa S;by_cases hkn:k<m
     .have hd:decide ((k:Int)<(m:Int))=true:=(by simp;omega);have hkb:k<=9000000:=(by have:=mF.o;omega);have oq:aO.wrap (4*(k:Int))=4*(k:Int):=aG _ (by omega);have hw2:aO.wrap (13+4*(k:Int))=13+4*(k:Int):=aG _ (by omega);have Uh:(k:Int)<(m:Int):=(by omega);have hki:13+4*k+0+3<n:=(by have:=mF.o;omega);have jv:∀ q,wH w (wr.drewN q) A n c bs:=fun q=>S.a.drew q;have Cr:=aa (fun (W:World) (S:wH w W A n c bs)=>uQ.o W S (13+4*k) (by omega));have e4:((13+4*k:Nat):Int)=13+4*(k:Int):=(by push_cast;rfl);rw[e4]at Cr;have Tk:=aa (show (aq (k+1)).map (fun i=>gM bs (13+4*i))=(aq k).map (fun i=>gM bs (13+4*i))++[gM bs (13+4*k)] from by rw[bv,az];rfl);have hpl:((aq k).map (fun i=>gM bs (13+4*i))).length<=9000000:=(by rw[ay,bn];have:=mF.o;omega);have qW:=HW4.o (13+4*k);clear S e4 jv hki;generalize (aq k).map (fun i=>gM bs (13+4*i))=pk at*;generalize gM bs (13+4*k)=x at*;go_upto_region 11 with fail;refine iB 10 (fun w'=>w'.cell? ⟨b5,3,none⟩=some vw/\True) (by kernel_rfl) ?_;have yb:=aa (HS.o.drew 1);rw[show wr.drewN 1=wr.drew from rfl]at yb;clear HS;generalize wr.drew=wq at*;have hS:wq.cell? ⟨b5,3,none⟩=some vw/\True:=⟨yb.o.box.cell 3,trivial⟩;refine eT 0 (v:=(.pointer (some ⟨b5,3,none⟩))) rfl (by kernel_rfl) (fun _ _ _ h=>h) hS (by rfl) (fun w' hw'=>by obtain⟨h0,h1⟩:=hw';go_simp) ?_;try simp only[ak,ae,af,ag]
      refine eT 1 (v:=vw) rfl (by kernel_rfl) (fun _ _ _ h=>h) hS (by rfl) (fun w' hw'=>by obtain⟨h0,h1⟩:=hw';go_simp) ?_;try simp only[ak,ae,af,ag]
      refine eT 2 (v:=(.func (.func 195) #[] #[.pointer (some ⟨w.heap.size,0,none⟩)])) rfl (by kernel_rfl) (fun _ _ _ h=>h) hS (by rfl) (fun w' hw'=>by obtain⟨h0,h1⟩:=hw';go_simp) ?_;try simp only[ak,ae,af,ag]
      refine eT 3 (v:=(.int .i64 (k:Int))) rfl (by kernel_rfl) (fun _ _ _ h=>h) hS (by rfl) (fun w' hw'=>by obtain⟨h0,h1⟩:=hw';go_simp) ?_;try simp only[ak,ae,af,ag]
      refine eT 4 (v:=(.int .i64 (4*(k:Int)))) rfl (by kernel_rfl) (fun _ _ _ h=>h) hS (by rfl) (fun w' hw'=>by obtain⟨h0,h1⟩:=hw';go_simp) ?_;try simp only[ak,ae,af,ag]
      refine eT 5 (v:=(.int .i64 (13+4*(k:Int)))) rfl (by kernel_rfl) (fun _ _ _ h=>h) hS (by rfl) (fun w' hw'=>by obtain⟨h0,h1⟩:=hw';go_simp) ?_;try simp only[ak,ae,af,ag]
      refine fh 6 (by kernel_rfl) rfl rfl (fun K hK=>?_);go_simp;refine (Cr.o _ yb.o.a).mono ?_;rintro e w13 ⟨rfl,mq,rfl⟩;have gz:=aa (yb.o.drew mq);generalize wq.drewN mq=w13 at*;have F_:w13.cell? ⟨b5,3,none⟩=some vw/\True:=⟨gz.o.box.cell 3,trivial⟩;clear yb;refine hK _ _ (fun _=>F_) ?_;clear hK K;try simp only[ak,ae,af,ag]
      refine fh 7 (by kernel_rfl) rfl rfl (fun K hK=>?_);go_simp;have l7:=aa (gz.o.below ((Below.refl _ _).alloc (aj _) (.cells #[.int .u32 (x:Nat)] 32)));have PY:(w13.alloc (.cells #[.int .u32 (x:Nat)] 32)).cell? ⟨b5,3,none⟩=some vw/\True:=⟨l7.o.box.cell 3,trivial⟩;refine hK _ _ (fun _=>PY) ?_;clear hK K;try simp only[ak,ae,af,ag]
      refine fh 8 (by kernel_rfl) rfl rfl (fun K hK=>?_);refine fS _ (.tmp 49) (.tmp 55) _ rfl (b5+1) 32 i0 _ 1 4 Tryz.underlying84 iF hz0 hz1 hz2 rfl (by omega) vw pk.length (eN pk) rfl l7.o.wo (w13.heap.size+1) (some ⟨w13.heap.size,0,none⟩) 1 1 (eN [x]) rfl ⟨rfl,fun _=>⟨_,rfl,by simp,cell_one_new _ _ _⟩⟩ (fU _) (by simp only[maxLen];omega) (by omega) l7.o.top ?_;intro v15 w15 iR kK rA;obtain⟨g15,c15,rfl,-,-,-⟩:=Row.apk iR (by omega);have yV:=aa (l7.o.aqm (ys:=[x]) rfl iR kK);have tE:=(l7.o.room kK).frozen 3;have tD:=(l7.o.room kK).cell 3;have zw:w15.cell? ⟨b5,3,none⟩=some vw/\True:=⟨tD,trivial⟩;clear iR kK rA l7 gz;refine hK _ _ (fun _=>zw) ?_;clear hK K;try simp only[ak,ae,af,ag]
      refine fh 9 (by kernel_rfl) rfl rfl (fun K hK=>?_);go_simp;refine hK _ _ (fun _=>zw) ?_;clear hK K;try simp only[ak,ae,af,ag]
      refine fh 10 (by kernel_rfl) rfl rfl (fun K hK=>?_);go_simp;refine hK _ _ (fun h=>absurd h (by decide)) ?_;clear hK K;try simp only[ak,ae,af,ag]
      refine g_ (by kernel_rfl) ?_ _;simp only[Calm,Exit.then];clear hS F_ PY zw tD tE;go_wp2_with fail;go_roundw
      case rel=>exact⟨k+1,_,by go_num,by omega,by rw[Tk.o];exact yV.o⟩
      case measure=>simp[intOf];omega
     .obtain rfl:m=k:=(by omega);have hd:decide ((m:Int)<m)=false:=(by simp);have HST:=aa S;clear S HS hk hkn i0 iF hz0 hz1 hz2;obtain⟨i0,iF,hz0,hz1,hz2⟩:=info_parts lZ;go_wp2_with fail
      go_loopw [59] (fun i wr=>∃ (k:Nat) (vr:Value),i= .int .i64 k/\k<=64/\lT w wr A n c bs b5 la vw ((aq m).map (fun i=>gM bs (13+4*i))) vr ((aq k).map (fun i=>gM bs (13+4*m+4*i)))) (fun i _=>64-(intOf i).toNat)
      case atStart=>exact⟨0,_,rfl,aB _,HST.o⟩
      case round=>
       clear HST;obtain⟨k,vr,rfl,hk,S⟩:=hrel;have HS:=aa S;by_cases hkn:k<64
       .have hd:decide ((k:Int)<64)=true:=(by simp;omega);have hmb:m<=9000000:=(by have:=mF.o;omega);have oq:aO.wrap (4*(k:Int))=4*(k:Int):=aG _ (by omega);have hw2:aO.wrap (4*(m:Int))=4*(m:Int):=aG _ (by omega);have hw3:aO.wrap (13+4*(m:Int))=13+4*(m:Int):=aG _ (by omega);have anD:aO.wrap (13+4*(m:Int)+4*(k:Int))=13+4*(m:Int)+4*(k:Int):=aG _ (by omega);have Uh:(k:Int)<64:=(by omega);have hki:13+4*k+4*m+3<n:=(by have:=mF.o;omega);have jv:∀ q,wH w (wr.drewN q) A n c bs:=fun q=>S.a.drew q;have Cr:=aa (fun (W:World) (S:wH w W A n c bs)=>uQ.o W S (13+4*m+4*k) (by omega));have e4:((13+4*m+4*k:Nat):Int)=13+4*(m:Int)+4*(k:Int):=(by push_cast;rfl);rw[e4]at Cr;have Tk:=aa (show (aq (k+1)).map (fun i=>gM bs (13+4*m+4*i))=(aq k).map (fun i=>gM bs (13+4*m+4*i))++[gM bs (13+4*m+4*k)] from by rw[bv,az];rfl);have hpl:((aq k).map (fun i=>gM bs (13+4*m+4*i))).length<=9000000:=(by rw[ay,bn];have:=mF.o;omega);have qW:=HW4.o (13+4*m+4*k);clear S e4 jv hki;generalize (aq k).map (fun i=>gM bs (13+4*m+4*i))=pk at*;generalize gM bs (13+4*m+4*k)=x at*;go_upto_region 16 with fail;refine iB 13 (fun w'=>w'.cell? ⟨b5,4,none⟩=some vr/\True) (by kernel_rfl) ?_;have yb:=aa (HS.o.drew 1);rw[show wr.drewN 1=wr.drew from rfl]at yb;clear HS;generalize wr.drew=wq at*;have hS:wq.cell? ⟨b5,4,none⟩=some vr/\True:=⟨yb.o.box.cell 4,trivial⟩;refine eT 0 (v:=(.pointer (some ⟨b5,4,none⟩))) rfl (by kernel_rfl) (fun _ _ _ h=>h) hS (by rfl) (fun w' hw'=>by obtain⟨h0,h1⟩:=hw';go_simp) ?_;try simp only[ak,ae,af,ag]
        refine eT 1 (v:=vr) rfl (by kernel_rfl) (fun _ _ _ h=>h) hS (by rfl) (fun w' hw'=>by obtain⟨h0,h1⟩:=hw';go_simp) ?_;try simp only[ak,ae,af,ag]
        refine eT 2 (v:=(.func (.func 195) #[] #[.pointer (some ⟨w.heap.size,0,none⟩)])) rfl (by kernel_rfl) (fun _ _ _ h=>h) hS (by rfl) (fun w' hw'=>by obtain⟨h0,h1⟩:=hw';go_simp) ?_;try simp only[ak,ae,af,ag]
        refine eT 3 (v:=(.int .i64 (m:Int))) rfl (by kernel_rfl) (fun _ _ _ h=>h) hS (by rfl) (fun w' hw'=>by obtain⟨h0,h1⟩:=hw';go_simp) ?_;try simp only[ak,ae,af,ag]
        refine eT 4 (v:=(.int .i64 (4*(m:Int)))) rfl (by kernel_rfl) (fun _ _ _ h=>h) hS (by rfl) (fun w' hw'=>by obtain⟨h0,h1⟩:=hw';go_simp) ?_;try simp only[ak,ae,af,ag]
        refine eT 5 (v:=(.int .i64 (13+4*(m:Int)))) rfl (by kernel_rfl) (fun _ _ _ h=>h) hS (by rfl) (fun w' hw'=>by obtain⟨h0,h1⟩:=hw';go_simp) ?_;try simp only[ak,ae,af,ag]
        refine eT 6 (v:=(.int .i64 (k:Int))) rfl (by kernel_rfl) (fun _ _ _ h=>h) hS (by rfl) (fun w' hw'=>by obtain⟨h0,h1⟩:=hw';go_simp) ?_;try simp only[ak,ae,af,ag]
        refine eT 7 (v:=(.int .i64 (4*(k:Int)))) rfl (by kernel_rfl) (fun _ _ _ h=>h) hS (by rfl) (fun w' hw'=>by obtain⟨h0,h1⟩:=hw';go_simp) ?_;try simp only[ak,ae,af,ag]
        refine eT 8 (v:=(.int .i64 (13+4*(m:Int)+4*(k:Int)))) rfl (by kernel_rfl) (fun _ _ _ h=>h) hS (by rfl) (fun w' hw'=>by obtain⟨h0,h1⟩:=hw';go_simp) ?_;try simp only[ak,ae,af,ag]
        refine fh 9 (by kernel_rfl) rfl rfl (fun K hK=>?_);go_simp;refine (Cr.o _ yb.o.a).mono ?_;rintro e w13 ⟨rfl,mq,rfl⟩;have gz:=aa (yb.o.drew mq);generalize wq.drewN mq=w13 at*;have F_:w13.cell? ⟨b5,4,none⟩=some vr/\True:=⟨gz.o.box.cell 4,trivial⟩;clear yb;refine hK _ _ (fun _=>F_) ?_;clear hK K;try simp only[ak,ae,af,ag]
        refine fh 10 (by kernel_rfl) rfl rfl (fun K hK=>?_);go_simp;have l7:=aa (gz.o.below ((Below.refl _ _).alloc (aj _) (.cells #[.int .u32 (x:Nat)] 54)));have PY:(w13.alloc (.cells #[.int .u32 (x:Nat)] 54)).cell? ⟨b5,4,none⟩=some vr/\True:=⟨l7.o.box.cell 4,trivial⟩;refine hK _ _ (fun _=>PY) ?_;clear hK K;try simp only[ak,ae,af,ag]
        refine fh 11 (by kernel_rfl) rfl rfl (fun K hK=>?_);refine fS _ (.tmp 63) (.tmp 72) _ rfl (b5+1) 54 i0 _ 1 4 Tryz.underlying101 iF hz0 hz1 hz2 rfl (by omega) vr pk.length (eN pk) rfl l7.o.ro (w13.heap.size+1) (some ⟨w13.heap.size,0,none⟩) 1 1 (eN [x]) rfl ⟨rfl,fun _=>⟨_,rfl,by simp,cell_one_new _ _ _⟩⟩ (fU _) (by simp only[maxLen];omega) (by omega) l7.o.top ?_;intro v15 w15 iR kK rA;obtain⟨g15,c15,rfl,-,-,-⟩:=Row.apk iR (by omega);have yV:=aa (l7.o.appR (ys:=[x]) rfl iR kK);have tE:=(l7.o.aqt kK).frozen 4;have tD:=(l7.o.aqt kK).cell 4;have zw:w15.cell? ⟨b5,4,none⟩=some vr/\True:=⟨tD,trivial⟩;clear iR kK rA l7 gz;refine hK _ _ (fun _=>zw) ?_;clear hK K;try simp only[ak,ae,af,ag]
        refine fh 12 (by kernel_rfl) rfl rfl (fun K hK=>?_);go_simp;refine hK _ _ (fun _=>zw) ?_;clear hK K;try simp only[ak,ae,af,ag]
        refine fh 13 (by kernel_rfl) rfl rfl (fun K hK=>?_);go_simp;refine hK _ _ (fun h=>absurd h (by decide)) ?_;clear hK K;try simp only[ak,ae,af,ag]
        refine g_ (by kernel_rfl) ?_ _;simp only[Calm,Exit.then];clear hS F_ PY zw tD tE;go_wp2_with fail;go_roundw
        case rel=>exact⟨k+1,_,by go_num,by omega,by rw[Tk.o];exact yV.o⟩
        case measure=>simp[intOf];omega
       .obtain rfl:k=64:=(by omega);have hd:decide ((64:Int)<64)=false:=(by decide);have sY:=aa S;have e0:=S.box.cell 0;have e1:=S.box.cell 1;have e2:=S.box.cell 2;obtain⟨AW,cW,SF,hrW⟩:=fy S.wo;obtain⟨AR,cR,hvr,hrR⟩:=fy S.ro;subst SF hvr;have e3:=S.box.cell 3;have e4:=S.box.cell 4;have Vj:=aa (oN (g:=w.heap.size+1) hrW (fun _ a ha e=>by have:=(sY.o.wo.lt a.block (by rw[ha];rfl)).1;have:=sY.o.h5;omega) (.int .i64 1) (.int .i64 0) (.int .u32 la) (.slice AW ((aq m).map (fun i=>gM bs (13+4*i))).length cW) (.slice AR ((aq 64).map (fun i=>gM bs (13+4*m+4*i))).length cR));have TA:=aa (oN (g:=w.heap.size+1) hrR (fun _ a ha e=>by have:=(sY.o.ro.lt a.block (by rw[ha];rfl)).1;have:=sY.o.h5;omega) (.int .i64 1) (.int .i64 0) (.int .u32 la) (.slice AW ((aq m).map (fun i=>gM bs (13+4*i))).length cW) (.slice AR ((aq 64).map (fun i=>gM bs (13+4*m+4*i))).length cR));have IE:=aa (show ∀ a,AW=some a\/AR=some a->w.heap.size<=a.block from fun a ha=>by
         have h5:=S.h5;rcases ha with ha|ha
         .have:=(S.wo.lt a.block (by rw[ha];rfl)).1;omega
         .have:=(S.ro.lt a.block (by rw[ha];rfl)).1;omega)
        have HZ:=aa S.a.res;have HF:=aa S.a.fr;clear hrW hrR sY S HS;generalize (aq m).map (fun i=>gM bs (13+4*i))=wsF at*;generalize (aq 64).map (fun i=>gM bs (13+4*m+4*i))=rsF at*;have z0:=HZ.o.frozen 0;have z1:=HZ.o.frozen 1;have z2:=HZ.o.frozen 2;have z3:=HZ.o.frozen 3;have z4:=HZ.o.frozen 4;have d0:=HZ.o.cell 0;have d1:=HZ.o.cell 1;have d2:=HZ.o.cell 2;have d3:=HZ.o.cell 3;have d4:=HZ.o.cell 4;have gh:=aa (HZ.o.apf (.int .i64 1) (.int .i64 0) (.int .u32 la) (.slice AW wsF.length cW) (.slice AR rsF.length cR));have jC:=aa (hZ HF.o (g:=w.heap.size+1) (by omega) (.int .i64 1) (.int .i64 0) (.int .u32 la) (.slice AW wsF.length cW) (.slice AR rsF.length cR));go_wp2_with fail;generalize (((((wr.setCell ⟨w.heap.size+1,0,none⟩ (.int .i64 1)).setCell ⟨w.heap.size+1,1,none⟩ (.int .i64 0)).setCell ⟨w.heap.size+1,2,none⟩ (.int .u32 la)).setCell ⟨w.heap.size+1,3,none⟩ (.slice AW wsF.length cW)).setCell ⟨w.heap.size+1,4,none⟩ (.slice AR rsF.length cR))=WF at*;clear z0 d0 z1 d1 z2 d2 z3 d3 z4 d4;have f0:=gh.o.cell 0;have f1:=gh.o.cell 1;have f2:=gh.o.cell 2;have f3:=gh.o.cell 3;have f4:=gh.o.cell 4;refine bodyPost_ret (v:=.tuple #[.agg #[.int .i64 1,.int .i64 0,.int .u32 la,.slice AW wsF.length cW,.slice AR rsF.length cR],.int .i64 0]) (by simp[results,Tryz.results139,go_sem,f0,f1,f2,f3,f4]) rfl ?_;exact Ei.ok jC.o yT.o Vj.o TA.o IE.o
   .have aco:((su:Int) != (lw:Int))=true:=(by simp;omega);have ana:¬ ((su:Int)=(lw:Int)):=(by omega);have pS:=aa (show uh bs= .error 144 from HM.o.trans (by rw[if_neg (by have:=mF.o;omega),if_pos Iw]));clear Iw HM
    go_quiet (first|(go_at_call 113;exact a8 (oU.o _))|(go_at_call 195;exact aS (pR.o _)))
    have HZ:=aa (Co.o.drew nq).res;have HF:=aa (Co.o.drew nq).fr;clear d1 oU pR;generalize W2.drewN nq=W3 at*;clear Co;have z0:=HZ.o.frozen 0;have z1:=HZ.o.frozen 1;have z2:=HZ.o.frozen 2;have z3:=HZ.o.frozen 3;have z4:=HZ.o.frozen 4;have d0:=HZ.o.cell 0;have d1:=HZ.o.cell 1;have d2:=HZ.o.cell 2;have d3:=HZ.o.cell 3;have d4:=HZ.o.cell 4;have gh:=aa (HZ.o.apf (.int .i64 0) (.int .i64 0) (.int .u32 0) (.slice none 0 0) (.slice none 0 0));have jC:=aa (hZ HF.o (g:=w.heap.size+1) (by omega) (.int .i64 0) (.int .i64 0) (.int .u32 0) (.slice none 0 0) (.slice none 0 0));go_wp2_with fail;generalize (((((W3.setCell ⟨w.heap.size+1,0,none⟩ (.int .i64 0)).setCell ⟨w.heap.size+1,1,none⟩ (.int .i64 0)).setCell ⟨w.heap.size+1,2,none⟩ (.int .u32 0)).setCell ⟨w.heap.size+1,3,none⟩ (.slice none 0 0)).setCell ⟨w.heap.size+1,4,none⟩ (.slice none 0 0))=WF at*;clear z0 d0 z1 d1 z2 d2 z3 d3 z4 d4;have f0:=gh.o.cell 0;have f1:=gh.o.cell 1;have f2:=gh.o.cell 2;have f3:=gh.o.cell 3;have f4:=gh.o.cell 4;refine bodyPost_ret (v:=.tuple #[.agg #[.int .i64 0,.int .i64 0,.int .u32 0,.slice none 0 0,.slice none 0 0],.int .i64 144]) (by simp[results,Tryz.results139,go_sem,f0,f1,f2,f3,f4]) rfl ?_;exact Ei.err jC.o pS.o
  .have hne:((n:Int) != 273+4*(m:Int))=true:=(by simp;omega);have mF:=aa (show uh bs= .error 143 from by rw[HM.o,if_pos (.inr Jo)]);have anb:¬ ((n:Int)=273+4*(m:Int)):=(by omega);clear HM Jo
   go_quiet ((go_at_call 195;exact aS (Cq.o _)))
   have HZ:=aa (HA.o.drew nq).res;have HF:=aa (HA.o.drew nq).fr;generalize W1.drewN nq=W2 at*;clear d1 HA;have z0:=HZ.o.frozen 0;have z1:=HZ.o.frozen 1;have z2:=HZ.o.frozen 2;have z3:=HZ.o.frozen 3;have z4:=HZ.o.frozen 4;have d0:=HZ.o.cell 0;have d1:=HZ.o.cell 1;have d2:=HZ.o.cell 2;have d3:=HZ.o.cell 3;have d4:=HZ.o.cell 4;have gh:=aa (HZ.o.apf (.int .i64 0) (.int .i64 0) (.int .u32 0) (.slice none 0 0) (.slice none 0 0));have jC:=aa (hZ HF.o (g:=w.heap.size+1) (by omega) (.int .i64 0) (.int .i64 0) (.int .u32 0) (.slice none 0 0) (.slice none 0 0));go_wp2_with fail;generalize (((((W2.setCell ⟨w.heap.size+1,0,none⟩ (.int .i64 0)).setCell ⟨w.heap.size+1,1,none⟩ (.int .i64 0)).setCell ⟨w.heap.size+1,2,none⟩ (.int .u32 0)).setCell ⟨w.heap.size+1,3,none⟩ (.slice none 0 0)).setCell ⟨w.heap.size+1,4,none⟩ (.slice none 0 0))=WF at*;clear z0 d0 z1 d1 z2 d2 z3 d3 z4 d4;have f0:=gh.o.cell 0;have f1:=gh.o.cell 1;have f2:=gh.o.cell 2;have f3:=gh.o.cell 3;have f4:=gh.o.cell 4;refine bodyPost_ret (v:=.tuple #[.agg #[.int .i64 0,.int .i64 0,.int .u32 0,.slice none 0 0,.slice none 0 0],.int .i64 143]) (by simp[results,Tryz.results139,go_sem,f0,f1,f2,f3,f4]) rfl ?_;exact Ei.err jC.o mF.o
end
section
open Go.RowKit
theorem ND {t:Nat}{b p r:List Nat}(h:mQ t b= .ok (p,r))(h8:∀ x∈b,x<256):(∀ x∈p,x<256)/\∀ x∈r,x<256:=by
 unfold mQ at h;split at h
 .cases h
 .rename_i x b1;split at h
  .cases h
  .split at h
   .cases h
   .rename_i n b2 hn;obtain⟨_,_,c,hc⟩:=nY hn;have hb2:∀ x∈b2,x<256:=fun x hx=>h8 x (by rw[hc];simp[hx]);split at h
    .cases h
    .split at h
     .cases h;exact⟨fun x hx=>hb2 x (aI hx),fun x hx=>hb2 x (aW hx)⟩
     .cases h
theorem Au:∀ {ts b:List Nat} {ps:List (List Nat)} {r:List Nat},iy ts b= .ok (ps,r)->(∀ x∈b,x<256)->∀ p∈ps,∀ x∈p,x<256
 | [],b,ps,r,h,h8=>by cases h;exact fun p hp=>by cases hp
 | t :: ts,b,ps,r,h,h8=>by
   unfold iy at h;split at h
   .cases h
   .rename_i p q hq;split at h
    .cases h
    .rename_i Zh r' h2;cases h;have h3:=ND hq h8;have h4:=Au h2 h3.2;intro p' Un;rcases aL.1 Un with rfl|Un
     .exact h3.1
     .exact h4 p' Un
theorem GN {b:List Nat}{i:ye}(h:ly b= .ok i)(h8:∀ x∈b,x<256):i.last<4294967296/\i.rts.length=64/\∀ t∈i.ts,t.Ok:=by
 unfold ly at h;split at h
 .cases h
 .rename_i ps r hs;split at h
  .cases h
  .split at h
   .cases h
   .rename_i i' hp;cases h;have hm:=Au hs h8;have h1:∀ x∈ps.getD 1 [],x<256:=by
     intro x hx;rw[ai]at hx
     cases hh:ps[1]? with
     | none=>rw[hh]at hx;cases hx
     | some p=>rw[hh]at hx;exact hm p (List.mem_of_getElem? hh) x hx
    unfold lz at hp;split at hp
    .cases hp
    .rename_i last q h0;split at hp
     .cases hp
     .rename_i many q' h2;split at hp
      .cases hp
      .split at hp
       .cases hp
       .rename_i ts q1 h3;split at hp
        .cases hp
        .split at hp
         .cases hp
         .rename_i rts q2 h4;split at hp
          .cases hp
          .cases hp;exact⟨(nY h0).1,(vU _ _ _ _ h4).1,(xd _ _ _ _ h3 h1).2.1⟩
theorem Q3 {b:Ob}(h:b.Ok):∀ x∈b.ws,x<4294967296:=by
 intro x hx;unfold Ob.ws at hx;rcases aL.1 hx with rfl|hx
 .have:=Hy h.fit;omega
 .rcases aL.1 hx with rfl|hx
  .exact h.fit.cls
  .rcases aL.1 hx with rfl|hx
   .exact h.fit.ser
   .exact h.f32 x hx
structure Rd.Fit (r:Rd):Prop where
 roots:r.roots.length=64
 w32:∀ x∈r.words,x<4294967296
 r32:∀ x∈r.roots,x<4294967296
 last:r.last<4294967296
theorem Ht {b:List Nat}{r:Rd}(h:iD b= .ok r)(h8:∀ x∈b,x<256):r.Fit:=by
 unfold iD at h;split at h
 .cases h
 .split at h
  .cases h
  .split at h
   .unfold uh at h;split at h
    .cases h
    .split at h
     .cases h
     .cases h;exact⟨by simp,fun x hx=>by obtain⟨i,_,rfl⟩:=aV.1 hx;exact rZ h8 _,fun x hx=>by obtain⟨i,_,rfl⟩:=aV.1 hx;exact rZ h8 _,rZ h8 _⟩
   .split at h
    .split at h
     .cases h
     .rename_i i hi;cases h;obtain⟨h1,h2,h3⟩:=GN hi (fun x hx=>h8 x (aW hx));refine⟨by show (i.rts.map (js i.ts)).length=64;rw[ay,h2],fun x hx=>?_,fun x hx=>?_,h1⟩
      .rcases aL.1 (show x∈0 :: fV (i.ts.map (mz i.ts)) from hx) with rfl|hx
       .omega
       .obtain⟨o,ho,hxo⟩:=List.mem_flatMap.1 hx;obtain⟨t,ht,rfl⟩:=aV.1 ho;exact Q3 (UG (h3 t ht)) x hxo
      .obtain⟨n,_,rfl⟩:=aV.1 (show x∈i.rts.map (js i.ts) from hx);exact wl _ _
    .cases h
end
section
open Go.RowKit
def vA (xs:List Nat):ByteArray:=strOfNums (xs.map fun x:Nat=>(x:Int))
theorem ua (xs:List Nat):(vA xs).data=(xs.map bp).toArray:=by
 unfold vA strOfNums;simp[Function.comp_def]
theorem Ju {xs ys:List Nat}(hx:∀ x∈xs,x<256)(hy:∀ y∈ys,y<256)(h:xs.map bp=ys.map bp):xs=ys:=by
 induction xs generalizing ys with
 | nil=>cases ys with
   | nil=>rfl
   | cons y ys=>simp at h
 | cons x xs ih=>
   cases ys with
   | nil=>simp at h
   | cons y ys=>
     rw[aK,aK,List.cons.injEq]at h;have h1:x=y:=by
      have e:=congrArg UInt8.toNat h.1;rw[bj,bj,br (hx x (bk ..)),br (hy y (bk ..))]at e;exact e
     rw[h1,ih (fun z hz=>hx z (aX _ hz)) (fun z hz=>hy z (aX _ hz)) h.2]
theorem MQ {xs ys:List Nat}(hx:∀ x∈xs,x<256)(hy:∀ y∈ys,y<256):vA xs=vA ys↔xs=ys:=by
 constructor
 .intro h;have e:=congrArg ByteArray.data h;rw[ua,ua]at e;exact Ju hx hy (by simpa using e)
 .intro h;rw[h]
theorem Yo {a b:ByteArray}(h:a≠b):(a.toList == b.toList)=false:=by
 rw[Bool.eq_false_iff];intro e;have e2:=eq_of_beq e;rw[ByteArray.toList_eq,ByteArray.toList_eq]at e2;obtain⟨⟨x⟩⟩:=a;obtain⟨⟨y⟩⟩:=b;exact h (by simp at e2;rw[e2])
theorem DR:vA [69,70,73,71]={ data:=#[69,70,73,71] }:=by
 have h:=ua [69,70,73,71];generalize vA [69,70,73,71]=s at*;obtain⟨d⟩:=s;simp only at h;subst h;rfl
theorem Mg {w:World}{B n g o len c2:Nat}{bs:List Nat}(hr:eQ w B 1 (some ⟨g,o,none⟩) n (fP bs))(hl:len<=n)(h0:0<n):
 (convert 22 9 (.slice (some ⟨g,o,none⟩) len c2)).run Tryz.prog w= .ok (.string (vA (bs.take len))) w:=by
 have hbl:bs.length=n:=by have:=hr.1;rw[gW]at this;omega
 obtain⟨ad,e,hb,hx⟩:=hr.2 h0;injection e with e;subst e;refine run_convert_bytes_arg (P:=Tryz.prog) w 22 5 Tryz.underlying22 Tryz.underlying5 g o len c2 ((bs.take len).map fun x:Nat=>(x:Int)) (by simp;omega) (fun i hi=>?_) _ Tryz.underlying9;have hli:i<bs.length:=by omega
 have hy:=hx i (.int .u8 (bs[i]:Nat)) (by unfold fP;rw[aF,ah hli];rfl);rw[aR]at hy;refine hy.trans ?_;rw[ai,aF,List.getElem?_take,if_pos hi,ah hli];rfl
end
end Go.Proofs.YtlkahgagmfhdaaaGreatDoor
