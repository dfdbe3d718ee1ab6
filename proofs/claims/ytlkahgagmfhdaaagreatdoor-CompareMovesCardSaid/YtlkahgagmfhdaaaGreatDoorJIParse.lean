import Derived.Test.YtlkahgagmfhdaaaGreatDoorJILay
import Derived.Test.YtlkahgagmfhdaaaGreatDoorJIObj
set_option linter.unusedVariables false
set_option linter.unusedSimpArgs false
set_option linter.unusedSectionVars false
open Nat renaming le_of_lt→ae,le_refl→af,ne_of_lt→ag
open List renaming getElem?_eq_getElem→ah,mem_of_mem_drop→ai,not_mem_nil→ak,mem_append→ar,mem_cons→au
set_option maxRecDepth 100000
set_option maxHeartbeats 8000000
namespace Go.Proofs.YtlkahgagmfhdaaaGreatDoor
section
open Go.RowKit
attribute [local go_sem] Oper.semAt_some
def Xn (E:Nat)(w:World)(e:Ending)(w':World):Prop:=
 Below w.heap.size w w'/\e= .returned (.tuple #[yl 0 0 (.slice none 0 0) (.slice none 0 0),.pointer none,.int .i64 (E:Nat)])
def lj (b:List Nat)(size:Nat)(w:World)(e:Ending)(w':World):Prop:=
 match iD b with
 | .error E=>Xn E w e w'
 | .ok r=>(size<r.words.length->Xn 4 w e w')/\(¬ size<r.words.length->(r.apm=true\/¬ li size r.words r.roots r.last)->Xn 145 w e w')/\
  (¬ size<r.words.length->r.apm=false->∀ l,ix r.words=some l->(HM.apj size r.words r.roots r.last).apx l->
    ∃ (p:HP) (A1 A2:Option Addr) (n1 c1 n2 c2:Nat),e= .returned (.tuple #[.agg #[.int .i64 r.ver,.int .i64 l.length,.int .u32 r.last,.slice A1 n1 c1,.slice A2 n2 c2],ptr p.g,.int .i64 0])/\fO w' p (HM.apj size r.words r.roots r.last)/\
      (∀ k,p.has k->w.heap.size<=k)/\Below w.heap.size w w')
theorem lj.err {b:List Nat}{size E:Nat}{w w':World}(hb:Below w.heap.size w w')(h:iD b= .error E):
 lj b size w (.returned (.tuple #[.agg #[.int .i64 0,.int .i64 0,.int .u32 0,.slice none 0 0,.slice none 0 0],.pointer none,.int .i64 (E:Nat)])) w':=by
 unfold lj;rw[h];exact⟨hb,rfl⟩
theorem eW.aqL {w:World}{g b7:Nat}{t:TypeId}{cs:Array Value}(b:eW w g t cs)(h:g≠b7)(i:Nat)(v:Value):eW (w.setCell ⟨b7,i,none⟩ v) g t cs:=b.same (Below.heap_setCell w ⟨b7,i,none⟩ v g h)
theorem eW.aqv {w:World}{g b7:Nat}{t:TypeId}{cs:Array Value}(b:eW w g t cs)(h:g≠b7)(x0 x1 x2 x3 x4:Value):
 eW (((((w.setCell ⟨b7,0,none⟩ x0).setCell ⟨b7,1,none⟩ x1).setCell ⟨b7,2,none⟩ x2).setCell ⟨b7,3,none⟩ x3).setCell ⟨b7,4,none⟩ x4) g t cs:=
 ((((b.aqL h 0 x0).aqL h 1 x1).aqL h 2 x2).aqL h 3 x3).aqL h 4 x4
theorem lj.small {b:List Nat}{size:Nat}{r:Rd}{w w':World}(hb:Below w.heap.size w w')(h:iD b= .ok r)(h1:size<r.words.length):
 lj b size w (.returned (.tuple #[.agg #[.int .i64 0,.int .i64 0,.int .u32 0,.slice none 0 0,.slice none 0 0],.pointer none,.int .i64 ((4:Nat):Int)])) w':=by
 unfold lj;rw[h];exact⟨fun _=>⟨hb,rfl⟩,fun hn=>absurd h1 hn,fun hn=>absurd h1 hn⟩
theorem lj.apm {b:List Nat}{size:Nat}{r:Rd}{w w':World}(hb:Below w.heap.size w w')(h:iD b= .ok r)(h1:¬ size<r.words.length)(h2:r.apm=true):
 lj b size w (.returned (.tuple #[.agg #[.int .i64 0,.int .i64 0,.int .u32 0,.slice none 0 0,.slice none 0 0],.pointer none,.int .i64 ((145:Nat):Int)])) w':=by
 unfold lj;rw[h];exact⟨fun hn=>absurd hn h1,fun _ _=>⟨hb,rfl⟩,fun _ hw=>by rw[h2]at hw;cases hw⟩
theorem lj.bad {b:List Nat}{size:Nat}{r:Rd}{w w':World}(hb:Below w.heap.size w w')(h:iD b= .ok r)(h1:¬ size<r.words.length)(h2:¬ li size r.words r.roots r.last):
 lj b size w (.returned (.tuple #[.agg #[.int .i64 0,.int .i64 0,.int .u32 0,.slice none 0 0,.slice none 0 0],.pointer none,.int .i64 ((145:Nat):Int)])) w':=by
 unfold lj;rw[h];exact⟨fun hn=>absurd hn h1,fun _ _=>⟨hb,rfl⟩,fun _ _ l h3 h4=>absurd ⟨l,h3,h4⟩ h2⟩
theorem QN {size last:Nat}{ws rs:List Nat}(hn:¬ li size ws rs last):jg size ws rs last≠0:=by
 unfold jg;split
 .decide
 .first
  | decide
  | (rw[if_neg hn];decide)
theorem JA {size last:Nat}{ws rs:List Nat}(hs:¬ size<ws.length)(hr:rs.length=64)(hok:li size ws rs last):jg size ws rs last=0:=by
 refine vE ?_ hok;rintro (h|h|h)
 .obtain⟨l,h1,h2⟩:=hok;rw[List.length_eq_zero_iff.1 h]at h1;exact absurd h1 (by simp[ix])
 .exact hs h
 .exact h hr
theorem lj.good {b:List Nat}{size:Nat}{r:Rd}{w w':World}{l:List Ob}{p:HP}{A1 A2:Option Addr}{n1 c1 n2 c2:Nat}(h:iD b= .ok r)(h1:¬ size<r.words.length)(hl:ix r.words=some l)(VR:(HM.apj size r.words r.roots r.last).apx l)(hw:r.apm=false)
 (HA:fO w' p (HM.apj size r.words r.roots r.last))(hn:∀ k,p.has k->w.heap.size<=k)(hb:Below w.heap.size w w'):
 lj b size w (.returned (.tuple #[.agg #[.int .i64 r.ver,.int .i64 l.length,.int .u32 r.last,.slice A1 n1 c1,.slice A2 n2 c2],ptr p.g,.int .i64 0])) w':=by
 unfold lj;rw[h];refine⟨fun hn=>absurd hn h1,fun _ hx=>?_,fun _ _ l' hl' _=>?_⟩
 .rcases hx with hx|hx
  .rw[hw]at hx;cases hx
  .exact absurd ⟨l,hl,VR⟩ hx
 .rw[hl]at hl';cases hl';exact⟨p,A1,A2,n1,c1,n2,c2,rfl,HA,hn,hb⟩
theorem GM {bs:List Nat}{E:Nat}(h:ly bs= .error E):E≠0:=by
 unfold ly at h;split at h
 .rename_i e he;cases h;exact um he
 .split at h
  .cases h;decide
  .split at h
   .cases h;decide
   .cases h
def Fo (bs:List Nat)(size:Nat)(w W':World)(b7:Nat)(v8:Value):Prop:=
 Below w.heap.size w W'/\eW W' w.heap.size 130 #[.int .i64 0,.int .i64 0,.int .u32 0,.slice none 0 0,.slice none 0 0]/\w.heap.size<b7/\
 ((∃ E:Nat,E≠0/\v8= .int .i64 (E:Nat)/\∀ W2,Below w.heap.size w W2->lj bs size w (.returned (.tuple #[.agg #[.int .i64 0,.int .i64 0,.int .u32 0,.slice none 0 0,.slice none 0 0],.pointer none,.int .i64 (E:Nat)])) W2)\/
  (∃ (r:Rd) (A1 A2:Option Addr) (c1 c2:Nat),v8= .int .i64 0/\iD bs= .ok r/\r.apm=false/\
     eW W' b7 130 #[.int .i64 r.ver,.int .i64 0,.int .u32 r.last,.slice A1 r.words.length c1,.slice A2 r.roots.length c2]/\
     eQ W' W'.heap.size 1 A1 r.words.length (eN r.words)/\eQ W' W'.heap.size 1 A2 r.roots.length (eN r.roots)))
theorem NX {bs:List Nat}(h1:¬ 8388608<bs.length)(h2:¬ (bs.length<5\/bs.take 4≠[69,70,73,71]))(h3:bs.getD 4 0=1):iD bs=uh bs:=by
 unfold iD;rw[if_neg h1,if_neg h2,if_pos h3]
theorem NV {bs:List Nat}(h1:¬ 8388608<bs.length)(h2:¬ (bs.length<5\/bs.take 4≠[69,70,73,71]))(h3:bs.getD 4 0=2):iD bs=match ly (bs.drop 5) with
 | .error e=> .error e
 | .ok i=> .ok ⟨2,i.words,i.roots,i.last,i.apm⟩:=by
 unfold iD;rw[if_neg h1,if_neg h2,if_neg (by omega),if_pos h3];rfl
theorem NW {bs:List Nat}(h1:¬ 8388608<bs.length)(h2:¬ (bs.length<5\/bs.take 4≠[69,70,73,71]))(h3:bs.getD 4 0≠1)(h4:bs.getD 4 0≠2):iD bs= .error 141:=by
 unfold iD;rw[if_neg h1,if_neg h2,if_neg h3,if_neg h4]
theorem GX {bs:List Nat}{E:Nat}(h:uh bs= .error E):E≠0:=by
 unfold uh at h;split at h
 .cases h;decide
 .split at h
  .cases h;decide
  .cases h
theorem Du {w:World}{g0 o0 n c:Nat}{A:Option Addr}{bs:List Nat}{size:Nat}(hs:eX w)(hsp:∀ k,w.heap.size<=k->k≠0/\k≠0)(hr:eQ w w.heap.size 1 A n (fP bs))
 (hA:0<n->A=some ⟨g0,o0,none⟩)(hc:n<=c)(hn:n<=9223372036854775807)(h8:∀ x∈bs,x<256)(h64:64<=size)(hsize:size<=1048576):
 Calls Tryz.prog 58 #[.slice A n c,.int .i64 size] w (lj bs size w):=by
 have hbl:bs.length=n:=by have:=hr.1;rw[gW]at this;omega
 have hb1:Below w.heap.size w (w.alloc (.cells #[.int .i64 0,.int .i64 0,.int .u32 0,.slice none 0 0,.slice none 0 0] 130)):=(Below.refl _ _).alloc (af _) _;have Bz:=aa hb1;have j_:=aa (eW.new w 130 #[.int .i64 0,.int .i64 0,.int .u32 0,.slice none 0 0,.slice none 0 0]);have Bi:=aa (hr.below hb1);have Bj:=aa (hs.below hb1);have Xb:=aa hs;have yX:=aa hsp;have xq:=aa hbl;have H8:=aa h8;clear hb1 hr hs hsp hbl h8;refine (callsIn_wide (n:=6)).1 ?_;refine callsIn_of_wp_marks Tryz.func58 rfl trivial ?_ rfl;simp only[Tryz.ntmps58,List.size_toArray,List.length_cons,List.length_nil,Nat.reduceAdd,Nat.reduceSub,Array.replicate_succ,Array.replicate_zero,List.push_toArray,List.append_toArray,List.nil_append,List.cons_append]
 gi_upto_region 1 with fail
 generalize w.alloc (.cells #[.int .i64 0,.int .i64 0,.int .u32 0,.slice none 0 0,.slice none 0 0] 130)=W1 at*;by_cases tY:8388608<n
 .have hd:decide (8388608<(n:Int))=true:=decide_eq_true (by omega);have mF:=aa (show iD bs= .error 2 from by unfold iD;rw[if_pos (by rw[xq.o];exact tY)]);clear Bi Bj yX xq H8;have z0:=j_.o.frozen 0;have z1:=j_.o.frozen 1;have z2:=j_.o.frozen 2;have z3:=j_.o.frozen 3;have z4:=j_.o.frozen 4;have d0:=j_.o.cell 0;have d1:=j_.o.cell 1;have d2:=j_.o.cell 2;have d3:=j_.o.cell 3;have d4:=j_.o.cell 4;have gh:=aa (j_.o.apf (.int .i64 0) (.int .i64 0) (.int .u32 0) (.slice none 0 0) (.slice none 0 0));have jC:=aa (hZ Bz.o (g:=w.heap.size) (by omega) (.int .i64 0) (.int .i64 0) (.int .u32 0) (.slice none 0 0) (.slice none 0 0));gi_wp2_with fail;generalize (((((W1.setCell ⟨w.heap.size,0,none⟩ (.int .i64 0)).setCell ⟨w.heap.size,1,none⟩ (.int .i64 0)).setCell ⟨w.heap.size,2,none⟩ (.int .u32 0)).setCell ⟨w.heap.size,3,none⟩ (.slice none 0 0)).setCell ⟨w.heap.size,4,none⟩ (.slice none 0 0))=WF at*;clear z0 d0 z1 d1 z2 d2 z3 d3 z4 d4;have f0:=gh.o.cell 0;have f1:=gh.o.cell 1;have f2:=gh.o.cell 2;have f3:=gh.o.cell 3;have f4:=gh.o.cell 4;refine⟨.tuple #[.agg #[.int .i64 0,.int .i64 0,.int .u32 0,.slice none 0 0,.slice none 0 0],.pointer none,.int .i64 2],by simp[results,Tryz.results58,go_sem,f0,f1,f2,f3,f4],?_⟩;exact lj.err jC.o mF.o
 .have hd : decide (8388608<(n:Int))=false:=decide_eq_false (by omega);by_cases h5:n<5
  .have Ex:decide ((n:Int)<5)=true:=decide_eq_true (by omega);have mF:=aa (show iD bs= .error 140 from by unfold iD;rw[if_neg (by rw[xq.o];exact tY),if_pos (.inl (by rw[xq.o];exact h5))]);clear Bi Bj yX xq H8;have z0:=j_.o.frozen 0;have z1:=j_.o.frozen 1;have z2:=j_.o.frozen 2;have z3:=j_.o.frozen 3;have z4:=j_.o.frozen 4;have d0:=j_.o.cell 0;have d1:=j_.o.cell 1;have d2:=j_.o.cell 2;have d3:=j_.o.cell 3;have d4:=j_.o.cell 4;have gh:=aa (j_.o.apf (.int .i64 0) (.int .i64 0) (.int .u32 0) (.slice none 0 0) (.slice none 0 0));have jC:=aa (hZ Bz.o (g:=w.heap.size) (by omega) (.int .i64 0) (.int .i64 0) (.int .u32 0) (.slice none 0 0) (.slice none 0 0));gi_wp2_with fail;generalize (((((W1.setCell ⟨w.heap.size,0,none⟩ (.int .i64 0)).setCell ⟨w.heap.size,1,none⟩ (.int .i64 0)).setCell ⟨w.heap.size,2,none⟩ (.int .u32 0)).setCell ⟨w.heap.size,3,none⟩ (.slice none 0 0)).setCell ⟨w.heap.size,4,none⟩ (.slice none 0 0))=WF at*;clear z0 d0 z1 d1 z2 d2 z3 d3 z4 d4;have f0:=gh.o.cell 0;have f1:=gh.o.cell 1;have f2:=gh.o.cell 2;have f3:=gh.o.cell 3;have f4:=gh.o.cell 4;refine⟨.tuple #[.agg #[.int .i64 0,.int .i64 0,.int .u32 0,.slice none 0 0,.slice none 0 0],.pointer none,.int .i64 140],by simp[results,Tryz.results58,go_sem,f0,f1,f2,f3,f4],?_⟩;exact lj.err jC.o mF.o
  .have Ex :decide ((n:Int)<5)=false:=decide_eq_false (by omega);have hA':=hA (by omega);clear hA;subst hA';have Su:∀ w:World,(Instr.slice 22 (.slice (some ⟨g0,o0,none⟩) n c) none (some (.int .i64 4)) none).run Tryz.prog w= .ok (.slice (some ⟨g0,o0,none⟩) 4 c) w:=fun w=>by
    have h:=AJ w (some ⟨g0,o0,none⟩) n c 4 (by omega);have e:iH (some ⟨g0,o0,none⟩) c 0=some ⟨g0,o0,none⟩:=by
     unfold iH;split
     .rfl
     .simp[Addr.add]
    rw[e]at h;exact h
   have HCV:=Mg (len:=4) (c2:=c) Bi.o (by omega) (by omega);by_cases Gn:bs.take 4=[69,70,73,71]
   .rw[Gn,DR]at HCV;have yy:=aa Gn;clear Gn
    gi_upto_region 6 with fail
    have hb2:Below W1.heap.size W1 (W1.alloc (.cells #[.int .i64 0,.int .i64 0,.int .u32 0,.slice none 0 0,.slice none 0 0] 130)):=(Below.refl _ _).alloc (af _) _;have pj:w.heap.size<W1.heap.size:=j_.o.lt;have ma:=aa (eW.new W1 130 #[.int .i64 0,.int .i64 0,.int .u32 0,.slice none 0 0,.slice none 0 0]);have LP:=aa (j_.o.below hb2 j_.o.lt);have Ih:=aa (eF Bz.o hb2);have uz:=aa (Bi.o.below (hb2.mono (ae pj)));have nE:=aa (Bj.o.below hb2);clear hb2 j_ Bz Bi Bj HCV Su
    iterate 8 (first|go_values|gi_guarded|gi_step|gi_upon|gi_back|go_simp)
    generalize W1.alloc (.cells #[.int .i64 0,.int .i64 0,.int .u32 0,.slice none 0 0,.slice none 0 0] 130)=W2 at*;generalize W1.heap.size=b7 at*;have HT1:¬ 8388608<bs.length:=(by rw[xq.o];exact tY);have Xc:¬ (bs.length<5\/bs.take 4≠[69,70,73,71]):=(by rw[xq.o];rintro (h|h);exact h5 h;exact h yy.o);have H3:=aa (And.intro (fun h3=>NX HT1 Xc h3) (And.intro (fun h3=>NV HT1 Xc h3) (fun h3 h4=>NW HT1 Xc h3 h4)));clear HT1 Xc
    gi_cut [8] from 24 (fun v8 W'=>Fo bs size w W' b7 v8)
    case first=>
     have c4:W2.cell? ⟨g0,o0+4,none⟩=some (.int .u8 (bs.getD 4 0:Nat)):=by
      obtain⟨ad,e,hb,hx⟩:=uz.o.2 (by omega);injection e with e;subst e;have hl:4<bs.length:=(by rw[xq.o];omega);have:=hx 4 (.int .u8 (bs[4]:Nat)) (by unfold fP;rw[List.getElem?_map,ah hl];rfl);rw[WideShapes.add_plain]at this;rw[this,List.getD_eq_getElem?_getD,ah hl];rfl
     generalize bs.getD 4 0=vb at*;have Uj:b7<W2.heap.size:=ma.o.lt;have acj:w.heap.size<=W2.heap.size:=(by omega);by_cases K7:vb=1
     .subst K7;have oV:=aa (H3.o.1 rfl);have c4':W2.cell? ⟨g0,o0+4,none⟩=some (.int .u8 1):=c4;have Sq:=aa (EM (w:=W2) (c:=c) (uz.o.more acj) hc (by omega) H8.o);clear c4 H3;gi_wp2_with fail;refine⟨trivial,(callsIn_wide.2 Sq.o).mono ?_⟩;rintro e W3 ⟨hb3,gI⟩;have yv:=aa (eF Ih.o hb3);have BN:=aa (LP.o.below hb3 LP.o.lt);have ig:=aa (ma.o.below hb3 ma.o.lt);clear Sq ma Ih LP hb3 c4'
      cases yi:uh bs with
      | error E=>
        rw[yi]at gI;simp only at gI;unfold yl at gI;subst gI;have hE:=GX yi;have Ty:=aa (oV.o.trans yi)
        have ux:=aa (show Fo bs size w (((((W3.setCell ⟨b7,0,none⟩ (.int .i64 0)).setCell ⟨b7,1,none⟩ (.int .i64 0)).setCell ⟨b7,2,none⟩ (.int .u32 0)).setCell ⟨b7,3,none⟩ (.slice none 0 0)).setCell ⟨b7,4,none⟩ (.slice none 0 0)) b7 (.int .i64 ((E:Nat))) from
         ⟨hZ yv.o (ae pj) (.int .i64 0) (.int .i64 0) (.int .u32 0) (.slice none 0 0) (.slice none 0 0),BN.o.aqv (ag pj) (.int .i64 0) (.int .i64 0) (.int .u32 0) (.slice none 0 0) (.slice none 0 0),pj,.inl ⟨(E:Nat),hE,rfl,fun W2 hb=>lj.err hb Ty.o⟩⟩)
        have z0:=ig.o.frozen 0;have z1:=ig.o.frozen 1;have z2:=ig.o.frozen 2;have z3:=ig.o.frozen 3;have z4:=ig.o.frozen 4;have d0:=ig.o.cell 0;have d1:=ig.o.cell 1;have d2:=ig.o.cell 2;have d3:=ig.o.cell 3;have d4:=ig.o.cell 4;clear ig yv BN uz nE H8 yX xq oV;gi_wp2_with fail
        gi_meet
        exact ux.o
      | ok r=>
        rw[yi]at gI;simp only at gI;obtain⟨A1,A2,c1,c2,gI,hr1,hr2,KY⟩:=gI;have Yc:r.ver=1/\r.apm=false:=by
         unfold uh at yi;split at yi
         .cases yi
         .split at yi
          .cases yi
          .cases yi;exact⟨rfl,rfl⟩
        replace gI:e= .returned (.tuple #[.agg #[.int .i64 1,.int .i64 0,.int .u32 r.last,.slice A1 r.words.length c1,.slice A2 r.roots.length c2],.int .i64 0]):=gI;subst gI;have Ty:=aa (oV.o.trans yi);have hv:=Yc.1;have HVW:=aa Yc.2;clear Yc;have hx1:=oN (g:=b7) hr1 (fun _ a ha e=>by have:=KY a (.inl ha);omega) (.int .i64 1) (.int .i64 0) (.int .u32 r.last) (.slice A1 r.words.length c1) (.slice A2 r.roots.length c2);have hx2:=oN (g:=b7) hr2 (fun _ a ha e=>by have:=KY a (.inr ha);omega) (.int .i64 1) (.int .i64 0) (.int .u32 r.last) (.slice A1 r.words.length c1) (.slice A2 r.roots.length c2)
        have ux:=aa (show Fo bs size w (((((W3.setCell ⟨b7,0,none⟩ (.int .i64 1)).setCell ⟨b7,1,none⟩ (.int .i64 0)).setCell ⟨b7,2,none⟩ (.int .u32 r.last)).setCell ⟨b7,3,none⟩ (.slice A1 r.words.length c1)).setCell ⟨b7,4,none⟩ (.slice A2 r.roots.length c2)) b7 (.int .i64 0) from
         ⟨hZ yv.o (ae pj) (.int .i64 1) (.int .i64 0) (.int .u32 r.last) (.slice A1 r.words.length c1) (.slice A2 r.roots.length c2),BN.o.aqv (ag pj) (.int .i64 1) (.int .i64 0) (.int .u32 r.last) (.slice A1 r.words.length c1) (.slice A2 r.roots.length c2),pj,.inr ⟨r,A1,A2,c1,c2,rfl,Ty.o,HVW.o,by rw[hv];exact ig.o.apf (.int .i64 1) (.int .i64 0) (.int .u32 r.last) (.slice A1 r.words.length c1) (.slice A2 r.roots.length c2),hx1,hx2⟩⟩)
        have z0:=ig.o.frozen 0;have z1:=ig.o.frozen 1;have z2:=ig.o.frozen 2;have z3:=ig.o.frozen 3;have z4:=ig.o.frozen 4;have d0:=ig.o.cell 0;have d1:=ig.o.cell 1;have d2:=ig.o.cell 2;have d3:=ig.o.cell 3;have d4:=ig.o.cell 4;clear hx1 hx2 hr1 hr2 KY ig yv BN uz nE H8 yX xq oV;gi_wp2_with fail
        gi_meet
        exact ux.o
     .by_cases hv2:vb=2
      .subst hv2;have oV:=aa (H3.o.2.1 rfl);have c4':W2.cell? ⟨g0,o0+4,none⟩=some (.int .u8 2):=c4;have hq:=uo (k:=5) (uz.o.more acj) hc (by omega);have afz:∀ w:World,(Instr.slice 22 (.slice (some ⟨g0,o0,none⟩) n c) (some (.int .i64 5)) none none).run Tryz.prog w= .ok (.slice (iH (some ⟨g0,o0,none⟩) c 5) (n-5) (c-5)) w:=fun w=>AK w (some ⟨g0,o0,none⟩) n c 5 (by omega);have Sq:=aa (EL (w:=W2) (c:=c-5) (size:=size) nE.o hq (by omega) (by omega) (fun x hx=>H8.o x (ai hx)) hsize);have H8D:=aa (show ∀ x∈bs.drop 5,x<256 from fun x hx=>H8.o x (ai hx));clear c4 H3 hq;generalize iH (some ⟨g0,o0,none⟩) c 5=A5 at*;gi_wp2_with fail;refine⟨trivial,(callsIn_wide.2 Sq.o).mono ?_⟩;rintro e W3 ⟨hb3,gI⟩;have yv:=aa (eF Ih.o hb3);have BN:=aa (LP.o.below hb3 LP.o.lt);have ig:=aa (ma.o.below hb3 ma.o.lt);clear Sq ma Ih LP hb3 c4' afz
       cases yi:ly (bs.drop 5) with
       | error E=>
         rw[yi]at gI;simp only at gI;unfold yl at gI;subst gI;have hE:=GM yi;have Ty:=aa (show iD bs= .error E from oV.o.trans (by rw[yi]))
         have ux:=aa (show Fo bs size w (((((W3.setCell ⟨b7,0,none⟩ (.int .i64 0)).setCell ⟨b7,1,none⟩ (.int .i64 0)).setCell ⟨b7,2,none⟩ (.int .u32 0)).setCell ⟨b7,3,none⟩ (.slice none 0 0)).setCell ⟨b7,4,none⟩ (.slice none 0 0)) b7 (.int .i64 ((E:Nat))) from
          ⟨hZ yv.o (ae pj) (.int .i64 0) (.int .i64 0) (.int .u32 0) (.slice none 0 0) (.slice none 0 0),BN.o.aqv (ag pj) (.int .i64 0) (.int .i64 0) (.int .u32 0) (.slice none 0 0) (.slice none 0 0),pj,.inl ⟨(E:Nat),hE,rfl,fun W2 hb=>lj.err hb Ty.o⟩⟩)
         have z0:=ig.o.frozen 0;have z1:=ig.o.frozen 1;have z2:=ig.o.frozen 2;have z3:=ig.o.frozen 3;have z4:=ig.o.frozen 4;have d0:=ig.o.cell 0;have d1:=ig.o.cell 1;have d2:=ig.o.cell 2;have d3:=ig.o.cell 3;have d4:=ig.o.cell 4;clear ig yv BN uz nE H8 yX xq oV;gi_wp2_with fail
         gi_meet
         exact ux.o
       | ok i=>
         rw[yi]at gI;simp only at gI;have Ty:=aa (show iD bs= .ok ⟨2,i.words,i.roots,i.last,i.apm⟩ from oV.o.trans (by rw[yi]));have CX:i.words.length=fL i.ts:=x9 i.ts i.ts (GN yi H8D.o).2.2;rw[<-CX]at gI;clear CX yi;by_cases hsm:size<i.words.length
         .rw[if_pos hsm]at gI;unfold yl at gI;subst gI;have oU:=aa hsm;clear hsm
          have ux:=aa (show Fo bs size w (((((W3.setCell ⟨b7,0,none⟩ (.int .i64 0)).setCell ⟨b7,1,none⟩ (.int .i64 0)).setCell ⟨b7,2,none⟩ (.int .u32 0)).setCell ⟨b7,3,none⟩ (.slice none 0 0)).setCell ⟨b7,4,none⟩ (.slice none 0 0)) b7 (.int .i64 (((4:Nat):Int))) from
           ⟨hZ yv.o (ae pj) (.int .i64 0) (.int .i64 0) (.int .u32 0) (.slice none 0 0) (.slice none 0 0),BN.o.aqv (ag pj) (.int .i64 0) (.int .i64 0) (.int .u32 0) (.slice none 0 0) (.slice none 0 0),pj,.inl ⟨4,by decide,rfl,fun W2 hb=>lj.small hb Ty.o oU.o⟩⟩)
          have z0:=ig.o.frozen 0;have z1:=ig.o.frozen 1;have z2:=ig.o.frozen 2;have z3:=ig.o.frozen 3;have z4:=ig.o.frozen 4;have d0:=ig.o.cell 0;have d1:=ig.o.cell 1;have d2:=ig.o.cell 2;have d3:=ig.o.cell 3;have d4:=ig.o.cell 4;clear ig yv BN uz nE H8 yX xq oV;gi_wp2_with fail
          gi_meet
          exact ux.o
         .rw[if_neg hsm]at gI;by_cases hwr:i.apm=true
          .rw[if_pos hwr]at gI;unfold yl at gI;subst gI;have oU:=aa hsm;have Pg:=aa hwr;clear hsm hwr
           have ux:=aa (show Fo bs size w (((((W3.setCell ⟨b7,0,none⟩ (.int .i64 0)).setCell ⟨b7,1,none⟩ (.int .i64 0)).setCell ⟨b7,2,none⟩ (.int .u32 0)).setCell ⟨b7,3,none⟩ (.slice none 0 0)).setCell ⟨b7,4,none⟩ (.slice none 0 0)) b7 (.int .i64 (((145:Nat):Int))) from
            ⟨hZ yv.o (ae pj) (.int .i64 0) (.int .i64 0) (.int .u32 0) (.slice none 0 0) (.slice none 0 0),BN.o.aqv (ag pj) (.int .i64 0) (.int .i64 0) (.int .u32 0) (.slice none 0 0) (.slice none 0 0),pj,.inl ⟨145,by decide,rfl,fun W2 hb=>lj.apm hb Ty.o oU.o Pg.o⟩⟩)
           have z0:=ig.o.frozen 0;have z1:=ig.o.frozen 1;have z2:=ig.o.frozen 2;have z3:=ig.o.frozen 3;have z4:=ig.o.frozen 4;have d0:=ig.o.cell 0;have d1:=ig.o.cell 1;have d2:=ig.o.cell 2;have d3:=ig.o.cell 3;have d4:=ig.o.cell 4;clear ig yv BN uz nE H8 yX xq oV;gi_wp2_with fail
           gi_meet
           exact ux.o
          .rw[if_neg hwr]at gI;obtain⟨A1,A2,c1,c2,gI,hr1,hr2,KY⟩:=gI;replace gI:e= .returned (.tuple #[.agg #[.int .i64 2,.int .i64 0,.int .u32 i.last,.slice A1 i.words.length c1,.slice A2 i.roots.length c2],.int .i64 0]):=gI;subst gI;have Pg:=aa (show i.apm=false from by simpa using hwr);clear hsm hwr;have hx1:=oN (g:=b7) hr1 (fun _ a ha e=>by have:=KY a (.inl ha);omega) (.int .i64 2) (.int .i64 0) (.int .u32 i.last) (.slice A1 i.words.length c1) (.slice A2 i.roots.length c2);have hx2:=oN (g:=b7) hr2 (fun _ a ha e=>by have:=KY a (.inr ha);omega) (.int .i64 2) (.int .i64 0) (.int .u32 i.last) (.slice A1 i.words.length c1) (.slice A2 i.roots.length c2)
           have ux:=aa (show Fo bs size w (((((W3.setCell ⟨b7,0,none⟩ (.int .i64 2)).setCell ⟨b7,1,none⟩ (.int .i64 0)).setCell ⟨b7,2,none⟩ (.int .u32 i.last)).setCell ⟨b7,3,none⟩ (.slice A1 i.words.length c1)).setCell ⟨b7,4,none⟩ (.slice A2 i.roots.length c2)) b7 (.int .i64 0) from
            ⟨hZ yv.o (ae pj) (.int .i64 2) (.int .i64 0) (.int .u32 i.last) (.slice A1 i.words.length c1) (.slice A2 i.roots.length c2),BN.o.aqv (ag pj) (.int .i64 2) (.int .i64 0) (.int .u32 i.last) (.slice A1 i.words.length c1) (.slice A2 i.roots.length c2),pj,.inr ⟨⟨2,i.words,i.roots,i.last,i.apm⟩,A1,A2,c1,c2,rfl,Ty.o,Pg.o,ig.o.apf (.int .i64 2) (.int .i64 0) (.int .u32 i.last) (.slice A1 i.words.length c1) (.slice A2 i.roots.length c2),hx1,hx2⟩⟩)
           have z0:=ig.o.frozen 0;have z1:=ig.o.frozen 1;have z2:=ig.o.frozen 2;have z3:=ig.o.frozen 3;have z4:=ig.o.frozen 4;have d0:=ig.o.cell 0;have d1:=ig.o.cell 1;have d2:=ig.o.cell 2;have d3:=ig.o.cell 3;have d4:=ig.o.cell 4;clear hx1 hx2 hr1 hr2 KY ig yv BN uz nE H8 yX xq oV;gi_wp2_with fail
           gi_meet
           exact ux.o
      .have hq1:((vb:Int) == 1)=false:=(by simp;omega);have hq2:((vb:Int) == 2)=false:=(by simp;omega);have mF:=aa (H3.o.2.2 K7 hv2);have ux:=aa (show Fo bs size w W2 b7 (.int .i64 ((141:Nat):Int)) from⟨Ih.o,LP.o,pj,.inl ⟨141,by decide,rfl,fun W2 hb=>lj.err hb mF.o⟩⟩);gi_wp2_with fail
       gi_meet
       exact ux.o
    case rest=>
     obtain⟨VA,hzC,Gj,hcut⟩:=hcut;have yc:=aa hzC;have HFC:=aa VA;clear H3 ma LP Ih uz hzC;rcases hcut with ⟨E,hE,rfl,gS⟩|⟨r,A1,A2,c1,c2,rfl,hT,hwr,kT,hr1,hr2⟩
     .have he:(((E:Nat):Int) != 0)=true:=(by simp;omega);have Wv:=aa gS;clear gS nE yX yy xq H8 VA;have z0:=yc.o.frozen 0;have z1:=yc.o.frozen 1;have z2:=yc.o.frozen 2;have z3:=yc.o.frozen 3;have z4:=yc.o.frozen 4;have d0:=yc.o.cell 0;have d1:=yc.o.cell 1;have d2:=yc.o.cell 2;have d3:=yc.o.cell 3;have d4:=yc.o.cell 4;have gh:=aa (yc.o.apf (.int .i64 0) (.int .i64 0) (.int .u32 0) (.slice none 0 0) (.slice none 0 0));have jC:=aa (hZ HFC.o (g:=w.heap.size) (by omega) (.int .i64 0) (.int .i64 0) (.int .u32 0) (.slice none 0 0) (.slice none 0 0));gi_wp2_with fail;generalize (((((wc.setCell ⟨w.heap.size,0,none⟩ (.int .i64 0)).setCell ⟨w.heap.size,1,none⟩ (.int .i64 0)).setCell ⟨w.heap.size,2,none⟩ (.int .u32 0)).setCell ⟨w.heap.size,3,none⟩ (.slice none 0 0)).setCell ⟨w.heap.size,4,none⟩ (.slice none 0 0))=WF at*;clear z0 d0 z1 d1 z2 d2 z3 d3 z4 d4;have f0:=gh.o.cell 0;have f1:=gh.o.cell 1;have f2:=gh.o.cell 2;have f3:=gh.o.cell 3;have f4:=gh.o.cell 4;refine⟨.tuple #[.agg #[.int .i64 0,.int .i64 0,.int .u32 0,.slice none 0 0,.slice none 0 0],.pointer none,.int .i64 (E:Nat)],by simp[results,Tryz.results58,go_sem,f0,f1,f2,f3,f4],?_⟩;exact Wv.o _ jC.o
     .have HT:=aa hT;have Pg:=aa hwr;have Ct:=aa (Ht hT H8.o);have ma:=aa kT;have Bi:=aa hr1;have uz:=aa hr2;have y3:wc.cell? ⟨b7,3,none⟩=some (.slice A1 r.words.length c1):=kT.cell 3;clear hT hwr kT hr1 hr2;obtain⟨lw,zC⟩ :∃ l,l=r.words.length:=⟨_,rfl⟩;rw[<-zC]at y3;have Be:=aa zC;clear zC;by_cases hsm:size<lw
      .have hd3:decide ((size:Int)<(lw:Int))=true:=decide_eq_true (by omega);have hdi:(size:Int)<(lw:Int):=(by omega);have oU:=aa (show size<r.words.length by rw[<-Be.o];exact hsm);clear nE yX yy xq H8 VA Bi uz ma Ct hsm Pg;have z0:=yc.o.frozen 0;have z1:=yc.o.frozen 1;have z2:=yc.o.frozen 2;have z3:=yc.o.frozen 3;have z4:=yc.o.frozen 4;have d0:=yc.o.cell 0;have d1:=yc.o.cell 1;have d2:=yc.o.cell 2;have d3:=yc.o.cell 3;have d4:=yc.o.cell 4;have gh:=aa (yc.o.apf (.int .i64 0) (.int .i64 0) (.int .u32 0) (.slice none 0 0) (.slice none 0 0));have jC:=aa (hZ HFC.o (g:=w.heap.size) (by omega) (.int .i64 0) (.int .i64 0) (.int .u32 0) (.slice none 0 0) (.slice none 0 0));gi_wp2_with fail;generalize (((((wc.setCell ⟨w.heap.size,0,none⟩ (.int .i64 0)).setCell ⟨w.heap.size,1,none⟩ (.int .i64 0)).setCell ⟨w.heap.size,2,none⟩ (.int .u32 0)).setCell ⟨w.heap.size,3,none⟩ (.slice none 0 0)).setCell ⟨w.heap.size,4,none⟩ (.slice none 0 0))=WF at*;clear z0 d0 z1 d1 z2 d2 z3 d3 z4 d4;have f0:=gh.o.cell 0;have f1:=gh.o.cell 1;have f2:=gh.o.cell 2;have f3:=gh.o.cell 3;have f4:=gh.o.cell 4;refine⟨.tuple #[.agg #[.int .i64 0,.int .i64 0,.int .u32 0,.slice none 0 0,.slice none 0 0],.pointer none,.int .i64 4],by simp[results,Tryz.results58,go_sem,f0,f1,f2,f3,f4],?_⟩;exact lj.small jC.o HT.o oU.o
      .have hd3:decide ((size:Int)<(lw:Int))=false:=decide_eq_false (by omega);have oU:=aa (show ¬ size<r.words.length by rw[<-Be.o];exact hsm);have IE:=aa (EI size h64 hsize wc);gi_wp2_with fail;refine⟨trivial,(callsIn_wide.2 IE.o).mono ?_⟩;rintro e w5 ⟨p,rfl,H5,mU,iW⟩;have YL:=aa mU;have jL:=aa iW;have y3:=(ma.o.below iW ma.o.lt).cell 3;have y4:=(ma.o.below iW ma.o.lt).cell 4;have y2:=(ma.o.below iW ma.o.lt).cell 2;have hwc:=VA.size
       have Ea:=aa (yZ H5 (HM.aqP h64 hsize) ((Xb.o.below VA).below iW) (fun k hk=>yX.o k (by have:=iW.size;omega)) A1 r.words.length c1 r.words (by have:=Be.o;omega) ((Bi.o.below iW).more iW.size) Ct.o.w32
        A2 r.roots.length c2 r.roots (by rw[Ct.o.roots];omega) ((uz.o.below iW).more iW.size) Ct.o.r32 r.last Ct.o.last)
       clear IE H5 mU iW nE yy H8 xq hwc;unfold ptr at Ea ⊢;gi_wp2_with fail;refine⟨trivial,(callsIn_wide.2 Ea.o).mono ?_⟩;rintro e w6 ⟨p6,rfl,H6,st6⟩;have jV:=st6.below jL.o YL.o;have qR:=aa (yc.o.below jV yc.o.lt);have Si:=aa (eF HFC.o jV);have lQ:=aa (ma.o.below jV ma.o.lt);have E7:=aa (show p6.g=p.g from st6.g);have HBC:=aa (show b7<wc.heap.size/\w.heap.size<=wc.heap.size from⟨ma.o.lt,VA.size⟩);have WJ:=aa (show ∀ k,p6.has k->wc.heap.size<=k from fun k hk=>by
        have h1:=VA.size;have h2:=jL.o.size;rcases st6.rows k hk with h|h
        .have:=YL.o k h;omega
        .omega)
       have HH6:=aa H6;clear H6 st6 jV Ea yc HFC ma Bi uz YL jL y2 y3 y4;rw[show (HM.new size).size=size from rfl];by_cases hok:li size r.words r.roots r.last
       .have hz:=JA oU.o Ct.o.roots hok;have hH:=HH6.o;rw[show (HM.new size).apH r.words r.roots r.last=HM.apj size r.words r.roots r.last from by unfold HM.apH;rw[show (HM.new size).size=size from rfl,if_pos hz]]at hH;rw[hz];obtain⟨l,hpl,VR⟩:=hok;have HGD:=aa (HM.apX h64 hsize Ct.o.w32 Ct.o.r32 Ct.o.roots Ct.o.last (by have:=oU.o;omega) hpl VR);have tO:=aa hpl;have HSO:=aa VR;have HHW:=aa hH;have lM:=aa (Xb.o.below Si.o);clear hz hH hpl VR HH6;gi_wp2_with fail;refine⟨trivial,(callsIn_wide.2 (uT p.g _)).mono ?_⟩;rintro e w7 ⟨rfl,rfl⟩;have kT:Below w6.heap.size w6 (w6.alloc (.cells #[ptr p.g] 23)):=(Below.refl _ _).alloc (af _) _;have ni:=aa (eW.new w6 23 #[ptr p.g]);have ma:=aa (lQ.o.below kT lQ.o.lt);have HZ7:=aa (qR.o.below kT qR.o.lt);have HH7:=aa (HHW.o.below kT);have mf:=aa (lM.o.below kT);have OU:=aa (eF Si.o kT);clear kT;have h7n:=lQ.o.lt;have HHL:=aa (show w6.heap.size<(w6.alloc (.cells #[ptr p.g] 23)).heap.size from by simp);have ahC:0<b7:=(by have:=World.block_lt_of_cell? _ _ (Xb.o 0 (by omega));simp only at this;omega);unfold ptr at ni;gi_wp2_with fail;unfold ptr at*;generalize pd:w6.heap.size=b10 at*;generalize w6.alloc (.cells #[.pointer (some ⟨p.g,0,none⟩)] 23)=W0 at*;clear pd
        refine wpIn_rangeFunc_ownH (F:=Fence.wide) rfl (by omega) (gf:=129) (lb:=#[.pointer (some ⟨b10,0,none⟩)]) rfl trivial (enters_of Tryz.func129 (by kernel_rfl) rfl)
         (se HH7.o HGD.o mf.o 5 b10 b7 (show W0.cell? ⟨b10,0,none⟩=some (ptr p6.g) from by rw[E7.o];exact ni.o.cell 0) ahC) qJ.trans (fun W l o o' _ h1 h2 _=>qJ.book W l o o' h1 h2) (Below.refl _ _) (fun _=>rfl)
         (fun pre W=>eW W b7 130 #[.int .i64 (r.ver:Nat),.int .i64 (pre.length:Nat),.int .u32 (r.last:Nat),.slice A1 r.words.length c1,.slice A2 r.roots.length c2]/\(∀ k,k<W0.heap.size->k≠b7->W.heap[k]? = W0.heap[k]?)/\Below w.heap.size w W/\W0.heap.size<=W.heap.size)
         (fun c pre W=>False)
         (fun pre A B row hs hg hr=>⟨uU hs.1 hg hr,fun k h1 h2=>(hg.block k (by have:=hs.2.2.2;omega) (fun e=>by have:=(hr k e.symm).1;omega)).trans (hs.2.1 k h1 h2),hs.2.2.1.grown hg hs.2.2.1.size (fun k e=>by have h1:=(hr k e).1;have h2:=OU.o.size;omega),Nat.le_trans hs.2.2.2 hg.size⟩)
         (fun c pre A B row hs hg hr=>hs.elim)
         ⟨ma.o,fun _ _ _=>rfl,OU.o,af _⟩
         (fun x a' W=>a'={ tmps:=#[.slice (some ⟨g0,o0,none⟩) n c,.int .i64 (size:Int),undef,undef,.pointer (some ⟨w.heap.size,0,none⟩),.pointer none,.int .i64 0,.pointer (some ⟨b7,0,none⟩),.int .i64 0,.pointer (some ⟨p.g,0,none⟩),.slice (some ⟨g0,o0,none⟩) n c,.int .i64 (n:Int),.bool false,undef,.slice (some ⟨g0,o0,none⟩) n c,.int .i64 (n:Int),.bool false,.bool false,.slice (some ⟨g0,o0,none⟩) n c,.slice (some ⟨g0,o0,none⟩) 4 c,.string { data:=#[69,70,73,71] },.bool false,.bool false,undef,u24,u25,u26,u27,u28,u29,u30,u31,u32,u33,u34,u35,u36,u37,u38,u39,u40,u41,u42,.int .i64 0,.bool false,u45,u46,.pointer (some ⟨b7,3,none⟩),.slice A1 lw c1,.int .i64 (lw:Int),.int .i64 (size:Int),.bool false,u52,.tuple #[.pointer (some ⟨p.g,0,none⟩),.int .i64 0],.int .i64 (size:Int),.tuple #[.pointer (some ⟨p.g,0,none⟩),.int .i64 0],.pointer (some ⟨p.g,0,none⟩),.int .i64 0,.int .i64 0,.bool false,u60,u61,.pointer (some ⟨p.g,0,none⟩),.pointer (some ⟨b7,3,none⟩),.slice A1 r.words.length c1,.pointer (some ⟨b7,4,none⟩),.slice A2 r.roots.length c2,.pointer (some ⟨b7,2,none⟩),.int .u32 (r.last:Int),.int .i64 0,.bool false,u71,.pointer (some ⟨p.g,0,none⟩),.func (.func 129) #[] #[.pointer (some ⟨b10,0,none⟩)],.int .u32 ((2*eG (l.take x.1):Nat):Int),(l[x.1]'x.2).x.val,u76,u77,u78,u79,u80,u81],defers:=[] })
         (fun x a' _ X Y row hs hg hr=>hs)
         ?assign ?body ?done ?stop
        case assign=>
         rintro lp pre x W K hI hK;rw[show Ek l x=#[.int .u32 ((2*eG (l.take x.1):Nat):Int),(l[x.1]'x.2).x.val] from rfl];have Vb:=aa hI;have HK:=aa hK;clear hK hI;generalize (l[x.1]'x.2).x.val=X at*;generalize 2*eG (l.take x.1)=o at*;gi_wp2_with fail;exact HK.o _ _ ((KeepsOthers.refl _).from _) (qJ.refl _ _ _) Vb.o rfl
        case body=>
         rintro lp pre x a' W hl Cb ⟨B1,K1,F1,Z1⟩ rfl Gl;have hpl:pre.length<=1048576:=(by have h1:=ki HGD.o;rw[fZ]at h1;omega);have hwi:IntKind.i64.wrap ((pre.length:Int)+1)=(pre.length:Int)+1:=IntWalk.i64_in _ (by omega);have y1:=B1.cell 1;have f1:=B1.frozen 1;have abo:b7<W0.heap.size:=ma.o.lt;have hne:∀ k,k≠b7->(W.setCell ⟨b7,1,none⟩ (.int .i64 ((pre.length:Int)+1))).heap[k]? = W.heap[k]? :=fun k h=>Below.heap_setCell W ⟨b7,1,none⟩ _ k h;have hsz:(W.setCell ⟨b7,1,none⟩ (.int .i64 ((pre.length:Int)+1))).heap.size=W.heap.size:=by simp[World.setCell]
         have ux:=aa (show KeepsFrom W0.heap.size W (W.setCell ⟨b7,1,none⟩ (.int .i64 ((pre.length:Int)+1)))/\qJ b7 W0.heap.size W (W.setCell ⟨b7,1,none⟩ (.int .i64 ((pre.length:Int)+1)))/\
          eW (W.setCell ⟨b7,1,none⟩ (.int .i64 ((pre.length:Int)+1))) b7 130 #[.int .i64 (r.ver:Nat),.int .i64 ((pre++[x]).length:Nat),.int .u32 (r.last:Nat),.slice A1 r.words.length c1,.slice A2 r.roots.length c2]/\
          (∀ k,k<W0.heap.size->k≠b7->(W.setCell ⟨b7,1,none⟩ (.int .i64 ((pre.length:Int)+1))).heap[k]? = W0.heap[k]?)/\Below w.heap.size w (W.setCell ⟨b7,1,none⟩ (.int .i64 ((pre.length:Int)+1)))/\
          W0.heap.size<=(W.setCell ⟨b7,1,none⟩ (.int .i64 ((pre.length:Int)+1))).heap.size from by
          refine⟨⟨Nat.le_of_eq hsz.symm,fun k o' hk l_ hc=>(hne k (by omega)).trans l_⟩,(qJ.refl b7 W0.heap.size W).setCell (af _) abo _,?_,fun k h1 h2=>(hne k h2).trans (K1 k h1 h2),F1.setCell (p:=⟨b7,1,none⟩) (by simp only;omega) _,by rw[hsz];exact Z1⟩;rw[show (((pre++[x]).length:Nat):Int)=(pre.length:Int)+1 by simp];exact B1.apg 1 _)
         clear hne hsz B1 K1 F1;apply wpIn_block;gi_wp2_with fail;exact ux.o
        case done=>
         rintro D xs W hD rfl ⟨B1,K1,F1,Z1⟩ hK;rw[List.length_finRange]at B1;have abo:b7<W0.heap.size:=ma.o.lt;have hc1:=HBC.o.1;have hc2:=HBC.o.2;have uw:=aa (HZ7.o.same (K1 w.heap.size (by omega) (by omega)));have ZN:=aa (HH7.o.same (fun k hk=>K1 k (HH7.o.lt hk) (by have:=WJ.o k hk;omega)));have jQ:∀ k,k≠w.heap.size->(((((W.setCell ⟨w.heap.size,0,none⟩ (.int .i64 (r.ver:Nat))).setCell ⟨w.heap.size,1,none⟩ (.int .i64 (l.length:Nat))).setCell ⟨w.heap.size,2,none⟩ (.int .u32 (r.last:Nat))).setCell ⟨w.heap.size,3,none⟩ (.slice A1 r.words.length c1)).setCell ⟨w.heap.size,4,none⟩ (.slice A2 r.roots.length c2)).heap[k]? = W.heap[k]? :=fun k h=>by
          rw[Below.heap_setCell _ ⟨w.heap.size,4,none⟩ _ k h,Below.heap_setCell _ ⟨w.heap.size,3,none⟩ _ k h,Below.heap_setCell _ ⟨w.heap.size,2,none⟩ _ k h,Below.heap_setCell _ ⟨w.heap.size,1,none⟩ _ k h,Below.heap_setCell _ ⟨w.heap.size,0,none⟩ _ k h]
         have Od:=aa (ZN.o.same (w':=(((((W.setCell ⟨w.heap.size,0,none⟩ (.int .i64 (r.ver:Nat))).setCell ⟨w.heap.size,1,none⟩ (.int .i64 (l.length:Nat))).setCell ⟨w.heap.size,2,none⟩ (.int .u32 (r.last:Nat))).setCell ⟨w.heap.size,3,none⟩ (.slice A1 r.words.length c1)).setCell ⟨w.heap.size,4,none⟩ (.slice A2 r.roots.length c2))) (fun k hk=>jQ k (by have:=WJ.o k hk;omega)));have HKD:=aa ((jQ D (by omega)).trans hK);have gh:=aa (uw.o.apf (.int .i64 (r.ver:Nat)) (.int .i64 (l.length:Nat)) (.int .u32 (r.last:Nat)) (.slice A1 r.words.length c1) (.slice A2 r.roots.length c2));have jC:=aa (hZ F1 (g:=w.heap.size) (af _) (.int .i64 (r.ver:Nat)) (.int .i64 (l.length:Nat)) (.int .u32 (r.last:Nat)) (.slice A1 r.words.length c1) (.slice A2 r.roots.length c2));have e0:=B1.cell 0;have e1:=B1.cell 1;have e2:=B1.cell 2;have e3:=B1.cell 3;have e4:=B1.cell 4;have z0:=uw.o.frozen 0;have z1:=uw.o.frozen 1;have z2:=uw.o.frozen 2;have z3:=uw.o.frozen 3;have z4:=uw.o.frozen 4;have d0:=uw.o.cell 0;have d1:=uw.o.cell 1;have d2:=uw.o.cell 2;have d3:=uw.o.cell 3;have d4:=uw.o.cell 4;clear jQ B1 K1 F1 hK uw ZN;gi_wp2_with fail;generalize (((((W.setCell ⟨w.heap.size,0,none⟩ (.int .i64 (r.ver:Nat))).setCell ⟨w.heap.size,1,none⟩ (.int .i64 (l.length:Nat))).setCell ⟨w.heap.size,2,none⟩ (.int .u32 (r.last:Nat))).setCell ⟨w.heap.size,3,none⟩ (.slice A1 r.words.length c1)).setCell ⟨w.heap.size,4,none⟩ (.slice A2 r.roots.length c2))=WF at*;refine⟨by simp,.inl ⟨_,_,rfl,run_takeDeferred HKD.o,?_⟩⟩;have hg:=grownBy_putObj' WF D (.deferred none);have HP:=uU (B:=W0.heap.size) gh.o hg (fun r e=>by cases e;exact⟨hD,_,HKD.o,rfl⟩);have f0:=HP.cell 0;have f1:=HP.cell 1;have f2:=HP.cell 2;have f3:=HP.cell 3;have f4:=HP.cell 4;refine⟨.tuple #[.agg #[.int .i64 (r.ver:Nat),.int .i64 (l.length:Nat),.int .u32 (r.last:Nat),.slice A1 r.words.length c1,.slice A2 r.roots.length c2],.pointer (some ⟨p.g,0,none⟩),.int .i64 0],by simp[results,Tryz.results58,go_sem,f0,f1,f2,f3,f4],?_⟩;rw[<-E7.o];exact lj.good HT.o oU.o tO.o HSO.o Pg.o (Od.o.same (fun k hk=>hg.block k (Od.o.lt hk) (fun e=>by injection e with e;have:=HH7.o.lt hk;omega))) (fun k hk=>by have:=WJ.o k hk;omega) (jC.o.grown hg jC.o.size (fun k e=>by injection e with e;omega))
        case stop=>
         rintro D c pre W hD hp hx hK;exact hx.elim
       .have hle:=QN hok;have HNK:=aa hok;clear hok HH6 WJ lQ E7;generalize jg size r.words r.roots r.last=le at*;have hne:(((le:Nat):Int) != 0)=true:=(by simp;omega);clear VA Xb yX Ct Pg;have z0:=qR.o.frozen 0;have z1:=qR.o.frozen 1;have z2:=qR.o.frozen 2;have z3:=qR.o.frozen 3;have z4:=qR.o.frozen 4;have d0:=qR.o.cell 0;have d1:=qR.o.cell 1;have d2:=qR.o.cell 2;have d3:=qR.o.cell 3;have d4:=qR.o.cell 4;have gh:=aa (qR.o.apf (.int .i64 0) (.int .i64 0) (.int .u32 0) (.slice none 0 0) (.slice none 0 0));have jC:=aa (hZ Si.o (g:=w.heap.size) (by omega) (.int .i64 0) (.int .i64 0) (.int .u32 0) (.slice none 0 0) (.slice none 0 0));gi_wp2_with fail;generalize (((((w6.setCell ⟨w.heap.size,0,none⟩ (.int .i64 0)).setCell ⟨w.heap.size,1,none⟩ (.int .i64 0)).setCell ⟨w.heap.size,2,none⟩ (.int .u32 0)).setCell ⟨w.heap.size,3,none⟩ (.slice none 0 0)).setCell ⟨w.heap.size,4,none⟩ (.slice none 0 0))=WF at*;clear z0 d0 z1 d1 z2 d2 z3 d3 z4 d4;have f0:=gh.o.cell 0;have f1:=gh.o.cell 1;have f2:=gh.o.cell 2;have f3:=gh.o.cell 3;have f4:=gh.o.cell 4;refine⟨.tuple #[.agg #[.int .i64 0,.int .i64 0,.int .u32 0,.slice none 0 0,.slice none 0 0],.pointer none,.int .i64 145],by simp[results,Tryz.results58,go_sem,f0,f1,f2,f3,f4],?_⟩;exact lj.bad jC.o HT.o oU.o HNK.o
   .have mF:=aa (show iD bs= .error 140 from by unfold iD;rw[if_neg (by rw[xq.o];exact tY),if_pos (.inr Gn)])
    have hst:((vA (bs.take 4)).toList == ({ data:=#[69,70,73,71] }:ByteArray).toList)=false:=Yo (fun e=>Gn (by
     rw[<-DR]at e;exact (MQ (fun x hx=>H8.o x (List.mem_of_mem_take hx)) (by decide)).1 e))
    rw[show ({ data:=#[69,70,73,71] }:ByteArray).toList=[69,70,73,71] by rw[ByteArray.toList_eq]]at hst;generalize vA (bs.take 4)=sx at*;clear Gn;clear Bi Bj yX xq H8;have z0:=j_.o.frozen 0;have z1:=j_.o.frozen 1;have z2:=j_.o.frozen 2;have z3:=j_.o.frozen 3;have z4:=j_.o.frozen 4;have d0:=j_.o.cell 0;have d1:=j_.o.cell 1;have d2:=j_.o.cell 2;have d3:=j_.o.cell 3;have d4:=j_.o.cell 4;have gh:=aa (j_.o.apf (.int .i64 0) (.int .i64 0) (.int .u32 0) (.slice none 0 0) (.slice none 0 0));have jC:=aa (hZ Bz.o (g:=w.heap.size) (by omega) (.int .i64 0) (.int .i64 0) (.int .u32 0) (.slice none 0 0) (.slice none 0 0));gi_wp2_with fail;generalize (((((W1.setCell ⟨w.heap.size,0,none⟩ (.int .i64 0)).setCell ⟨w.heap.size,1,none⟩ (.int .i64 0)).setCell ⟨w.heap.size,2,none⟩ (.int .u32 0)).setCell ⟨w.heap.size,3,none⟩ (.slice none 0 0)).setCell ⟨w.heap.size,4,none⟩ (.slice none 0 0))=WF at*;clear z0 d0 z1 d1 z2 d2 z3 d3 z4 d4;have f0:=gh.o.cell 0;have f1:=gh.o.cell 1;have f2:=gh.o.cell 2;have f3:=gh.o.cell 3;have f4:=gh.o.cell 4;refine⟨.tuple #[.agg #[.int .i64 0,.int .i64 0,.int .u32 0,.slice none 0 0,.slice none 0 0],.pointer none,.int .i64 140],by simp[results,Tryz.results58,go_sem,f0,f1,f2,f3,f4],?_⟩;exact lj.err jC.o mF.o
end
section
open Go.RowKit
open Classical in
noncomputable def qO (b:List Nat)(size:Nat):Nat:=
 match iD b with
 | .error E=>E
 | .ok r=>if size<r.words.length then 4 else if r.apm=true\/¬ li size r.words r.roots r.last then 145 else 0
def xV (b:List Nat)(size:Nat):HM:=
 match iD b with
 | .error _=>HM.new 64
 | .ok r=>HM.apj size r.words r.roots r.last
theorem NU {b:List Nat}{E:Nat}(h:iD b= .error E):E≠0:=by
 unfold iD at h;split at h
 .cases h;decide
 .split at h
  .cases h;decide
  .split at h
   .exact GX h
   .split at h
    .split at h
     .rename_i e he;cases h;exact GM he
     .cases h
    .cases h;decide
theorem Ke {b:List Nat}{E size:Nat}(h:iD b= .error E):qO b size=E:=by
 unfold qO;rw[h]
def aaV (b:List Nat)(size:Nat)(w:World)(e:Ending)(w':World):Prop:=
 Below w.heap.size w w'/\((qO b size≠0/\e= .returned (.tuple #[yl 0 0 (.slice none 0 0) (.slice none 0 0),.pointer none,.int .i64 (qO b size:Nat)]))\/
  (qO b size=0/\∃ (r:Rd) (l:List Ob) (p:HP) (A1 A2:Option Addr) (n1 c1 n2 c2:Nat),iD b= .ok r/\(xV b size).Good l/\
    e= .returned (.tuple #[.agg #[.int .i64 r.ver,.int .i64 l.length,.int .u32 r.last,.slice A1 n1 c1,.slice A2 n2 c2],ptr p.g,.int .i64 0])/\fO w' p (xV b size)/\∀ k,p.has k->w.heap.size<=k))
open Classical in
theorem lj.take {b:List Nat}{size:Nat}{w w':World}{e:Ending}(h8:∀ x∈b,x<256)(h1:64<=size)(h2:size<=1048576)(h:lj b size w e w'):aaV b size w e w':=by
 unfold lj at h
 cases ht:iD b with
 | error E=>
   rw[ht]at h;have e1:qO b size=E:=Ke ht;have:=NU ht;exact⟨h.1,.inl ⟨by rw[e1];exact this,by rw[e1];exact h.2⟩⟩
 | ok r=>
   rw[ht]at h;have F:=Ht ht h8;obtain⟨h3,h4,h5⟩:=h;have e0:qO b size=if size<r.words.length then 4 else if r.apm=true\/¬ li size r.words r.roots r.last then 145 else 0:=by unfold qO;rw[ht]
   have eH:xV b size=HM.apj size r.words r.roots r.last:=(by unfold xV;rw[ht]);by_cases hs:size<r.words.length
   .rw[if_pos hs]at e0;obtain⟨k1,k2⟩:=h3 hs;exact⟨k1,.inl ⟨by rw[e0];decide,by rw[e0];exact k2⟩⟩
   .rw[if_neg hs]at e0;by_cases hw:r.apm=true\/¬ li size r.words r.roots r.last
    .rw[if_pos hw]at e0;obtain⟨k1,k2⟩:=h4 hs hw;exact⟨k1,.inl ⟨by rw[e0];decide,by rw[e0];exact k2⟩⟩
    .rw[if_neg hw]at e0;have oq:r.apm=false:=by
      cases hr:r.apm with
      | false=>rfl
      | true=>exact absurd (.inl hr) hw
     have hw2:li size r.words r.roots r.last:=Classical.byContradiction fun hn=>hw (.inr hn);obtain⟨l,hl,VR⟩:=hw2;obtain⟨p,A1,A2,n1,c1,n2,c2,k1,k2,k3,k4⟩:=h5 hs oq l hl VR;refine⟨k4,.inr ⟨e0,r,l,p,A1,A2,n1,c1,n2,c2,ht,?_,k1,by rw[eH];exact k2,k3⟩⟩;rw[eH];exact HM.apX h1 h2 F.w32 F.r32 F.roots F.last (by omega) hl VR
theorem eX.far {w:World}(hs:eX w):∀ k,w.heap.size<=k->k≠0/\k≠0:=fun k hk=>by
 have:=hs.lt;exact⟨by omega,by omega⟩
theorem RP {w:World}{n c:Nat}{A:Option Addr}{bs:List Nat}{size:Nat}(hs:eX w)(hr:eQ w w.heap.size 1 A n (fP bs))(hA:0<n->∃ g0 o0,A=some ⟨g0,o0,none⟩)(hc:n<=c)(hn:n<=9223372036854775807)(h8:∀ x∈bs,x<256)(h64:64<=size)(hsize:size<=1048576):
 Calls Tryz.prog 58 #[.slice A n c,.int .i64 size] w (aaV bs size w):=by
 by_cases h0:0<n
 .obtain⟨g0,o0,hA⟩:=hA h0;exact (Du hs hs.far hr (fun _=>hA) hc hn h8 h64 hsize).mono fun _ _ H=>H.take h8 h64 hsize
 .exact (Du (g0:=0) (o0:=0) hs hs.far hr (fun h=>absurd h h0) hc hn h8 h64 hsize).mono fun _ _ H=>H.take h8 h64 hsize
end
section
open Go.RowKit
attribute [local go_sem] Oper.semAt_some
noncomputable def MH (b:List Nat)(size:Int):Nat:=if size<64\/1048576<size then 1 else qO b size.toNat
def Pj (b:List Nat)(size:Int)(w:World)(e:Ending)(w':World):Prop:=
 Below w.heap.size w w'/\((MH b size≠0/\e= .returned (.tuple #[.pointer none,.int .i64 (MH b size:Nat)]))\/
  (MH b size=0/\∃ (p:HP) (l:List Ob),e= .returned (.tuple #[ptr p.g,.int .i64 0])/\(xV b size.toNat).Good l/\fO w' p (xV b size.toNat)/\∀ k,p.has k->w.heap.size<=k))
theorem MI {w:World}{n c:Nat}{A:Option Addr}{bs:List Nat}(size:Int)(hs:eX w)(hr:eQ w w.heap.size 1 A n (fP bs))(hA:0<n->∃ g0 o0,A=some ⟨g0,o0,none⟩)(hc:n<=c)(hn:n<=9223372036854775807)(h8:∀ x∈bs,x<256):
 Calls Tryz.prog 12 #[.slice A n c,.int .i64 size] w (Pj bs size w):=by
 by_cases hsz:size<64\/1048576<size
 .have HF:=aa (show MH bs size=1 from if_pos hsz);by_cases h0:size<64
  .have Iq:decide (size<64)=true:=(by simpa using h0);clear hsz h0 hs hr hA hc hn h8;go_enter Tryz.func12,Tryz.ntmps12;go_wp2_with fail;go_ret2;exact⟨Below.refl _ _,.inl ⟨by rw[HF.o];decide,by rw[HF.o];rfl⟩⟩
  .have Iq:decide (size<64)=false:=(by simpa using h0);have qY:1048576<size:=(by omega);clear hsz h0 hs hr hA hc hn h8;go_enter Tryz.func12,Tryz.ntmps12;go_wp2_with fail;go_ret2;exact⟨Below.refl _ _,.inl ⟨by rw[HF.o];decide,by rw[HF.o];rfl⟩⟩
 .obtain⟨s,hs'⟩:=Int.eq_ofNat_of_zero_le (show 0<=size by omega);subst hs';have h1:64<=s:=by omega
  have h2:s<=1048576:=by omega
  have HF:=aa (show MH bs (s:Int)=qO bs s from (if_neg hsz).trans (by rw[Int.toNat_natCast]));have HT:=aa (RP hs hr hA hc hn h8 h1 h2);have Iq:decide ((s:Int)<64)=false:=by simp;omega
  have qY:decide ((s:Int)>1048576)=false:=by simp;omega
  clear hsz hs hr hA hc hn h8 h1 h2;unfold Pj;rw[Int.toNat_natCast,HF.o];go_enter Tryz.func12,Tryz.ntmps12;go_wp2_with fail;refine HT.o.mono ?_;rintro e w1 ⟨hb1,⟨h3,rfl⟩|⟨h3,r,l,p,A1,A2,n1,c1,n2,c2,hr,hG,rfl,hat,mU⟩⟩
  .have HB:=aa (hb1.alloc hb1.size (.cells #[.int .i64 0,.int .i64 0,.int .u32 0,.slice none 0 0,.slice none 0 0] 130));have H3:=aa h3;clear hb1 h3 HT HF;unfold yl;go_wp2_with fail;go_ret2;exact⟨HB.o,.inl ⟨H3.o,rfl⟩⟩
  .have ko:=aa hb1;have ni:=aa ((Below.refl w1.heap.size w1).alloc (af _) (.cells #[.int .i64 r.ver,.int .i64 l.length,.int .u32 r.last,.slice A1 n1 c1,.slice A2 n2 c2] 130));have HG:=aa hG;have Cp:=aa hat;have IE:=aa mU;have H3:=aa h3;clear hb1 hG hat mU h3 HF HT;unfold ptr;go_wp2_with fail;go_ret2;exact⟨eF ko.o ni.o,.inr ⟨H3.o,p,l,rfl,HG.o,Cp.o.below ni.o,IE.o⟩⟩
end
section
open Go.RowKit
theorem JS {w:World}{base:Nat}{e:TypeId}{v:Value}{n:Nat}{xs:List Value}(h:w.ownsRow base e 1 v n xs):∃ A c,v= .slice A n c/\eQ w w.heap.size 1 A n xs/\n<=c/\(0<n->∃ g0 o0,A=some ⟨g0,o0,none⟩):=by
 have h':=h;obtain⟨A,c,rfl,hr⟩:=fy h';rcases h.2 with ⟨h1,h2⟩|⟨g,cap,cur,h1,h2,h3,h4,h5⟩
 .subst h2;exact⟨A,c,rfl,hr,Nat.zero_le _,fun hh=>by omega⟩
 .injection h1 with h6 h7 h8;subst h6 h8;exact⟨_,c,rfl,hr,h4,fun _=>⟨g,0,rfl⟩⟩
section
variable {h:HM}{l:List Ob}
theorem RO {bs:List Nat}{r:Rd}{size:Nat}(G:h.Good l)(ht:iD bs= .ok r)(h1:r.words=h.words)(h2:r.roots=h.roots)(h3:r.last=h.last)(h4:r.apm=false)(hs:h.words.length<=size):
 qO bs size=0/\xV bs size={ h with size:=size }:=by
 have hp:=G.apj;have e:HM.apj size h.words h.roots h.last={ h with size:=size }:=by
  have:=hp.1;unfold HM.apj at this ⊢;rw[hp.2]at this ⊢;have h5:=congrArg HM.starts this;simp only at h5 ⊢;rw[h5]
 refine⟨?_,?_⟩
 .unfold qO;rw[ht];simp only;rw[h1,h2,h3,h4,if_neg (by omega),if_neg];rintro (hh|hh)
  .cases hh
  .refine hh ⟨l,hp.2,?_⟩;rw[e];exact⟨G.sound.cls,G.sound.apU,G.sound.spare,G.sound.aqs,G.sound.nodup,G.sound.roots⟩
 .unfold xV;rw[ht];simp only;rw[h1,h2,h3,e]
theorem sK {tag:Nat}{p:List Nat}(ht:tag<256)(hp:∀ x∈p,x<256):∀ x∈fk tag p,x<256:=by
 intro x hx;unfold fk at hx;simp only[ar,au,ak,or_false]at hx;rcases hx with rfl|hx|hx|hx
 .exact ht
 .exact mr _ x hx
 .exact hp x hx
 .exact Jf _ x hx
theorem M7 (G:h.Good l):∀ x∈h.apV l,x<256:=by
 obtain⟨h1,h2,h3⟩:=DA G;intro x hx;unfold HM.apV at hx;simp only[ar]at hx;rcases hx with hx|hx|hx|hx|hx
 .simp only[au,ak,or_false]at hx;omega
 .exact sK (by decide) h1 x hx
 .exact sK (by decide) h2 x hx
 .exact sK (by decide) h3 x hx
 .exact sK (p:=[]) (by decide) (fun y hy=>by cases hy) x hx
def Zm (h:HM)(w:World)(e:Ending)(w':World):Prop:=∃ p:HP,e= .returned (.tuple #[ptr p.g,.int .i64 0])/\ju w w' p p.g h
theorem Js {w:World}{n c:Nat}{A:Option Addr}{bs:List Nat}{r:Rd}(E:Ig w)(G:h.Good l)(ht:iD bs= .ok r)(h1:r.words=h.words)(h2:r.roots=h.roots)(h3:r.last=h.last)(h4:r.apm=false)(size:Int)(hs1:64<=size)(hs2:size<=1048576)
 (hs:h.words.length<=size.toNat)(hr:eQ w w.heap.size 1 A n (fP bs))(hA:0<n->∃ g0 o0,A=some ⟨g0,o0,none⟩)(hc:n<=c)(hn:n<=9223372036854775807)(h8:∀ x∈bs,x<256):
 Calls Tryz.prog 12 #[.slice A n c,.int .i64 size] w (Zm { h with size:=size.toNat } w):=
 (MI (c:=c) size E.apl hr hA hc hn h8).mono fun e w' ⟨hb,hh⟩=>by
  obtain⟨e1,e2⟩:=RO G ht h1 h2 h3 h4 hs;have e3:MH bs size=0:=(if_neg (by omega)).trans e1;rcases hh with ⟨h5,_⟩|⟨_,p,l',rfl,h6,h7,h8⟩
  .exact absurd e3 h5
  .rw[e2]at h6 h7;exact⟨p,rfl,h7,rfl,⟨l',h6⟩,E,h8,hb⟩
end
end
end Go.Proofs.YtlkahgagmfhdaaaGreatDoor
