import Derived.Test.YtlkahgagmfhdaaaGreatDoorJCloneH
import Derived.Test.YtlkahgagmfhdaaaGreatDoorJLive
import Derived.RangeFuncNested
import Derived.RangeFuncBound
import Derived.Shelf.RegionOpen
import Derived.OwnWalkIn
import Derived.LoopNIn
import Derived.LoopIn
set_option linter.unusedVariables false
set_option linter.unusedSimpArgs false
set_option linter.unusedSectionVars false
open List renaming getElem?_eq_getElem→ae,getD_eq_getElem?_getD→af,length_append→ah,mem_map→ai,replicate→aj,finRange→aq,take_add_one→ar,mem_cons→au,getElem_mem→ax,range→ay,length_cons→az,length_take→aA,take_of_length_le→aB,take_append_drop→aD,getElem_of_mem→aG,mem_filter→aI,mem_of_getElem?→aL,nodup_iff_pairwise_ne→aM,nil_append→aN,cons_append→aO,prefix_refl→aP,length_nil→aQ,dropLast_concat_getLast→aS,drop_drop→aT,mem_singleton→aU,filter_append→aV,getLast_eq_getElem→aZ,getElem?_cons_succ→a8,length_map→bg,getElem_cons_drop→bi,pairwise_lt_range→bj,length_replicate→bk,length_filter_le→bn,mem_iff_getElem→br,map_take→bu,map_cons→bv,append_toArray→bw,filter_eq_self→bz,find?_eq_none→bE,size_toArray→bK,push_toArray→bM,idxOf_append→bQ,foldl_append→bU,nodup_append→bV,pairwise_map→bW,length_range→bZ,getLast_mem→b_,take_length→ce,getElem_zip→cg,foldl_cons→cn,mem_append→ct,nodup_cons→cu,map_append→cz,mem_range→cH,map_map→cM,length→cN
open Nat renaming le_refl→ag,le_trans→aC,lt_or_ge→aJ,reduceAdd→cI,reduceSub→cJ,zero_add→cK,add_zero→cL,zero_le→cV
open Go.Oper renaming semAt_some→ak
open Go.Value renaming ownBlock→aw,cells→cT
open Go.Calls renaming quiet_of_same→aF
open Go.World renaming block_lt_of_cell?→aH,size_alloc→aX,setCell→bt,cell?→cQ
open Bool renaming and_eq_true→aK,or_eq_true→aR,false_eq_true→bF,not_eq_true'→bN,eq_iff_iff→ck,false_and→cE
open Array renaming replicate_succ→bp,replicate_zero→bq
set_option maxRecDepth 100000
set_option maxHeartbeats 4000000
namespace Go.Proofs.YtlkahgagmfhdaaaGreatDoor
section
open Go.RowKit
attribute [local go_sem] ak
structure qJ (m0 n0:Nat) (w w':World):Prop where
 os:w'.os=w.os
 tape:w'.tape=w.tape
 output:w'.output=w.output
 size:w.heap.size<=w'.heap.size
 cells:∀ k cs t fr,k<m0\/n0<=k->w.heap[k]? = some (.cells cs t fr)->w'.heap[k]? = some (.cells cs t fr)
theorem qJ.refl (m0 n0:Nat)(w:World):qJ m0 n0 w w:=⟨rfl,rfl,rfl,ag _,fun _ _ _ _ _ h=>h⟩
theorem qJ.trans {m0 n0:Nat}{a b c:World}(h:qJ m0 n0 a b)(k:qJ m0 n0 b c):qJ m0 n0 a c:=
 ⟨k.os.trans h.os,k.tape.trans h.tape,k.output.trans h.output,aC h.size k.size,fun j cs t fr hj h1=>k.cells j cs t fr hj (h.cells j cs t fr hj h1)⟩
theorem fA {w:World}{k:Nat}{o:Obj}(h:w.heap[k]? = some o):k<w.heap.size:=by
 rcases aJ k w.heap.size with h1|h1
 .exact h1
 .rw[Array.getElem?_eq_none h1]at h;cases h
theorem qJ.apa {m0 n0:Nat}{w w':World}(h:Below w.heap.size w w'):qJ m0 n0 w w':=
 ⟨h.os,h.tape,h.output,h.size,fun k cs t fr _ hk=>(h.block k (fA hk)).trans hk⟩
theorem qJ.alloc {m0 n0:Nat}{w w':World}(h:qJ m0 n0 w w')(o:Obj):qJ m0 n0 w (w'.alloc o):=h.trans (.apa (below_alloc1' (Below.refl _ _)))
where below_alloc1' {W w:World} {o:Obj} (h:Below W.heap.size W w):Below W.heap.size W (w.alloc o):=h.alloc h.size o
theorem qJ.setCell {m0 n0:Nat}{w w':World}(h:qJ m0 n0 w w'){a:Addr}(h1:m0<=a.block)(h2:a.block<n0)(u:Value):qJ m0 n0 w (w'.setCell a u):=
 ⟨h.os,h.tape,h.output,by simpa[bt] using h.size,fun k cs t fr hk hh=>(Below.heap_setCell w' a u k (fun e=>by omega)).trans (h.cells k cs t fr hk hh)⟩
theorem qJ.book {m0 n0:Nat}(W:World)(l:Nat)(o o':Obj)(h:W.heap[l]? = some o)(hc:o.isCells=false):qJ m0 n0 W (W.putObj l o'):=
 ⟨rfl,rfl,rfl,by simp,fun k cs t fr _ hk=>by
   have hne:k≠l:=(by rintro rfl;rw[hk]at h;injection h with h;subst h;simp[Obj.isCells]at hc);exact ((grownBy_putObj' W l o').block k (fA hk) (fun e=>hne (by injection e))).trans hk⟩
theorem eW.kept {m0 n0:Nat}{w w':World}{g:Nat}{t:TypeId}{cs:Array Value}(h:eW w g t cs)(k:qJ m0 n0 w w')(hg:g<m0\/n0<=g):eW w' g t cs:=k.cells g cs t (0,0) hg h
theorem Row.kept {m0 n0:Nat}{w w':World}{g c:Nat}{e:TypeId}{xs:List Value}(h:Row w g e c xs)(k:qJ m0 n0 w w')(hg:g<m0\/n0<=g):Row w' g e c xs:=by
 obtain⟨cur,h,r⟩:=h;exact⟨cur,h.kept k hg,r⟩
theorem fO.kept {m0 n0:Nat}{w w':World}{p:HP}{h:HM}(H:fO w p h)(k:qJ m0 n0 w w')(hp:∀ j,p.has j->j<m0\/n0<=j):fO w' p h:=
 ⟨H.1.kept k (hp _ (.inl rfl)),H.2.1.kept k (hp _ (.inr (.inl rfl))),H.2.2.1.kept k (hp _ (.inr (.inr (.inl rfl)))),H.2.2.2.kept k (hp _ (.inr (.inr (.inr rfl))))⟩
def mi (l:List Ob)(k:Nat):Nat:=if k<l.length then 2*eG (l.take k) else 0
def Ek (l:List Ob)(i:Fin l.length):Array Value:=#[.int .u32 ((2*eG (l.take i.1):Nat):Int),(l[i.1]'i.2).x.val]
def QU (v:Value):Nat:=if intOf v=0 then 0 else 4294967296-(intOf v).toNat
theorem GH (n:Nat):QU (.int .u32 (n:Int))=if n=0 then 0 else 4294967296-n:=by
 show (if ((n:Int))=0 then 0 else 4294967296-((n:Int)).toNat)=_;by_cases h:n=0
 .subst h;rfl
 .rw[if_neg (by omega),if_neg h,Int.toNat_natCast]
theorem K9 {o no:Nat}(h:no=0\/o<no)(h0:0<o)(h1:o<4294967296)(h2:no<4294967296):QU (.int .u32 (no:Int))<QU (.int .u32 (o:Int)):=by
 rw[GH,GH];rcases h with h|h
 .rw[if_pos h,if_neg (by omega)];omega
 .rw[if_neg (by omega),if_neg (by omega)];omega
theorem iJ {h:HM}{l:List Ob}(G:h.Good l)(k:Nat)(hk:k<l.length):eG (l.take k)+3<=h.words.length:=by
 have L:=G.laid;have e:l=l.take k++l[k] :: l.drop (k+1):=by rw[bi,aD]
 have L':=L;rw[e]at L';have:=L'.words_len;omega
theorem xa (a:List Ob):1<=eG a:=by unfold eG;omega
theorem kZ {l:List Ob}(k:Nat)(hk:k<l.length):eG (l.take k)<eG (l.take (k+1)):=by
 have et:l.take (k+1)=l.take k++[l[k]]:=by rw[ar,ae hk];rfl
 rw[et,qw];omega
section
variable {w:World}{p:HP}{h:HM}{l:List Ob}
theorem kj (l:List Ob)(k:Nat)(hk:k<l.length):l=l.take k++l[k] :: l.drop (k+1):=by
 rw[bi,aD]
theorem zq (G:h.Good l):h.apD 1=mi l 0:=by
 have:h.apD (eG [])=mZ [] l:=HM.Laid.aqk (a:=[]) G.laid;change h.apD 1=_ at this;rw[this];unfold mi mZ
 cases l with
 | nil=>rfl
 | cons b l=>simp
theorem Dk (G:h.Good l)(k:Nat)(hk:k<l.length):h.ap3 (2*eG (l.take k))=mi l (k+1):=by
 have L:=G.laid;have e:=kj l k hk;have L':=L;rw[e]at L';rw[L'.aqr];have et:l.take k++[l[k]]=l.take (k+1):=by rw[ar,ae hk];rfl
 rw[et];unfold mi mZ;rcases aJ (k+1) l.length with h1|h1
 .rw[if_pos h1]
  cases hd:l.drop (k+1) with
  | nil=>have:=congrArg cN hd;simp at this;omega
  | cons b c=>rfl
 .rw[List.drop_of_length_le h1,if_pos rfl,if_neg (by omega)]
theorem zH (G:h.Good l)(k:Nat)(hk:k<l.length):h.isB (2*eG (l.take k))=true:=
 (G.laid.apr _).2 ⟨_,_,_,kj l k hk,rfl⟩
theorem zx (G:h.Good l)(k:Nat)(hk:k<l.length):h.hd (eG (l.take k))=(l[k]).x:=by
 have L:=G.laid;have e:=kj l k hk;have L':=L;rw[e]at L';have:=L'.apF;exact this
end
theorem se {w:World}{p:HP}{h:HM}{l:List Ob}(H:fO w p h)(G:h.Good l)(hs:eX w)(n Bh m0:Nat)(B_:w.cell? ⟨Bh,0,none⟩=some (ptr p.g))(hsp:0<m0):
 SeqStopsK Fence.wide n Tryz.prog 129 #[.pointer (some ⟨Bh,0,none⟩)] (Ek l) (qJ m0 w.heap.size) (fun xs=>xs=aq l.length) (fun pre=>pre <+: aq l.length) l.length w:=
 fun lp J Jx W hW hJ XC hY h0=>by
 have hBh:=aH _ _ B_;have HW:=H.below hW;have B8:W.cell? ⟨Bh,0,none⟩=some (ptr p.g):=(hW.cell (p:=⟨Bh,0,none⟩) hBh).trans B_;have HC:=aa (r_ HW G.fit);have HsW:=hs.below hW;refine callsIn_of_wp Tryz.func129 rfl trivial ?_ rfl;simp only[Tryz.ntmps129,bK,az,aQ,cI,cJ,bp,bq,bM,bw,aN,aO];unfold ptr at B8 HC;have HY:=aa hY;have HJ:=aa (show ∀ s A B,J s A->Below A.heap.size A B->J s B from fun s A B hs hb=>hJ s A B none hs ⟨hb.os,hb.tape,hb.output,hb.size,fun k hk _=>hb.block k hk⟩ (fun r e=>by cases e));have OZ:=aa h0;have uQ:=aa hW;clear hY hJ XC h0 hW;gi_wp2_with fail;refine⟨trivial,fun hh=>(by cases hh),(callsIn_wide.2 HC.o).mono ?_⟩;rintro e W1 ⟨pc,rfl,Hc,mU,hb1⟩;have ZO:=HJ.o _ _ _ OZ.o hb1;have Hs1:=HsW.below hb1;have HN:=aa mU;have HF:=aa (wP Hc G.fit);rw[zq G]at HF;unfold ptr at HF;clear B8 mU;gi_wp2_with fail;refine⟨trivial,fun hh=>(by cases hh),(callsIn_wide.2 HF.o).mono ?_⟩;rintro e W2 ⟨rfl,rfl⟩;have HH:=aa (show fO W1 pc h/\eX W1/\J ((aq l.length).take 0) W1 from⟨Hc,Hs1,ZO⟩);clear Hc Hs1 ZO hb1;gi_wp2_with fail
 gi_loopw [4] (fun o wr=>∃ k:Nat,k<=l.length/\o= .int .u32 ((mi l k:Nat):Int)/\fO wr pc h/\eX wr/\J ((aq l.length).take k) wr) (fun o wr=>QU o)
 case atStart=>exact⟨0,by omega,rfl,HH.o.1,HH.o.2.1,HH.o.2.2⟩
 case round=>
  obtain⟨k,hk,rfl,Hk,hsk,hjk⟩:=hrel;by_cases hlt:k<l.length
  .have hroom:=G.fit.room;have Br:=G.fit.hi;have hpl:=iJ G k hlt;have Zc:=xa (l.take k);have hO:=aa (show mi l k=2*eG (l.take k) by unfold mi;rw[if_pos hlt]);have hN:=aa (Dk G k hlt);have hB:=zH G k hlt;have HX:=aa (zx G k hlt);have Cp:=aa (fun w=>tR pc.g (2*eG (l.take k)) (by omega) (rM _) w);have pN:=aa (fun w' (H:fO w' pc h) (hs:eX w')=>nK H G.fit hs (eG (l.take k)) (G.laid.heads _ (by unfold HM.isB at hB;simp only[aK,fT]at hB;exact hB.2)));have mn:=aa (fun w' (H:fO w' pc h) (hs:eX w')=>zR H G.fit G.laid.heads hs (2*eG (l.take k)) (by omega));have O4:=aa (show h.apW (2*eG (l.take k))= .tuple #[.int .u32 (mi l (k+1):Nat),.int .i64 0] by unfold HM.apW;rw[if_pos hB,hN.o]);have uy:=aa (show mi l (k+1)=0\/2*eG (l.take k)<mi l (k+1) by
    unfold mi;split
    .have:=kZ k hlt;right;omega
    .exact .inl rfl)
   have HMX:=aa (show mi l (k+1)<4294967296 by
    unfold mi;split
    .rename_i h1;have:=iJ G (k+1) h1;omega
    .omega)
   have oV:=aa (show (aq l.length).take k++[⟨k,hlt⟩]=(aq l.length).take (k+1) by
    rw[ar,ae (by simpa using hlt)];simp)
   have tO:=aa (show ((aq l.length).take k).length<l.length by simp;omega);have Zo:=aa (show Ek l ⟨k,hlt⟩=#[.int .u32 ((2*eG (l.take k):Nat):Int),.agg #[.int .i64 (l[k].x.size:Nat),.int .i64 (l[k].x.fmt:Nat),.int .i64 (l[k].x.spare:Nat),.int .u32 (l[k].x.cls:Nat),.int .u32 (l[k].x.ser:Nat)]] from rfl);have HXV:=aa (show (h.hd (eG (l.take k))).val= .agg #[.int .i64 (l[k].x.size:Nat),.int .i64 (l[k].x.fmt:Nat),.int .i64 (l[k].x.spare:Nat),.int .u32 (l[k].x.cls:Nat),.int .u32 (l[k].x.ser:Nat)] by rw[HX.o];rfl);have HK:=aa (show fO wr pc h/\eX wr/\J ((aq l.length).take k) wr from⟨Hk,hsk,hjk⟩);have HYk:=aa (fun W1 hj=>HY.o ((aq l.length).take k) ⟨k,hlt⟩ W1 hj tO.o);rw[Zo.o]at HYk;rw[hO.o];rw[HXV.o]at pN;rw[O4.o]at mn;rw[fT]at Cp;clear Hk hsk hjk hB hO HX hN HXV O4 Zo tO HH;generalize (⟨k,hlt⟩ :Fin l.length)=xk at*;generalize l[k].x=X at*;have ho:(((2*eG (l.take k):Nat):Int) != 0)=true:=(by simp;omega);have LM:=aa (show 2*eG (l.take k)<4294967296/\0<2*eG (l.take k) by omega);generalize hq:2*eG (l.take k)=o at*;clear hq;generalize eG (l.take k)=q at*;unfold ptr at Cp pN mn;gi_wp2_with fail;refine⟨trivial,fun hh=>(by cases hh),(callsIn_wide.2 (Cp.o _)).mono ?_⟩;rintro e W3 ⟨rfl,rfl⟩;gi_wp2_with fail;refine⟨trivial,fun hh=>(by cases hh),(callsIn_wide.2 (pN.o _ HK.o.1 HK.o.2.1)).mono ?_⟩;rintro e W4 ⟨rfl,hb4⟩;have O0:=aa (show fO W4 pc h/\eX W4/\J ((aq l.length).take k) W4 from⟨HK.o.1.below hb4,HK.o.2.1.below hb4,HJ.o _ _ _ HK.o.2.2 hb4⟩);clear hb4 HK;obtain⟨fn,tmps,assign,body,hy,hR⟩:=HYk.o W4 O0.o.2.2;gi_wp2_with fail;refine⟨fun hh=>(by cases hh),hR.mono ?_⟩;rintro e W5 (⟨rfl,PV,Jn⟩|⟨rfl,SG⟩)
   .have LJ:=aa (show fO W5 pc h/\eX W5/\J ((aq l.length).take (k+1)) W5 from
     ⟨O0.o.1.kept Jn (fun j hj=> .inr (aC uQ.o.size (HN.out j hj))),(fun i hi=>by
       have hc:=O0.o.2.1 i hi;have hb:=aH _ _ hc
       cases ho:W4.heap[0]? with
       | none=>simp[cQ,ho]at hc
       | some ob=>
         cases ob with
         | cells cs t fr=>exact (World.cell?_of_block (a:=⟨0,i,none⟩) ((Jn.cells _ cs t fr (.inl hsp) ho).trans ho.symm)).trans hc
         | _=>simp[cQ,ho]at hc),by rw[<-oV.o];exact PV⟩)
    clear PV Jn hy hR O0;gi_wp2_with fail;refine⟨trivial,fun hh=>(by cases hh),(callsIn_wide.2 (mn.o _ LJ.o.1 LJ.o.2.1)).mono ?_⟩;rintro e W6 ⟨rfl,jV⟩;have WD:=aa (show fO W6 pc h/\eX W6/\J ((aq l.length).take (k+1)) W6 from⟨LJ.o.1.below jV,LJ.o.2.1.below jV,HJ.o _ _ _ LJ.o.2.2 jV⟩);clear jV LJ;generalize hno:mi l (k+1)=no at*;have qX:=aa hno;clear hno;gi_wp2_with fail;go_roundw
    case rel=>exact⟨k+1,by omega,by rw[qX.o],WD.o.1,WD.o.2.1,WD.o.2.2⟩
    case measure=>exact K9 uy.o LM.o.2 LM.o.1 HMX.o
   .clear hy O0;gi_wp2_with fail;refine bodyPost_ret (results_none rfl _ _ _) rfl ?_;exact⟨⟨_,rfl⟩,.inr ⟨_,⟨(aq l.length).drop (k+1),by rw[oV.o,aD]⟩,SG⟩⟩
  .obtain rfl:k=l.length:=(by omega);have hO:=aa (show mi l l.length=0 by unfold mi;rw[if_neg hlt]);have yQ:=aa (show J (aq l.length) wr by have:=hjk;rw[aB (by simp)]at this;exact this);rw[hO.o];clear Hk hsk hjk hlt hk;gi_wp2_with fail
   go_end0
   exact⟨⟨_,rfl⟩,.inl ⟨_,rfl,yQ.o⟩⟩
end
section
open Go.RowKit
attribute [local go_sem] ak
theorem uT (g:Nat)(w:World):Calls Tryz.prog 53 #[ptr g] w fun e w'=>e= .returned (.func (.func 129) #[] #[.pointer (some ⟨w.heap.size,0,none⟩)])/\w'=w.alloc (.cells #[ptr g] 23):=by
 unfold ptr;go_enter Tryz.func53,Tryz.ntmps53;go_wp2_with fail;go_ret;exact⟨rfl,rfl⟩
end
section
open Go.RowKit
attribute [local go_sem] ak
section
variable {w:World}{p:HP}{h:HM}(R:oQ w p h)(f:h.Fit)
include R f
theorem J6:Calls Tryz.prog 80 #[ptr p.g] w (Fq (.int .u32 (h.apD 1:Nat)) w):=by
 have c1:=R.c1;have Jp:=f.one;have hroom:=f.room;have Br:=f.hi;unfold ptr;by_cases h1:h.words.length=1
 .have HF:=aa (show h.apD 1=0 by unfold HM.apD;rw[if_pos (by omega)]);have hb:(((h.words.length:Nat):Int) == 1)=true:=by simp;omega
  clear h1 R;generalize h.words.length=N at*;go_enter Tryz.func80,Tryz.ntmps80;go_wp2_with fail;go_ret;exact⟨by rw[HF.o];rfl,rfl⟩
 .have HF:=aa (show h.apD 1=2 by unfold HM.apD;rw[if_neg (by omega)]);have hb:(((h.words.length:Nat):Int) == 1)=false:=by simp;omega
  clear h1 R;generalize h.words.length=N at*;go_enter Tryz.func80,Tryz.ntmps80;go_wp2_with fail;go_ret;exact⟨by rw[HF.o];rfl,rfl⟩
theorem NG (hh:h.apu)(o:Nat)(ho:o<4294967296)(hi:h.isB o=true):Calls Tryz.prog 150 #[ptr p.g,.int .u32 o] w (Told (.int .u32 (h.ap3 o:Nat)) w):=by
 have hd:=HM.aps hh hi;have HH:=aa (xS R f o ho hd);have HC:=aa (fun w' (hb:Below w.heap.size w w')=>(R.below hb).c1);have uD:=af6;have hroom:=f.room;have Br:=f.hi;have hle:=hd.1;have hs:=(HM.apR f (o/2)).size;unfold Hd.val at HH;unfold ptr at HH ⊢;have hq:((o:Int)/2)=((o/2:Nat):Int):=by omega
 have HN:h.ap3 o=h.apD (o/2+3+(h.hd (o/2)).size):=rfl;clear R hi hd;generalize h.hd (o/2)=X at*;generalize o/2=q at*;have HF:=aa HN;clear HN;by_cases he:q+3+X.size=h.words.length
 .have Ih:=aa (show h.ap3 o=0 by rw[HF.o];unfold HM.apD;rw[if_pos (by omega)]);have hb:(((q:Int)+3+(X.size:Int)) == ((h.words.length:Nat):Int))=true:=by simp;omega
  clear HF;generalize h.words.length=N at*;go_enter Tryz.func150,Tryz.ntmps150;go_wp2_with fail;refine HH.o.mono ?_;rintro e w1 ⟨rfl,hb1⟩;have c1:=HC.o w1 hb1;have ko:=aa hb1;clear hb1 HC;go_wp2_with fail;go_ret;exact⟨by rw[Ih.o];rfl,ko.o⟩
 .have Ih:=aa (show h.ap3 o=2*(q+3+X.size) by rw[HF.o];unfold HM.apD;rw[if_neg (by omega)]);have hb:(((q:Int)+3+(X.size:Int)) == ((h.words.length:Nat):Int))=false:=by simp;omega
  clear HF;generalize h.words.length=N at*;go_enter Tryz.func150,Tryz.ntmps150;go_wp2_with fail;refine HH.o.mono ?_;rintro e w1 ⟨rfl,hb1⟩;have c1:=HC.o w1 hb1;have ko:=aa hb1;clear hb1 HC;go_wp2_with fail;go_ret;exact⟨by rw[Ih.o];rw[show (((2*(q+3+X.size):Nat)):Int)=2*((q:Int)+3+(X.size:Int)) by omega];rfl,ko.o⟩
end
end
section
open Go.RowKit
attribute [local go_sem] ak
section
variable {w:World}{p:HP}{h:HM}(R:oQ w p h)(f:h.Fit)(o:Nat)(ho:o<4294967296)(hh:h.apu)
include R f ho hh
end
end
section
open Go.RowKit Go.Sort Go.Lib
section
variable {w:World}{p:HP}{h:HM}(R:oQ w p h)(f:h.Fit)(hh:h.apu)(hp:Pow w)(o:Nat)(ho:o<4294967296)(hi:h.isB o=true)
include R f hh hp ho hi
end
end
section
open Go.RowKit Go.Maps
attribute [local go_sem] ak
theorem xU (ys:List Nat){y s:Nat}(hs:s<=3)(hy:y<4294967296):ic (ys++[y]) s=0↔y/2 ^ (32-8*s)=0:=by
 have e:(fg (ys++[y])).drop (4*(ys++[y]).length-s)=(jZ y).drop (4-s):=by
  rw[IY,List.drop_append,List.drop_eq_nil_of_le (by rw[gK];simp;omega),aN,gK];have:fg [y]=jZ y:=by simp[fg]
  rw[this];congr 1;simp;omega
 unfold ic;rw[e];have h4:s=0\/s=1\/s=2\/s=3:=by omega
 rcases h4 with rfl|rfl|rfl|rfl
 .simp[jZ];omega
 .simp[jZ];omega
 .simp[jZ];omega
 .simp[jZ];omega
def HM.apZ (h:HM)(b:Ob)(y:Nat):Bool:=b.x.apb && !h.apc y
def y_ (b:Ob)(k y:Nat):Bool:=(decide (k+1=b.x.size) && !decide (y/2 ^ (32-8*b.x.spare)=0)) && decide (0<b.x.spare)
def HM.okTo (h:HM)(b:Ob)(k:Nat):Prop:=∀ j,j<k->h.apZ b (b.fs.getD j 0)=false/\y_ b j (b.fs.getD j 0)=false
theorem HM.aqY {h:HM}{b:Ob}{k:Nat}(ho:h.okTo b k)(h1:h.apZ b (b.fs.getD k 0)=false)(h2:y_ b k (b.fs.getD k 0)=false):h.okTo b (k+1):=fun j hj=>by
 rcases aJ j k with h3|h3
 .exact ho j h3
 .obtain rfl:j=k:=by omega
  exact⟨h1,h2⟩
theorem wV {x:Hd}(m:x.may=true):x.size<=65535/\(0<x.spare->x.fmt=2/\0<x.size):=by
 unfold Hd.may at m;simp only[aK,aR,decide_eq_true_eq]at m;omega
theorem HM.okTo_ob {h:HM}{b:Ob}(K:b.Ok)(ho:h.okTo b b.x.size):(b.x.apb=true->∀ f∈b.fs,h.apc f=true)/\(b.x.fmt=2->ic b.fs b.x.spare=0):=by
 have hsz:=K.size;constructor
 .intro hp f hf;obtain⟨j,hj,rfl⟩:=br.1 hf;have:=(ho j (by omega)).1;rw[af,ae hj]at this;unfold HM.apZ at this;rw[hp]at this;simpa using this
 .intro h2;by_cases hs:b.x.spare=0
  .rw[hs];exact oC _
  .have hm:=(wV K.may).2 (by omega);have hs3:b.x.spare<=3:=(by have:=K.fit.spare;omega);have h1:=(ho (b.x.size-1) (by omega)).2;have hne:b.fs≠[]:=fun e=>by rw[e]at hsz;simp at hsz;omega
   have tF:b.fs.getD (b.x.size-1) 0=b.fs.getLast hne:=by
    rw[aZ,af,ae (by omega)];simp only[Option.getD_some];congr 1;omega
   rw[tF]at h1;unfold y_ at h1;rw[decide_eq_true (show b.x.size-1+1=b.x.size by omega),decide_eq_true (show 0<b.x.spare by omega)]at h1;have h3:b.fs.getLast hne/2 ^ (32-8*b.x.spare)=0:=(by simpa using h1);have h4:=(xU b.fs.dropLast hs3 (K.f32 _ (b_ hne))).2 h3;rw[aS]at h4;exact h4
theorem HM.aqD {h:HM}{b:Ob}{k:Nat}(K:b.Ok)(hk:k<b.x.size)(hb:h.apZ b (b.fs.getD k 0)=true\/y_ b k (b.fs.getD k 0)=true):¬ h.aql b:=fun ok=>by
 have hsz:=K.size;have Bt:k<b.fs.length:=by omega
 have hg:b.fs.getD k 0=b.fs[k]'Bt:=by rw[af,ae Bt];rfl
 rcases hb with hb|hb
 .unfold HM.apZ at hb;simp only[aK,bN]at hb;have:=ok.apU hb.1 (b.fs.getD k 0) (by rw[hg];exact ax Bt);rw[hb.2]at this;cases this
 .unfold y_ at hb;simp only[aK,decide_eq_true_eq,bN,decide_eq_false_iff_not]at hb;obtain⟨⟨h1,h2⟩,h3⟩:=hb;have hm:=(wV K.may).2 h3;have hs3:b.x.spare<=3:=by have:=K.fit.spare;omega
  have hne:b.fs≠[]:=fun e=>by rw[e]at hsz;simp at hsz;omega
  have h4:=ok.spare hm.1;rw[<-aS hne]at h4;have h5:=(xU b.fs.dropLast hs3 (K.f32 _ (b_ hne))).1 h4;apply h2;rw[hg];rw[aZ]at h5;have:b.fs.length-1=k:=by omega
  simp only[this]at h5;exact h5
theorem oQ.fields {w:World}{p:HP}{h:HM}{a c:List Ob}{b:Ob}(H:oQ w p h)(L:h.Laid (a++b :: c)){j:Nat}(hj:j<b.fs.length):w.cell? ⟨p.gw,eG a+3+j,none⟩=some (.int .u32 (b.fs.getD j 0:Nat)):=by
 have Gt:=L.words_len;have:=H.word (i:=eG a+3+j) (by omega);rw[this];have e:=L.aqp j hj;unfold fw at e;rw[fT]at e;rw[<-e];rfl
theorem MR {w:World}{p:HP}{h:HM}{l:List Ob}(R:oQ w p h)(f:h.Fit)(L:h.Laid l):Calls Tryz.prog 149 #[ptr p.g] w (Pp h l w):=by
 have SC:=@run_makeMap Tryz.prog;have hW1:Below w.heap.size w (w.alloc (.map #[] 0)):=(Below.refl _ _).alloc (ag _) _;have HR:=aa R;have HF:=aa f;have HL:=aa L;have Wv:=aa (fun (w':World) (hb:Below w.heap.size w w')=>J6 (R.below hb) f);have HFO:=aa (show h.apD 1=mZ [] l from HM.Laid.aqk (a:=[]) L);have MM:=j3.made w 32;clear R f L;unfold ptr at Wv ⊢;go_enter Tryz.func149,Tryz.ntmps149;go_wp2_with fail;refine (Wv.o _ hW1).mono ?_;rintro e w' ⟨rfl,rfl⟩;rw[HFO.o];generalize hW:w.alloc (.map #[] 0)=W1 at*;clear hW;have Og:=aa (show jN h w.heap.size [] w W1 from⟨h.aqO,MM,hW1⟩);clear MM hW1;go_wp2_with fail;have acn:w.heap.size≠p.gw:=by have:=HR.o.lt (.inr (.inl rfl));omega
 go_loopg [4] (l.length+1) (fun k o wr=>∃ a c,l=a++c/\k=c.length+1/\o= .int .u32 (mZ a c:Nat)/\jN h w.heap.size a w wr)
 case atStart=>exact⟨[],l,rfl,rfl,rfl,Og.o⟩
 case round =>
  obtain⟨a,c,hl,EA,rfl,⟨QB,hmap,hb⟩⟩:=hrel;have yR:=aa hl;have Tc:=aa EA;clear Og hl EA
  cases c with
  | nil =>
    have ho:mZ a []=0:=rfl;rw[ho];have Hr:=HR.o.below hb;have c2:=Hr.c2;have ahA:=HF.o.roots;have HB:=aa hb;have ZC:=aa (fun j (hj:j<h.roots.length)=>Hr.root (i:=j) hj);have tP:=aa (fun o ho=>DJ Hr HF.o o ho);have HUP:=aa QB;clear hb QB hmap Hr;unfold ptr at tP;have hno:(0:Int)=0:=rfl;go_wp2_with fail
    go_loopw [8] (fun i wq=>∃ k:Nat,k<=h.roots.length/\i= .int .i64 k/\(∀ j,j<k->h.apc (h.roots.getD j 0)=true)/\wq=wr) (fun i _=>h.roots.length-(intOf i).toNat)
    case atStart=>exact⟨0,by omega,rfl,fun j hj=>by omega,rfl⟩
    case round=>
     obtain⟨k,hk,rfl,hall,rfl⟩:=hrel;have OM:=aa hall;clear hall;by_cases hlt:k<h.roots.length
     .have hx:=ZC.o k hlt;have hy:h.roots.getD k 0<4294967296:=by
       rw[af,ae hlt];exact HF.o.r32 _ (ax _)
      have HVK:=aa (tP.o _ hy);cases hv:h.apc (h.roots.getD k 0)
      .have iQ:=aa (show ¬ h.apx l from fun s=>by
        have:=((h.ap6 _).1 s).2 (h.roots.getD k 0) (by rw[af,ae hlt];exact ax _);rw[hv]at this;cases this)
       rw[hv]at HVK;clear hv;generalize h.roots.getD k 0=y at*;generalize h.roots.length=N at*;go_wp2_with fail;refine HVK.o.mono ?_;rintro e w' ⟨rfl,rfl⟩;go_wp2_with fail;go_ret;exact⟨false,rfl,⟨(fun e=>by cases e),fun s=>absurd s iQ.o⟩,HB.o⟩
      .have HNA:=aa (show ∀ j,j<k+1->h.apc (h.roots.getD j 0)=true from fun j hj=>by
        rcases aJ j k with h1|h1
        .exact OM.o j h1
        .obtain rfl:j=k:=(by omega);exact hv)
       rw[hv]at HVK;clear hv;have YD:=aa hlt;generalize h.roots.getD k 0=y at*;go_wp2_with fail;refine HVK.o.mono ?_;rintro e w' ⟨rfl,rfl⟩;go_wp2_with fail;go_roundw
       case rel=>exact⟨k+1,YD.o,by go_num,HNA.o,by first|trivial|rfl⟩
       case measure=>simp[intOf];omega
     .obtain rfl:k=h.roots.length:=(by omega);have nE:=aa (show h.apx l by
       rw[h.ap6,yR.o,List.append_nil];refine⟨HUP.o,fun r hr=>?_⟩;obtain⟨j,hj,rfl⟩:=br.1 hr;have:=OM.o j hj;rw[af,ae hj]at this;exact this)
      go_wp2_with fail;go_ret;exact⟨true,rfl,⟨fun _=>nE.o,fun _=>rfl⟩,HB.o⟩
  | cons b c=>
    have L:=HL.o;rw[yR.o]at L;have ho:mZ a (b :: c)=2*eG a:=rfl;have SE:1<=eG a:=(by unfold eG;omega);rw[ho];have K:=L.apP;have hsz:=K.size;have Gt:eG a+3+b.x.size<=h.words.length:=(by have:=L.words_len;omega);have hroom:=HF.o.room;have Br:=HF.o.hi;have hi:h.isB (2*eG a)=true:=(HL.o.apr _).2 ⟨a,b,c,yR.o,rfl⟩;have pN:=aa (xS (HR.o.below hb) HF.o (2*eG a) (by omega) (by rw[fT];exact L.aqw));rw[fT,L.apF]at pN;rw[show b.x.val= .agg #[.int .i64 b.x.size,.int .i64 b.x.fmt,.int .i64 b.x.spare,.int .u32 b.x.cls,.int .u32 b.x.ser] from rfl]at pN;have mn:=aa (fun w' (hb:Below w.heap.size w w')=>show Calls Tryz.prog 150 #[ptr p.g,.int .u32 (2*eG a:Nat)] w' (Told (.int .u32 (mZ (a++[b]) c:Nat)) w') from by
     have:=NG (HR.o.below hb) HF.o HL.o.heads (2*eG a) (by omega) hi;rw[L.aqr]at this;exact this)
    have HXF:=aa (fun w' (hb:Below w.heap.size w w') j (hj:j<b.fs.length)=>(HR.o.below hb).fields L hj);unfold ptr at pN mn;have hq:(((2*eG a:Nat):Int))/2=(eG a:Int):=(by omega);have hne:((2*eG a:Nat):Int)≠0:=(by omega);have hal:a.length<9223372036854775807:=by
     have h1:=E5 a;have h2:eG a=1+(fV a).length:=rfl;omega
    have HK:=aa K;have hs3:b.x.spare<=3:=(by have:=K.fit.spare;omega);have h16:b.x.size<=65535:=(wV K.may).1;have BM:=aa hsz;clear ho hi L hsz;generalize eG a=q at*;generalize 2*q=o at*;go_wp2_with fail;refine pN.o.mono ?_;rintro e w1 ⟨rfl,hb1⟩;have hb2:=eF hb (hb1.alloc hb1.size (.cells #[.int .i64 b.x.size,.int .i64 b.x.fmt,.int .i64 b.x.spare,.int .u32 b.x.cls,.int .u32 b.x.ser] 75));have Ie:=eW.new w1 75 #[.int .i64 b.x.size,.int .i64 b.x.fmt,.int .i64 b.x.spare,.int .u32 b.x.cls,.int .u32 b.x.ser];have IJ:=(hmap.below hb1).below ((Below.refl _ _).alloc (ag _) (.cells #[.int .i64 b.x.size,.int .i64 b.x.fmt,.int .i64 b.x.spare,.int .u32 b.x.cls,.int .u32 b.x.ser] 75));have hgH:w.heap.size<w1.heap.size:=(by have:=hb1.size;have:=hmap.lt;omega);obtain⟨fs1,fs2,fs3,fs4,Sx⟩:=K.fit;clear hb hb1 hmap K pN;go_upto_region 6 with fail;generalize w1.alloc (.cells #[.int .i64 b.x.size,.int .i64 b.x.fmt,.int .i64 b.x.spare,.int .u32 b.x.cls,.int .u32 b.x.ser] 75)=W2 at*;generalize w1.heap.size=gH at*
    go_cut [45] (fun v wx=>v= .bool (h.apq a b)/\Below W2.heap.size W2 wx)
    case first=>
     have hlk:=IJ.look qE Sx;obtain⟨d0,d1,d2,d3,d4⟩:=Ie.apd;have H5:=HR.o.below hb2;have c3:=H5.c3;have oo:=fun n=>below_drewN (Below.refl W2.heap.size W2) n;have pR:=aa (fun n=>EW (H5.below (below_drewN (Below.refl W2.heap.size W2) n)) HF.o b.x.cls fs4);have uK:=aa (show lG a b.x.ser=if b.x.ser∈a.map (·.x.ser) then 1 else 0 from rfl);have nD:=aa (show ∀ n,Calls Tryz.prog 159 #[.pointer (some ⟨p.g,0,none⟩),.int .u32 (b.x.cls:Nat)] (W2.drewN n) fun e w'=>e= .returned (.bool (h.apo b.x.cls))/\w'=W2.drewN n from fun n=>(pR.o n).mono fun e w' ⟨h1,h2⟩=>⟨h1,h2.symm⟩);clear pR H5;by_cases s3:h.apo b.x.cls=false
     .have HB:=aa (show h.apq a b=true by simp[HM.apq,s3]);rw[s3]at nD;clear hlk c3 Ie IJ s3
      go_quiet ((go_at_call 159;exact aF (nD.o _)))
      all_goals go_wp2_with fail
      all_goals go_meet
      all_goals exact⟨by rw[HB.o],oo _⟩
     have s3':h.apo b.x.cls=true:=(by simpa using s3);rw[s3']at nD;clear s3;by_cases s0:b.x.ser=0
     .have HB:=aa (show h.apq a b=true by simp[HM.apq,s0]);rw[s0]at d4;clear hlk c3 Ie IJ
      go_quiet ((go_at_call 159;exact aF (nD.o _)))
      all_goals go_wp2_with fail
      all_goals go_meet
      all_goals exact⟨by rw[HB.o],oo _⟩
     .have e0:((b.x.ser:Int) == 0)=false:=(by simp;omega);by_cases s1:h.last<b.x.ser
      .have HB:=aa (show h.apq a b=true by simp[HM.apq,s1]);have e1:decide (h.last<b.x.ser)=true:=(by simp;omega);clear hlk Ie IJ s0 s1
       go_quiet ((go_at_call 159;exact aF (nD.o _)))
       all_goals go_wp2_with fail
       all_goals go_meet
       all_goals exact⟨by rw[HB.o],oo _⟩
      .have e1:decide (h.last<b.x.ser)=false:=(by simp;omega);by_cases s2:b.x.ser∈a.map (·.x.ser)
       .have HB:=aa (show h.apq a b=true by simp only[HM.apq,s2,decide_true,Bool.or_true,Bool.true_or]);have X1:∀ n,(Instr.lookup 309 (.map (some w.heap.size)) (.int .u32 (b.x.ser:Int)) false).run Tryz.prog (W2.drewN n)= .ok (.int .i64 1) (W2.drewN n):=fun n=>by
         have:=(show j3 32 (W2.drewN n) _ _ _ from IJ).look qE Sx;rw[uK.o,if_pos s2]at this;exact this
        clear hlk Ie IJ s0 s1 s2
        go_quiet ((go_at_call 159;exact aF (nD.o _)))
        all_goals go_wp2_with fail
        all_goals go_meet
        all_goals exact⟨by rw[HB.o],oo _⟩
       .have HB:=aa (show h.apq a b=false by
         simp only[HM.apq,s0,s1,s2,s3',decide_false,Bool.false_or,Bool.not_true])
        have X1:∀ n,(Instr.lookup 309 (.map (some w.heap.size)) (.int .u32 (b.x.ser:Int)) false).run Tryz.prog (W2.drewN n)= .ok (.int .i64 0) (W2.drewN n):=fun n=>by
         have:=(show j3 32 (W2.drewN n) _ _ _ from IJ).look qE Sx;rw[uK.o,if_neg s2]at this;exact this
        clear hlk Ie IJ s0 s1 s2
        go_quiet ((go_at_call 159;exact aF (nD.o _)))
        all_goals go_wp2_with fail
        all_goals go_meet
        all_goals exact⟨by rw[HB.o],oo _⟩
    case rest=>
     obtain⟨rfl,hb3⟩:=hcut;have hb4:=eF hb2 hb3;have Sd:=Ie.below hb3 Ie.lt;have Xk:=IJ.below hb3;obtain⟨d0,d1,d2,d3,d4⟩:=Sd.apd;cases iY:h.apq a b
     case true=>
      have iQ:=aa (show ¬ h.apx l by rw[yR.o];exact HM.aqA iY);clear iY hb2 hb3 Ie Sd IJ Xk;go_wp2_with fail;go_ret;exact⟨false,rfl,⟨(fun e=>by cases e),fun s=>absurd s iQ.o⟩,hb4⟩
     case false=>
      obtain⟨o1,o2,o3,o4⟩:=HM.aqI iY;obtain⟨W4,CX,LQ,hg4⟩:=Xk.put qE (v:=1) Sx (by omega) hal;rw[FM o3]at LQ;rw[show ((1:Nat):Int)=1 from rfl]at CX;have iW:=hb4.grown hg4 hb4.size (fun k hk=>by cases hk;omega);have OE:=Sd.same (hg4.block gH Sd.lt (by intro e;injection e with e;omega));have HO:=aa (show 1<=b.x.ser/\b.x.ser<=h.last/\b.x.ser∉a.map (·.x.ser)/\h.apo b.x.cls=true from⟨o1,o2,o3,o4⟩);have HUP:=aa QB;clear iY hb2 hb3 Ie Sd IJ Xk o1 o2 o3 o4 QB hg4 hb4;go_wp2_with fail;clear d0 d1 d2 d3 d4 CX
      go_loopw [6] (fun i wq=>∃ k:Nat,k<=b.x.size/\i= .int .i64 k/\h.okTo b k/\Below W4.heap.size W4 wq) (fun i _=>b.x.size-(intOf i).toNat)
      case atStart=>exact⟨0,by omega,rfl,(fun j hj=>by omega),Below.refl _ _⟩
      case round=>
       obtain⟨k,hk,rfl,hok,qU⟩:=hrel;have yT:=aa hok;have jV:=eF iW qU;have Zi:=OE.below qU OE.lt;obtain⟨e0,e1,e2,e3,e4⟩:=Zi.apd;clear hok;by_cases hlt:k<b.x.size
       .have Rq:=HR.o.below jV;have q1:=Rq.c1;have hx:=HXF.o _ jV k (by have:=BM.o;omega);have hy:b.fs.getD k 0<4294967296:=by
         have Bt:k<b.fs.length:=(by have:=BM.o;omega);rw[af,ae Bt];exact HK.o.f32 _ (ax _)
        have Kl:=aa (fun hb=>HM.aqD (h:=h) HK.o hlt hb);have Z9:=aa (fun h1 h2=>HM.aqY (h:=h) (b:=b) (k:=k) yT.o h1 h2);clear yT;generalize b.fs.getD k 0=y at*;have tP:=aa (DJ Rq HF.o y hy);unfold ptr at tP;have YD:=aa hlt;clear Rq;generalize h.words.length=N at*;go_upto_region 13 with fail
        go_cut [80] (fun v wx=>v= .bool (h.apZ b y)/\Below wr.heap.size wr wx)
        case first=>
         have oo:=Below.refl wr.heap.size wr;by_cases h1:b.x.fmt=1
         .have HB:=aa (show h.apZ b y = !h.apc y by simp[HM.apZ,Hd.apb,h1]);rw[h1]at e1;clear h1;generalize h.apc y=vb at*;go_wp2_with fail;refine tP.o.mono ?_;rintro e w' ⟨rfl,rfl⟩;go_wp2_with fail;go_meet;exact⟨by rw[HB.o],oo⟩
         have f1:((b.x.fmt:Int) == 1)=false:=(by simp;omega);by_cases h4:b.x.fmt=4
         .have HB:=aa (show h.apZ b y = !h.apc y by simp[HM.apZ,Hd.apb,h4]);rw[h4]at e1;clear h4 h1 f1;generalize h.apc y=vb at*;go_wp2_with fail;refine tP.o.mono ?_;rintro e w' ⟨rfl,rfl⟩;go_wp2_with fail;go_meet;exact⟨by rw[HB.o],oo⟩
         .have f4:((b.x.fmt:Int) == 4)=false:=(by simp;omega);have HB:=aa (show h.apZ b y=false by simp[HM.apZ,Hd.apb,h4,h1]);clear h4 h1;go_wp2_with fail;go_meet;exact⟨by rw[HB.o],oo⟩
        case rest=>
         obtain⟨rfl,kT⟩:=hcut;have l9:=eF qU kT;have V3:=Zi.below kT Zi.lt;clear e0 e1 e2 e3 e4 hx q1 tP jV;obtain⟨e0,e1,e2,e3,e4⟩:=V3.apd;cases XI:h.apZ b y
         case true=>
          have iQ:=aa (show ¬ h.apx l by rw[yR.o];exact HM.apC (Kl.o (.inl XI)));clear XI Kl kT Zi V3;go_wp2_with fail;go_ret;exact⟨false,rfl,⟨(fun e=>by cases e),fun s=>absurd s iQ.o⟩,eF iW l9⟩
         case false=>
         have kn:=aa XI;clear XI Zi kT;go_upto_region 15 with fail
         go_cut [100] (fun v wx=>v= .bool (y_ b k y)/\Below wc.heap.size wc wx)
         case first=>
          have oo:=Below.refl wc.heap.size wc;by_cases tF:k+1=b.x.size
          .have vk:((k:Int) == (b.x.size:Int)-1)=true:=(by simp;omega);have HB:=aa (show y_ b k y=((!decide (y/2 ^ (32-8*b.x.spare)=0)) && decide (0<b.x.spare)) by unfold y_;rw[decide_eq_true tF,Bool.true_and]);have hss:b.x.spare=0\/b.x.spare=1\/b.x.spare=2\/b.x.spare=3:=(by omega);clear tF;rcases hss with hs|hs|hs|hs
           .rw[hs]at e2 HB;clear hs;go_wp2_with fail;go_meet;exact⟨by rw[HB.o];simp,oo⟩
           all_goals
            rw[hs]at e2 HB;clear hs;go_wp2_with fail;all_goals go_meet
            all_goals refine⟨?_,oo⟩
            all_goals rename_i hx
            all_goals rw[HB.o]
            all_goals congr 1
            all_goals rw[ck]
            all_goals simp
            all_goals omega
          .have vk:((k:Int) == (b.x.size:Int)-1)=false:=(by simp;omega);have HB:=aa (show y_ b k y=false by unfold y_;rw[decide_eq_false tF,cE,cE]);clear tF;go_wp2_with fail;go_meet;exact⟨by rw[HB.o],oo⟩
         case rest=>
          obtain⟨rfl,lN⟩:=hcut;have pd:=eF l9 lN;cases tC:y_ b k y
          case true=>
           have iQ:=aa (show ¬ h.apx l by rw[yR.o];exact HM.apC (Kl.o (.inr tC)));clear tC Kl lN V3;go_wp2_with fail;go_ret;exact⟨false,rfl,⟨(fun e=>by cases e),fun s=>absurd s iQ.o⟩,eF iW pd⟩
          case false=>
           have Tn:=aa (Z9.o kn.o tC);clear tC lN V3;go_wp2_with fail;go_roundw
           case rel=>exact⟨k+1,YD.o,by go_num,Tn.o,pd⟩
           case measure=>simp[intOf];omega
       .obtain rfl:k=b.x.size:=(by omega);obtain⟨o1,o2,o3,o4⟩:=HO.o;have Ed:=aa (HM.okTo_ob HK.o yT.o);have gN:=aa (show jN h w.heap.size (a++[b]) w wr from⟨HUP.o.snoc ⟨o4,Ed.o.1,Ed.o.2,o1,o2⟩ o3,by rw[ah];exact LQ.below qU,jV⟩);have HNC:=aa (mn.o wr jV);clear o1 o2 o3 o4 HXF mn qU iW LQ;go_wp2_with fail;refine HNC.o.mono ?_;rintro e wz ⟨rfl,KS⟩;have Ta:=aa (show jN h w.heap.size (a++[b]) w wz from⟨gN.o.1,gN.o.2.1.below KS,eF jV KS⟩);clear gN HNC jV;go_wp2_with fail
        go_roundg (c.length+1)
        case measure=>rw[Tc.o];simp
        case rel=>exact⟨a++[b],c,by rw[yR.o];simp,rfl,rfl,Ta.o⟩
end
section
open Go.RowKit
attribute [local go_sem] ak
theorem oQ.aqc {w:World}{p:HP}{h:HM}(H:oQ w p h)(k:Nat):oQ (w.setCell ⟨p.gs,k,none⟩ (.int .u8 1)) p { h with starts:=h.starts.set k true }:=by
 obtain⟨hb,hw,hs,hr⟩:=H;have n1:p.g≠p.gs:=fun e=>Row.aph hs hb (by decide) e.symm;have n2:p.gw≠p.gs:=hw.ne_ hs (by decide);have n3:p.gr≠p.gs:=hr.ne_ hs (by decide);refine⟨?_,hw.far n2 _,?_,hr.far n3 _⟩
 .have:=hb.far (p:=⟨p.gs,k,none⟩) n1 (.int .u8 1);simpa using this
 .have:=hs.set k (.int .u8 1);simpa[ru] using this
theorem QQ (F:Nat)(hF:F<=1048576)(w:World):
 (Instr.makeSlice 22 (.int .i64 (F:Int)) (.int .i64 (F:Int))).run Tryz.prog w= .ok (.slice (some ⟨w.heap.size,0,none⟩) F F) (w.alloc (.cells (fM (.int .u8 0) F) 5)):=by
 obtain⟨i0,iF,hz0,hz1,hz2⟩:=info_parts kW;have:=mI (P:=Tryz.prog) 22 5 i0 _ Tryz.underlying22 iF hz0 .i64 .i64 F F (ag _) (by rw[hz2];omega) (by omega) w;have e:madeCells (Value.int .u8 0).cells (F*1)=fM (.int .u8 0) F:=by
  apply Array.ext
  .simp[madeCells,fM,cT]
  .intro i h1 h2;simp[madeCells,fM,cT,Nat.mod_one]
 rw[this,hz1,e]
theorem IV (w:World)(F:Nat)(hF:F<=maxLen):Row (w.alloc (.cells (fM (.int .u8 0) F) 5)) w.heap.size 5 F (ru (aj F false)):=
 ⟨fM (.int .u8 0) F,eW.new w _ _,by simp[ru],hF,by simp[fM],by simp[fM,ru]⟩
def IK (size:Nat)(ws rs:List Nat)(last:Nat)(w:World)(d:Ending)(w':World):Prop:=
 Below w.heap.size w w'/\((jg size ws rs last≠0/\d= .returned (.tuple #[.pointer none,.int .i64 (jg size ws rs last:Nat)]))\/
  (jg size ws rs last=0/\∃ q:HP,d= .returned (.tuple #[ptr q.g,.int .i64 0])/\oQ w' q (HM.apj size ws rs last)/\∀ k,q.has k->w.heap.size<=k))
def Fp (q:HP)(size:Nat)(ws rs:List Nat)(last:Nat)(w:World)(k:Nat)(wr:World):Prop:=
 Below w.heap.size w wr/\∃ l r,Pre ws l r/\k=eG l/\oQ wr q ⟨size,ws,(false :: iE l)++aj r.length false,rs,last⟩
theorem Ny {w:World}(size:Nat)(h1:64<=size)(h2:size<=1048576)(A:Option Addr)(n c:Nat)(ws:List Nat)(hn:n<=9223372036854775807)(hr:eQ w w.heap.size 1 A n (eN ws))(h32:∀ x∈ws,x<4294967296)
 (A':Option Addr)(n' c':Nat)(rs:List Nat)(hn':n'<=9223372036854775807)(hr':eQ w w.heap.size 1 A' n' (eN rs))(aq0:∀ x∈rs,x<4294967296)(last:Nat)(hl:last<4294967296):
 Calls Tryz.prog 66 #[.int .i64 size,.slice A n c,.slice A' n' c',.int .u32 last] w (IK size ws rs last w):=by
 have zC:ws.length=n:=by have:=hr.1;rw[eY]at this;omega
 have Cb:rs.length=n':=by have:=hr'.1;rw[eY]at this;omega
 have hbr:=aa (Below.refl w.heap.size w);have Be:=aa zC;have Tj:=aa Cb;by_cases iY:n=0\/size<n\/n'≠64
 .have HE:=aa (C8 (size:=size) (ws:=ws) (rs:=rs) (last:=last) (by rw[zC,Cb];exact iY));have gS:IK size ws rs last w (.returned (.tuple #[.pointer none,.int .i64 1])) w:=⟨hbr.o,.inl ⟨by rw[HE.o];decide,by rw[HE.o];rfl⟩⟩;have gN:=aa gS;clear hr hr' h32 aq0 zC Cb gS HE;by_cases hb0:n=0
  .have hz:decide ((n:Int)<1)=true:=(by simp;omega);clear iY hb0;go_enter Tryz.func66,Tryz.ntmps66;go_wp2_with fail;go_ret2;exact gN.o
  .have hz:decide ((n:Int)<1)=false:=(by simp;omega);by_cases hb1:size<n
   .have hz1:decide (size<n)=true:=(by simpa using hb1);clear iY hb0 hb1;go_enter Tryz.func66,Tryz.ntmps66;go_wp2_with fail;go_ret2;exact gN.o
   .have hz1:decide (size<n)=false:=(by simpa using hb1);have hz2:((n':Int) != 64)=true:=(by rw[bne_iff_ne];omega);clear iY hb0 hb1;go_enter Tryz.func66,Tryz.ntmps66;go_wp2_with fail;go_ret2;exact gN.o
 .have CU:0<n:=by omega
  have V_:=aa (show ¬ (ws.length=0\/size<ws.length\/rs.length≠64) by rw[zC,Cb];exact iY);obtain rfl:n'=64:=by omega
  obtain⟨ad,rfl,had,hcw⟩:=hr.2 CU;obtain⟨Vp,rfl,ama,-⟩:=hr'.2 (by omega);have hz:decide ((n:Int)<1)=false:=by simp;omega
  have hz1:decide (size<n)=false:=by simp;omega
  have Gn:=QQ n (by omega);have ahr:n<=size:=by omega
  have II:=aa hr;have Im:=aa hr'
  have Cr:=aa (show ∀ W',Below w.heap.size w W'->∀ j,j<n->W'.cell? (ad.add j)=some (.int .u32 (ws.getD j 0:Nat)) from fun W' hb j hj=>
   (hb.cell (by rw[gi];exact had)).trans (hcw j _ (ft (by rw[zC];exact hj))))
  have yL:=aa h32;have V9:=aa aq0;have hX:w.heap.size+1<((w.alloc (.cells (fM (.int .u8 0) n) 5)).alloc (.cells #[.int .i64 size,.slice none 0 0,.slice none 0 0,.int .u32 last,.slice (some ⟨w.heap.size,0,none⟩) n n] 134)).heap.size:=by simp
  have hb:Below w.heap.size w ((w.alloc (.cells (fM (.int .u8 0) n) 5)).alloc (.cells #[.int .i64 size,.slice none 0 0,.slice none 0 0,.int .u32 last,.slice (some ⟨w.heap.size,0,none⟩) n n] 134)):=((Below.refl _ _).alloc (ag _) _).alloc (by simp) _;have BX:eW ((w.alloc (.cells (fM (.int .u8 0) n) 5)).alloc (.cells #[.int .i64 size,.slice none 0 0,.slice none 0 0,.int .u32 last,.slice (some ⟨w.heap.size,0,none⟩) n n] 134)) (w.heap.size+1) 134 #[.int .i64 size,.slice none 0 0,.slice none 0 0,.int .u32 last,.slice (some ⟨w.heap.size,0,none⟩) n n]:=by
   have:=eW.new (w.alloc (.cells (fM (.int .u8 0) n) 5)) 134 #[.int .i64 size,.slice none 0 0,.slice none 0 0,.int .u32 last,.slice (some ⟨w.heap.size,0,none⟩) n n];rw[aX]at this;exact this
  have RS:Row ((w.alloc (.cells (fM (.int .u8 0) n) 5)).alloc (.cells #[.int .i64 size,.slice none 0 0,.slice none 0 0,.int .u32 last,.slice (some ⟨w.heap.size,0,none⟩) n n] 134)) w.heap.size 5 n (ru (aj n false)):=(IV w n (by simp only[maxLen];omega)).alloc _;clear hr hr' h32 aq0 zC Cb hcw iY;go_enter Tryz.func66,Tryz.ntmps66;go_upto_region 4 with fail;generalize hW:(w.alloc (.cells (fM (.int .u8 0) n) 5)).alloc (.cells #[.int .i64 size,.slice none 0 0,.slice none 0 0,.int .u32 last,.slice (some ⟨w.heap.size,0,none⟩) n n] 134)=W1 at*;clear hW Gn;generalize hXX:w.heap.size+1=X at*;have HXX:=aa hXX;clear hXX;have x1:=BX.cell 1;have z1:=BX.frozen 1;obtain⟨i0,iF,hz0,hz3,hz2⟩:=info_parts jR;have HO:=aa (show W1.ownsRow (X+1) 32 1 (.slice none 0 0) 0 [] from⟨rfl,.inl ⟨rfl,rfl⟩⟩);have HN:=aa ((II.o.below hb).more hb.size);have ko:=aa hb;have uC:=aa RS;have ni:=aa BX;have hXX:=HXX.o;clear hb RS BX;go_upto_region 5 with (at_builtin;refine eM _ rfl (.tmp 39) (.tmp 40) _ rfl (X+1) 32 i0 _ 1 4 Tryz.underlying84 iF hz0 hz3 hz2 rfl (by omega) (.slice none 0 0) 0 [] rfl HO.o _ (some ad) n c (eN ws) rfl HN.out (fU _) (by simp only[maxLen];omega) (by omega) (by omega) ?_;intro v1 w5 fe hgrow j0;obtain⟨g5,c5,rfl,jr,zB,Ca⟩:=Row.apk fe (by omega);have k5:=(hgrow.cell_far ⟨X,1,none⟩ hX (by simp[aw])).trans x1;have z5:=(hgrow.frozen_far ⟨X,1,none⟩ hX (by simp[aw])).trans z1;clear fe);rw[aN]at jr;try simp only[cK]
  have kG:=je (ag _) ko.o hgrow (by simp[aw]);have KO:=kG.setCell (p:=⟨X,1,none⟩) (by simp;omega) (.slice (some ⟨g5,0,none⟩) n c5);have yI:=(ni.o.same (hgrow.block X hX (by simp[aw]))).apg 1 (.slice (some ⟨g5,0,none⟩) n c5);have RW2:=jr.far (p:=⟨X,1,none⟩) (by simp;omega) (.slice (some ⟨g5,0,none⟩) n c5);have RS2:=(uC.o.same (hgrow.block w.heap.size uC.o.lt (by simp[aw]))).far (p:=⟨X,1,none⟩) (by simp;omega) (.slice (some ⟨g5,0,none⟩) n c5);generalize hW:w5.setCell ⟨X,1,none⟩ (.slice (some ⟨g5,0,none⟩) n c5)=W2 at*;clear hW kG hgrow jr j0 k5 z5 x1 z1 HO HN;have yI:eW W2 X 134 #[.int .i64 size,.slice (some ⟨g5,0,none⟩) n c5,.slice none 0 0,.int .u32 last,.slice (some ⟨w.heap.size,0,none⟩) n n]:=yI;clear ni uC ko hX;have hX:X<W2.heap.size:=yI.lt;have x1:=yI.cell 2;have z1:=yI.frozen 2;obtain⟨i1,Ug,Y7,hj3,uF⟩:=info_parts lZ;have HO:=aa (show W2.ownsRow (X+1) 54 1 (.slice none 0 0) 0 [] from⟨rfl,.inl ⟨rfl,rfl⟩⟩);have HN:=aa ((Im.o.below KO).more KO.size);have tM:=aa KO;have uC:=aa RS2;have WZ:=aa RW2;have ni:=aa yI;clear KO RS2 RW2 yI;go_upto_region 6 with (at_builtin;refine eM _ rfl (.tmp 48) (.tmp 49) _ rfl (X+1) 54 i1 _ 1 4 Tryz.underlying101 Ug Y7 hj3 uF rfl (by omega) (.slice none 0 0) 0 [] rfl HO.o _ (some Vp) 64 c' (eN rs) rfl HN.out (fU _) (by simp only[maxLen];omega) (by omega) (by omega) ?_;intro v1 w6 fe hgrow j0;obtain⟨g6,c6,rfl,jr,zB,agT⟩:=Row.apk fe (by omega);have k5:=(hgrow.cell_far ⟨X,2,none⟩ hX (by simp[aw])).trans x1;have z5:=(hgrow.frozen_far ⟨X,2,none⟩ hX (by simp[aw])).trans z1;clear fe);rw[aN]at jr;try simp only[cK]
  have kG:=je (ag _) tM.o hgrow (by simp[aw]);have PU:=kG.setCell (p:=⟨X,2,none⟩) (by simp;omega) (.slice (some ⟨g6,0,none⟩) 64 c6);have OG:=(ni.o.same (hgrow.block X hX (by simp[aw]))).apg 2 (.slice (some ⟨g6,0,none⟩) 64 c6);have RR3:=jr.far (p:=⟨X,2,none⟩) (by simp;omega) (.slice (some ⟨g6,0,none⟩) 64 c6);have RW3:=(WZ.o.same (hgrow.block g5 WZ.o.lt (by simp[aw]))).far (p:=⟨X,2,none⟩) (by simp;omega) (.slice (some ⟨g6,0,none⟩) 64 c6);have RS3:=(uC.o.same (hgrow.block w.heap.size uC.o.lt (by simp[aw]))).far (p:=⟨X,2,none⟩) (by simp;omega) (.slice (some ⟨g6,0,none⟩) 64 c6);have OG:eW (w6.setCell ⟨X,2,none⟩ (.slice (some ⟨g6,0,none⟩) 64 c6)) X 134 #[.int .i64 size,.slice (some ⟨g5,0,none⟩) n c5,.slice (some ⟨g6,0,none⟩) 64 c6,.int .u32 last,.slice (some ⟨w.heap.size,0,none⟩) n n]:=OG;generalize hW:w6.setCell ⟨X,2,none⟩ (.slice (some ⟨g6,0,none⟩) 64 c6)=W3 at*
  have R3:oQ W3 ⟨X,g5,c5,w.heap.size,n,g6,c6⟩ ⟨size,ws,aj n false,rs,last⟩:=⟨by
   show eW W3 X 134 #[.int .i64 size,.slice (some ⟨g5,0,none⟩) ws.length c5,.slice (some ⟨g6,0,none⟩) rs.length c6,.int .u32 last,.slice (some ⟨w.heap.size,0,none⟩) (aj n false).length n];rw[Be.o,Tj.o,bk];exact OG,RW3,RS3,RR3⟩
  have HQN:=aa (show ∀ k,HP.has ⟨X,g5,c5,w.heap.size,n,g6,c6⟩ k->w.heap.size<=k from by rintro k (rfl|rfl|rfl|rfl) <;> (try simp only[]) <;> omega);have Pb:=aa (show (HP.mk X g5 c5 w.heap.size n g6 c6).g=X/\(HP.mk X g5 c5 w.heap.size n g6 c6).gs=w.heap.size from⟨rfl,rfl⟩);generalize hQ:(HP.mk X g5 c5 w.heap.size n g6 c6)=q at*;clear hQ hW kG hgrow jr j0 k5 z5 x1 z1 HO HN uC WZ ni tM OG RR3 RW3 RS3 Ca agT hX hXX zB iF hz0 hz3 hz2 Ug Y7 hj3 uF;have Km:=aa (show ix ws=none->jg size ws rs last=20 from fun e=>vD V_.o (nT e));have iQ:=aa (show ∀ wz,jg size ws rs last=20->Below w.heap.size w wz->IK size ws rs last w (.returned (.tuple #[.pointer none,.int .i64 20])) wz from fun wz e hb=>⟨hb,.inl ⟨by rw[e];decide,by rw[e];rfl⟩⟩);have q0:=Cr.o W3 PU 0 CU;rw[show ad.add 0=ad by unfold Addr.add;simp]at q0;have hn0:(0:Int)<(n:Int):=by omega
  have ig:=aa PU;have WT:=aa R3;clear PU R3;by_cases h0:ws.getD 0 0=0
  case neg=>
   have hb:((ws.getD 0 0:Int) != 0)=true:=by rw[bne_iff_ne];omega
   have HN:=aa (Km.o (by
    unfold ix;split
    .rename_i hw;simp at h0
    .rfl))
   generalize ws.getD 0 0=x at*;clear h0;go_wp2_with fail;go_ret2;exact iQ.o _ HN.out ig.o
  obtain⟨r0,uH⟩ :∃ r0,ws=0 :: r0:=by
   cases hw:ws with
   | nil=>have:=Be.o;rw[hw]at this;simp at this;omega
   | cons a r=>rw[hw]at h0;simp at h0;exact⟨r,by rw[h0]⟩
  rw[h0]at q0
  have Og:=aa (show Fp q size ws rs last w 1 W3 from⟨ig.o,[],r0,by rw[uH];exact Pre.start,rfl,by
   have e:(false :: iE [])++aj r0.length false=aj n false:=by
    have:=Be.o;rw[uH]at this;rw[<-this];simp[iE,List.replicate_succ]
   rw[e];exact WT.o⟩)
  clear uH h0 WT;go_wp2_with fail;clear q0
  go_loopw [11] (fun i wr=>∃ k:Nat,i= .int .i64 k/\Fp q size ws rs last w k wr) (fun i _=>n-(intOf i).toNat)
  case atStart=>exact⟨1,rfl,Og.o⟩
  case round=>
   obtain⟨k,rfl,Gb,l,r,hp,rfl,Rr⟩:=hrel;have hlen:=hp.len;rw[Be.o]at hlen;by_cases uH:r=[]
   .subst uH;simp only[aQ,cL]at hlen;have HD:=aa hp.done;have Rr:oQ wr q ⟨size,ws,false :: iE l,rs,last⟩:=by
     have e:(false :: iE l)++aj ([]:List Nat).length false=false :: iE l:=(by simp);rw[e]at Rr;exact Rr
    have hof:(⟨size,ws,false :: iE l,rs,last⟩ :HM)=HM.apj size ws rs last:=by
     unfold HM.apj;rw[HD.o];rfl
    have hinv:=uj yL.o HD.o;have L3:HM.Laid ⟨size,ws,false :: iE l,rs,last⟩ l:=⟨hinv.1,rfl,hinv.2⟩
    have F3:HM.Fit ⟨size,ws,false :: iE l,rs,last⟩:=⟨h1,h2,by show 1<=ws.length;rw[Be.o];exact CU,by show ws.length<=size;rw[Be.o];exact ahr,by
     show (false :: iE l).length=ws.length;rw[hinv.1];simp[pB],Tj.o,yL.o,V9.o,hl⟩
    have wD:=aa (MR Rr F3 L3);unfold ptr at wD;rw[Pb.o.1]at wD;have Tq:=aa hof;have Pc:=aa Rr;have Zu:=aa Gb;clear hof hinv L3 F3 Rr Gb hp;rw[<-hlen]at*;go_wp2_with fail;refine wD.o.mono ?_;rintro e w4 ⟨b2,rfl,Qj,hb4⟩;have OX:=aa Qj;have jL:=aa (eF Zu.o hb4);have j9:=aa (Pc.o.below hb4);clear Qj hb4;cases b2
    .have HE:=aa (vD V_.o (fun ok=>by
      have:=(qo HD.o).1 ok;rw[<-Tq.o]at this;exact absurd (OX.o.2 this) (by decide)))
     go_wp2_with fail;go_ret2;exact iQ.o _ HE.o jL.o
    .have HE:=aa (vE V_.o ((qo HD.o).2 (by rw[<-Tq.o];exact OX.o.1 rfl)));go_wp2_with fail;go_ret2;exact⟨jL.o,.inr ⟨HE.o,q,by rw[Pb.o.1];rfl,by rw[<-Tq.o];exact j9.o,HQN.o⟩⟩
   .have Uo:0<r.length:=List.length_pos_iff.2 uH;by_cases hr3:r.length<3
    .have HN:=aa (Km.o (hp.none (vQ uH hr3)));have Zu:=aa Gb;clear hp uH Rr Gb;generalize eG l=K at*;generalize r.length=m at*;have hdec:decide (K<n)=true:=(by simp;omega);have KV:(n:Int)<(K:Int)+3:=(by omega);have hKn:K<n:=(by omega);have Gc:decide ((n:Int)<(K:Int)+3)=true:=(by simpa using KV);clear hlen KV;go_wp2_with fail;go_ret2;exact iQ.o _ HN.out Zu.o
    .obtain⟨a,b,c2,r',rfl⟩ :∃ a b c r',r=a :: b :: c :: r':=by
      match r,hr3 with
      | a :: b :: c :: r',_=>exact⟨a,b,c,r',rfl⟩
      | [],h=>simp at h
      | [_],h=>simp at h
      | [_,_],h=>simp at h
     have hm:∀ x∈a :: b :: c2 :: r',x<4294967296:=fun x hx=>yL.o x (by rw[hp.eq];simp at hx ⊢;right;right;exact hx);have ba:=hm a (by simp);have bb:=hm b (by simp);have bc:=hm c2 (by simp);have g0:=hp.get 0;have g1:=hp.get 1;have g2:=hp.get 2;simp only[cL,List.getD_cons_zero,List.getD_cons_succ]at g0 g1 g2;have HLEN:=aa (show n=eG l+(r'.length+3) by simpa using hlen);have hw0:=Cr.o wr Gb (eG l) (by have:=HLEN.o;omega);have oq:=Cr.o wr Gb (eG l+1) (by have:=HLEN.o;omega);have hw2:=Cr.o wr Gb (eG l+2) (by have:=HLEN.o;omega);rw[g0]at hw0;rw[g1]at oq;rw[g2]at hw2;have oq:=FK oq (by omega);have hw2:=FK hw2 (by omega);have Zu:=aa Gb;have tO:=aa (show eG l+3<=n by have:=HLEN.o;omega);have HP:=aa hp;have Pc:=aa Rr;have T4:ad.block<wr.heap.size:=(by have:=Gb.size;omega);clear g0 g1 g2 hm hlen uH hr3 Uo hp Rr;generalize hKK:eG l=K at*;have Vd:=aa hKK;have hkn:=tO.o;have hdec:decide (K<n)=true:=(by simp;omega);have Gc:decide ((n:Int)<(K:Int)+3)=false:=(by simp;omega);have Gj:(K:Int)<(n:Int):=(by omega);have ahe:(K:Int)+1<(n:Int):=(by omega);have Uj:(K:Int)+2<(n:Int):=(by omega);have e1:IntKind.i64.wrap ((K:Int)+1)=(K:Int)+1:=IntWalk.i64_in _ (by omega);have e2:IntKind.i64.wrap ((K:Int)+2)=(K:Int)+2:=IntWalk.i64_in _ (by omega);have p1:0<=(K:Int)+1:=(by omega);have p2:0<=(K:Int)+2:=(by omega);have t1:((K:Int)+1).toNat=K+1:=(by omega);have t2:((K:Int)+2).toNat=K+2:=(by omega);have HU:=aa (fun w=>xT a b c2 ba bb bc w);obtain⟨x,ok,hX⟩ :∃ (x:Hd) (ok:Bool),lc a b c2= .tuple #[.agg #[.int .i64 x.size,.int .i64 x.fmt,.int .i64 x.spare,.int .u32 x.cls,.int .u32 x.ser],.bool ok]/\ok=lL a b c2/\(ok=true->x=gg a b c2):=by
      cases hok:lL a b c2
      .exact⟨⟨0,0,0,0,0⟩,false,by unfold lc;rw[hok];rfl,rfl,fun e=>by cases e⟩
      .exact⟨gg a b c2,true,by unfold lc;rw[hok];rfl,rfl,fun _=>rfl⟩
     obtain⟨hX,Qs,hxE⟩:=hX;rw[hX]at HU;have WK:=aa Qs;have Bn:=aa hxE;clear hX Qs hxE hKK hkn ba bb bc Gb;go_upto_region 12 with fail
     have KC:=aa (show ∀ W',Below wr.heap.size wr W'->W'.cell? (ad.add K)=some (.int .u32 (a:Int))/\W'.cell? ⟨ad.block,ad.off+(K+1),none⟩=some (.int .u32 (b:Int))/\W'.cell? ⟨ad.block,ad.off+(K+2),none⟩=some (.int .u32 (c2:Int)) from fun W' hb=>
      ⟨(hb.cell (by rw[gi];exact T4)).trans hw0,(hb.cell (show (⟨ad.block,ad.off+(K+1),none⟩ :Addr).block<wr.heap.size from T4)).trans oq,(hb.cell (show (⟨ad.block,ad.off+(K+2),none⟩ :Addr).block<wr.heap.size from T4)).trans hw2⟩)
     have HUA:=aa (show Calls Tryz.prog 148 #[.agg #[.int .u32 a,.int .u32 b,.int .u32 c2]] wr.drew fun e w1=>e= .returned (.tuple #[.agg #[.int .i64 x.size,.int .i64 x.fmt,.int .i64 x.spare,.int .u32 x.cls,.int .u32 x.ser],.bool ok])/\Below wr.heap.size wr w1 from
      (HU.o _).mono fun _ _ ⟨h1,h2⟩=>⟨h1,eF (ib (Below.refl _ _)) h2⟩)
     have Tz:=aa (show Calls Tryz.prog 148 #[.agg #[.int .u32 a,.int .u32 b,.int .u32 c2]] (wr.alloc (.cells #[.int .i64 0,.int .i64 0,.int .i64 0,.int .u32 0,.int .u32 0] 75)).drew fun e w1=>e= .returned (.tuple #[.agg #[.int .i64 x.size,.int .i64 x.fmt,.int .i64 x.spare,.int .u32 x.cls,.int .u32 x.ser],.bool ok])/\Below wr.heap.size wr w1/\eW w1 wr.heap.size 75 #[.int .i64 0,.int .i64 0,.int .i64 0,.int .u32 0,.int .u32 0] from
      (HU.o _).mono fun _ _ ⟨h1,h2⟩=>⟨h1,eF (ib (ie (Below.refl _ _))) h2,((eW.new wr _ _).drew).below h2 (by simp[World.drew])⟩)
     have hb0:=Below.refl wr.heap.size wr
     go_cut [12,13] (fun v v2 wx=>∃ g,v=ptr g/\v2= .bool ok/\Below wr.heap.size wr wx/\eW wx g 75 #[.int .i64 x.size,.int .i64 x.fmt,.int .i64 x.spare,.int .u32 x.cls,.int .u32 x.ser]/\wr.heap.size<=g)
     case first=>
      go_region_held3 (fun w'=>w'.cell? (ad.add K)=some (.int .u32 (a:Int))/\w'.cell? ⟨ad.block,ad.off+(K+1),none⟩=some (.int .u32 (b:Int))/\w'.cell? ⟨ad.block,ad.off+(K+2),none⟩=some (.int .u32 (c2:Int)))
       (first|with_reducible exact KC.o _ hb0|with_reducible exact KC.o _ (Below.drew hb0)|with_reducible exact KC.o _ (ie hb0)|with_reducible exact KC.o _ (Below.drew (ie hb0))|with_reducible exact KC.o _ hk|with_reducible exact KC.o _ (ie hk)|with_reducible exact KC.o _ (pW hk (ag _)))
       (first
         | (go_at_call 148;(with_reducible refine HUA.o.mono ?_);rintro e w1 ⟨rfl,hk⟩)
         | (go_at_call 148;(with_reducible refine Tz.o.mono ?_);rintro e w1 ⟨rfl,hk,Oo⟩;obtain⟨g0,g1,g2,g3,g4⟩:=Oo.apd;have hgz:=Oo.fz;have VI:=Oo.lt))
      all_goals go_wp2_with fail
      all_goals go_meet
      .exact⟨_,rfl,rfl,ie hk,eW.new _ _ _,hk.size⟩
      .exact⟨_,rfl,rfl,pW hk (ag _),Oo.apf _ _ _ _ _,ag _⟩
     case rest=>
      obtain⟨gx,rfl,rfl,Ua,Zl,hgx⟩:=hcut;have jL:=aa (eF Zu.o Ua);have j9:=aa (Pc.o.below Ua);obtain⟨d0,-,-,-,-⟩:=Zl.apd;clear KC HUA Tz hb0 HU hw0 oq hw2 T4;unfold ptr;cases hok:ok
      .have HN:=aa (Km.o (HP.o.none (Ac (by rw[<-WK.o,hok]))));clear hok Ua Zl;go_wp2_with fail;go_ret2;exact iQ.o _ HN.out jL.o
      .have hx:=Bn.o hok;have Qs:lL a b c2=true:=(by rw[<-WK.o,hok]);have afp:=aa Qs;clear hok Qs WK Bn;have kJ:x.size<16777216:=(by rw[hx];exact Nat.mod_lt _ (by omega));by_cases hsz:x.size<=r'.length
       .have hz5:decide ((n:Int)<(K:Int)+3+(x.size:Int))=false:=(by have:=HLEN.o;simp;omega);have Ee:=aa (HP.o.next yL.o afp.o (by rw[<-hx];exact hsz));have Tu:=aa (qw l ⟨gg a b c2,r'.take (gg a b c2).size⟩);have HMS:=aa (Db l ⟨gg a b c2,r'.take (gg a b c2).size⟩ (a :: b :: c2 :: r').length (r'.drop (gg a b c2).size).length (by rw[<-hx];simp;omega));rw[Vd.o,<-hx]at HMS;rw[Vd.o,<-hx]at Tu;rw[<-hx]at Ee;have HTL:=aa (show (r'.take x.size).length=x.size by simp;omega);have Su:=aa (show (false :: iE l++aj (a :: b :: c2 :: r').length false).length=n by
         rw[ah,az,pB,bk,HLEN.o,<-Vd.o];simp[eG];omega)
        have Bt:K<n:=(by have:=HLEN.o;omega);have c4:=j9.o.c4;have hkb:K+3+x.size<=n:=(by have:=HLEN.o;omega);have sl:(false :: iE l++aj (a :: b :: c2 :: r').length false).length=n:=Su.o;simp only[sl]at c4;have m1:=j9.o.mark (i:=K) (by show K<(false :: iE l++aj (a :: b :: c2 :: r').length false).length;rw[sl];exact Bt);have z1:=j9.o.2.2.1.frozen K;have nE:=aa (j9.o.aqc K);have hne:gx≠q.gs:=by
         have:=Pc.o.lt (k:=q.gs) (.inr (.inr (.inl rfl)));omega
        obtain⟨d0',-,-,-,-⟩:=(Zl.far (p:=⟨q.gs,K,none⟩) hne (.int .u8 1)).apd;have lQ:=aa (jL.o.setCell (p:=⟨q.gs,K,none⟩) (by rw[Pb.o.2];exact ag _) (.int .u8 1));rw[Pb.o.1]at c4;clear sl Ua Zl j9 Pc HP hx
        dsimp only at m1
        generalize (if (false :: iE l++aj (a :: b :: c2 :: r').length false).getD K false=true then (1:Int) else 0)=mb at m1;have hk4:(K:Int)<(n:Int):=(by omega);go_wp2_with fail;go_roundw
        case rel=>
         refine⟨K+(3+x.size),by go_num,lQ.o,l++[⟨x,r'.take x.size⟩],r'.drop x.size,Ee.o,by rw[Tu.o,HTL.o];omega,?_⟩;have e:=nE.o;rw[HMS.o]at e;exact e
        case measure=>simp[intOf];omega
       .have hz5:decide ((n:Int)<(K:Int)+3+(x.size:Int))=true:=(by have:=HLEN.o;simp;omega);have hkb:K+3<=n:=(by have:=HLEN.o;omega);have HN:=aa (Km.o (HP.o.none (xO (by rw[<-hx];omega))));clear hx Ua Zl hsz;go_wp2_with fail;go_ret2;exact iQ.o _ HN.out jL.o
end
section
open Go.RowKit
structure Cs where
 size:Int
 A:Option Addr
 n:Nat
 c:Nat
 A':Option Addr
 n':Nat
 c':Nat
 ws:List Nat
 rs:List Nat
 last:Nat
def Cs.agg (k:Cs):Value:=.agg #[.int .i64 k.size,.slice k.A k.n k.c,.slice k.A' k.n' k.c',.int .u32 (k.last:Nat)]
def Cs.h (k:Cs):HM:=HM.apj k.size.toNat k.ws k.rs k.last
def Cs.Ok (k:Cs):Prop:=64<=k.size/\k.size<=1048576/\jg k.size.toNat k.ws k.rs k.last=0
structure Cs.At (k:Cs) (w:World) (B:Nat):Prop where
 hn:k.n<=9223372036854775807
 hr:eQ w B 1 k.A k.n (eN k.ws)
 h32:∀ x∈k.ws,x<4294967296
 hn':k.n'<=9223372036854775807
 hr':eQ w B 1 k.A' k.n' (eN k.rs)
 aq0:∀ x∈k.rs,x<4294967296
 hl:k.last<4294967296
theorem Cs.At.below {k:Cs}{w w':World}(h:k.At w w.heap.size)(hb:Below w.heap.size w w'):k.At w' w'.heap.size:=
 ⟨h.hn,(h.hr.below hb).more hb.size,h.h32,h.hn',(h.hr'.below hb).more hb.size,h.aq0,h.hl⟩
def V5 (W:World)(k:Cs)(e:Ending)(w':World):Prop:=
 Below W.heap.size W w'/\((¬ k.Ok/\e= .returned (.tuple #[.pointer none,.pointer none,.bool false]))\/
  (k.Ok/\∃ p q ls,e= .returned (.tuple #[ptr p.g,ptr q.g,.bool true])/\fO w' p k.h/\k.h.Good ls/\oQ w' q k.h))
theorem Ma (W:World)(E:Ig W)(k:Cs)(hk:k.At W W.heap.size):Calls Tryz.prog 51 #[k.agg] W (V5 W k):=by
 have hb0:=(Below.refl W.heap.size W).alloc (ag _) (.cells #[.int .i64 k.size,.slice k.A k.n k.c,.slice k.A' k.n' k.c',.int .u32 (k.last:Nat)] 119);have j8:=aa hb0;have BX:=aa (eW.new W 119 #[.int .i64 k.size,.slice k.A k.n k.c,.slice k.A' k.n' k.c',.int .u32 (k.last:Nat)]);have HE:=aa (E.below hb0);have HK:=aa (hk.below hb0);clear hb0 E hk;unfold Cs.agg;by_cases hsz:k.size<64\/1048576<k.size
 .have HN:=aa (fun w=>UD k.size hsz w);have HF:=aa (show ¬ k.Ok from fun h=>by have h1:=h.1;have h2:=h.2.1;omega);clear hsz;go_enter Tryz.func51,Tryz.ntmps51;go_wp2_with fail;refine (HN.out _).mono ?_;rintro e w1 ⟨rfl,rfl⟩;go_wp2_with fail;refine bodyPost_ret (v:=.tuple #[.pointer none,.pointer none,.bool false]) (by simp[results,Tryz.results51,go_sem]) rfl ?_;exact⟨j8.o,.inl ⟨HF.o,rfl⟩⟩
 .obtain⟨s,hs⟩:=Int.eq_ofNat_of_zero_le (show 0<=k.size by omega);have h1:64<=s:=by omega
  have h2:s<=1048576:=by omega
  have HH:=aa (show k.h=HM.apj s k.ws k.rs k.last by unfold Cs.h;rw[hs];rfl);have yT:=aa (show k.Ok↔jg s k.ws k.rs k.last=0 by
   unfold Cs.Ok;rw[hs,show ((s:Int)).toNat=s by omega];constructor
   .exact fun h=>h.2.2
   .exact fun h=>⟨by omega,by omega,h⟩)
  have HN:=aa (fun w=>EI s h1 h2 w);rw[hs]at j8 BX HE HK ⊢;have H12:=aa (And.intro h1 h2);clear hs hsz;go_enter Tryz.func51,Tryz.ntmps51;go_wp2_with fail;generalize W.alloc (.cells #[.int .i64 (s:Int),.slice k.A k.n k.c,.slice k.A' k.n' k.c',.int .u32 (k.last:Nat)] 119)=W1 at*;refine (HN.out _).mono ?_;rintro e w1 hN;obtain⟨p,g,rfl,L0⟩:=ju.aqX (v:=fun g=> .tuple #[ptr g,.int .i64 0]) HE.o H12.o.1 H12.o.2 hN;clear hN;have hb1:=L0.below;have Zj:=BX.out.below hb1 BX.out.lt;have x0:=Zj.cell 0;have x1:=Zj.cell 1;have x2:=Zj.cell 2;have x3:=Zj.cell 3;have K1:=HK.o.below hb1;have Ea:=aa (L0.load k.A k.n k.c k.ws K1.hn K1.hr K1.h32 k.A' k.n' k.c' k.rs K1.hn' K1.hr' K1.aq0 k.last K1.hl);rw[show (HM.new s).size=s from rfl]at Ea;have HL1:=aa hb1;clear hb1 Zj K1 L0;unfold ptr;go_wp2_with fail;refine Ea.o.mono ?_;rintro e w2 ⟨p2,rfl,L2,-⟩;have uw:=aa (j8.o.trans (L2.below.mono j8.o.size));by_cases X0:jg s k.ws k.rs k.last=0
  .have HO:=aa (yT.o.2 X0);have hg2:∃ ls,k.h.Good ls:=by
    have:=L2.good;unfold HM.apH at this;rw[show (HM.new s).size=s from rfl,if_pos X0]at this;rw[HH.o];exact this
   have hat:fO w2 p2 k.h:=by
    have:=L2.at_;unfold HM.apH at this;rw[show (HM.new s).size=s from rfl,if_pos X0]at this;rw[HH.o];exact this
   have HG:=aa hg2;have Co:=aa hat;have VM:=L2.hg;have Pb:=aa VM;have yI:=BX.out.below L2.below BX.out.lt;have x0:=yI.cell 0;have x1:=yI.cell 1;have x2:=yI.cell 2;have x3:=yI.cell 3;have K2:=HK.o.below L2.below;have Ss:=aa (Ny (c:=k.c) (c':=k.c') s H12.o.1 H12.o.2 k.A k.n k.ws K2.hn K2.hr K2.h32 k.A' k.n' k.rs K2.hn' K2.hr' K2.aq0 k.last K2.hl);rw[X0];clear hg2 hat VM yI K2 L2 Ea;go_wp2_with fail;refine Ss.o.mono ?_;rintro e w3 ⟨hb3,⟨h3,-⟩|⟨-,q,rfl,hq,-⟩⟩
   .exact absurd X0 h3
   have HQ:=aa hq;have ig:=aa hb3;clear hb3 hq;unfold ptr;go_wp2_with fail;refine bodyPost_ret (v:=.tuple #[.pointer (some ⟨g,0,none⟩),.pointer (some ⟨q.g,0,none⟩),.bool true]) (by simp[results,Tryz.results51,go_sem]) rfl ?_;obtain⟨ls,hG⟩:=HG.o;refine⟨eF uw.o ig.o,.inr ⟨HO.o,p2,q,ls,by unfold ptr;rw[Pb.o],Co.o.below ig.o,hG,by rw[HH.o];exact HQ.o⟩⟩
  .have HF:=aa (show ¬ k.Ok from fun h=>X0 (yT.o.1 h));have en:((jg s k.ws k.rs k.last:Int) != 0)=true:=(by simp;omega);generalize jg s k.ws k.rs k.last=E at*;clear X0 L2 Ea;go_wp2_with fail;refine bodyPost_ret (v:=.tuple #[.pointer none,.pointer none,.bool false]) (by simp[results,Tryz.results51,go_sem]) rfl ?_;exact⟨uw.o,.inl ⟨HF.o,rfl⟩⟩
end
section
open Go.RowKit Go.Maps
def kt (L:List Nat)(x:Nat):Nat:=if x∈L then L.idxOf x+1 else 0
theorem M8 {L:List Nat}{x:Nat}(h:x∉L):kt (L++[x])=upd (kt L) x (L.length+1):=by
 funext y
 unfold kt upd;by_cases hy:y=x
 .subst hy;rw[if_pos (by simp),if_pos rfl,bQ,if_neg h];simp
 .rw[if_neg hy];by_cases hm:y∈L
  .rw[if_pos (by simp[hm]),bQ,if_pos hm];show _=if y∈L then _ else _
   rw[if_pos hm]
  .rw[if_neg (by simp[hm,hy])];show _=if y∈L then _ else _
   rw[if_neg hm]
theorem vK (L:List Nat)(x:Nat):kt L x<=L.length:=by
 unfold kt;split
 .rename_i h;have:=List.idxOf_lt_length_of_mem h;omega
 .omega
def Yn (s:List Nat × Nat × (Nat->Nat))(x:Nat):List Nat × Nat × (Nat->Nat):=(s.1++[x],if x∈s.1 then s.2.1 else s.2.1+1,upd s.2.2 x (s.2.1+1))
def wh (L:List Nat):List Nat × Nat × (Nat->Nat):=L.foldl Yn ([],0,fun _=>0)
theorem AL (L:List Nat)(x:Nat):wh (L++[x])=Yn (wh L) x:=by unfold wh;rw[bU];rfl
theorem Ln (L:List Nat):(wh L).1=L:=by
 have h:∀ (L:List Nat) s,(L.foldl Yn s).1=s.1++L:=by
  intro L
  induction L with
  | nil=>intro s;simp
  | cons a L ih=>intro s;rw[cn,ih];simp[Yn]
 have:=h L ([],0,fun _=>0);simpa[wh] using this
theorem RM (L:List Nat):(wh L).2.1<=L.length:=by
 have h:∀ (L:List Nat) s,(L.foldl Yn s).2.1<=s.2.1+L.length:=by
  intro L
  induction L with
  | nil=>intro s;simp
  | cons a L ih=>
    intro s;rw[cn];refine aC (ih _) ?_;have:(Yn s a).2.1<=s.2.1+1:=(by unfold Yn;simp only;split <;> omega);simp;omega
 have:=h L ([],0,fun _=>0);simpa[wh] using this
theorem RJ {P:List Nat->Prop}(h0:P [])(h1:∀ L x,P L->P (L++[x])):∀ L,P L:=by
 intro L;rw[<-List.reverse_reverse L];generalize L.reverse=R
 induction R with
 | nil=>exact h0
 | cons a R ih=>rw[List.reverse_cons];exact h1 _ _ ih
theorem DO:∀ L:List Nat,L.Nodup->(wh L).2.1=L.length/\(wh L).2.2=kt L:=
 RJ (fun _=>⟨rfl,by funext y;simp[wh,kt]⟩) (fun L x ih uG=>by
  rw[bV]at uG;have hx:x∉L:=fun hm=>uG.2.2 x hm x (by simp) rfl;obtain⟨h1,h2⟩:=ih uG.1;rw[AL,M8 hx];refine⟨?_,?_⟩
  .show (if x∈(wh L).1 then _ else _)=_;rw[Ln,if_neg hx,h1,ah];rfl
  .show upd _ _ _=_;rw[h1,h2])
structure Eh (T K:TypeId):Prop where
 ht:Tryz.prog.underlying T=some (.map K 32)
 hk:Tryz.prog.underlying K=some (.int .u32)
def oG (K:TypeId)(w:World)(b:Nat)(L:List Nat):Prop:=
 ∃ D:DataW Unit,Tidy D/\w.ownsMap Tryz.prog K (plainElem Tryz.prog 32) b L.length D/\(∀ x:Nat,x<4294967296->D.atKey (.int .u32 (x:Int)) (.lit (.int .u32 0))= .lit (.int .u32 ((wh L).2.2 x:Nat)))/\
   (∀ x:Nat,x<4294967296->Maps.has D (.int .u32 (x:Int))=decide (x∈L))/\Maps.size D=(wh L).2.1
theorem ade (w:World):(zeroValue 32).run Tryz.prog w= .ok (.int .u32 0) w:=by kernel_rfl
section
variable {T K:TypeId}{w w':World}{b:Nat}{L:List Nat}
theorem oG.made (w:World)(K:TypeId):oG K (w.alloc (.map #[] 0)) w.heap.size []:=
 ⟨.map [],tidy_empty,World.ownsMap_made _ _ _ _,fun x _=>rfl,fun x _=>rfl,rfl⟩
theorem oG.lt (h:oG K w b L):b<w.heap.size:=by obtain⟨D,_,h,_⟩:=h;exact h.lt
theorem oG.obj (h:oG K w b L):∃ es c,w.heap[b]? = some (.map es c):=by obtain⟨D,_,⟨es,clock,hb,r⟩,_⟩:=h;exact⟨es,clock,hb⟩
theorem oG.same (h:oG K w b L)(hs:w'.heap[b]? = w.heap[b]?):oG K w' b L:=by
 obtain⟨D,hD,⟨es,clock,hb,r⟩,hf⟩:=h;exact⟨D,hD,⟨es,clock,hs.trans hb,r⟩,hf⟩
theorem oG.below (h:oG K w b L)(hb:Below w.heap.size w w'):oG K w' b L:=h.same (hb.block b h.lt)
theorem oG.look (h:oG K w b L)(uG:L.Nodup)(M:Eh T K){x:Nat}(hx:x<4294967296):(Instr.lookup T (.map (some b)) (.int .u32 (x:Int)) false).run Tryz.prog w= .ok (.int .u32 (kt L x:Nat)) w:=by
 obtain⟨D,hD,ho,hf,_⟩:=h;obtain⟨c,hrun,hat,_⟩:=ho.lookup_int (int_keyed M.hk) M.ht Tryz.underlying32 (ade w) (keyOf_int_mk M.hk (wf_u32 hx));rw[hf x hx,(DO L uG).2]at hat;have e:c=(kt L x:Nat):=by
  simp only[DataW.lit.injEq,Lit.int.injEq,true_and]at hat;exact hat.symm
 subst e;exact hrun
theorem oG.len (h:oG K w b L)(M:Eh T K)(ty:TypeId):(Builtin.len_ #[T] ty #[.map (some b)]).run Tryz.prog w= .ok (.int .i64 ((wh L).2.1:Nat)) w:=by
 obtain⟨D,hD,ho,hf,hh,hs⟩:=h;rw[<-hs];exact ho.len M.ht ty
theorem oG.put (h:oG K w b L)(M:Eh T K){x:Nat}(hx:x<4294967296)(hn:L.length<4294967295):
 ∃ w',(Instr.mapUpdate T (.map (some b)) (.int .u32 (x:Int)) (.int .u32 (((wh L).2.1:Nat)+1:Int))).run Tryz.prog w= .ok () w'/\oG K w' b (L++[x])/\w.grownBy w' (some b):=by
 obtain⟨D,hD,ho,hf,hh,hs⟩:=h;have hle:=RM L;obtain⟨w',hrun,l_,hg⟩:=ho.update (int_keyed M.hk) M.ht (by unfold maxLen;omega) (keyOf_int_mk M.hk (wf_u32 hx)) (plainElem_int Tryz.underlying32 (wf_u32 (x:=(wh L).2.1+1) (by omega)));refine⟨w',hrun,⟨_,hD.put (show WideAt.IsKeyLit (.int .u32 (x:Int)) from trivial) _,by rw[ah];exact l_,fun y hy=>?_,fun y hy=>?_,?_⟩,hg⟩
 .rw[AL];show _=DataW.lit (.int .u32 ((upd (wh L).2.2 x ((wh L).2.1+1) y:Nat):Int));unfold upd;by_cases C0:y=x
  .subst C0;rw[if_pos rfl];exact atKey_put_same hD.isMap (show WideAt.IsKeyLit (.int .u32 (y:Int)) from trivial) _ _
  .rw[if_neg C0,atKey_put_other (by intro e;injection e with _ e;omega)];exact hf y hy
 .by_cases C0:y=x
  .subst C0;rw[has_put_same hD.isMap (show WideAt.IsKeyLit (.int .u32 (y:Int)) from trivial) _];simp
  .rw[has_put_other (by intro e;injection e with _ e;omega),hh y hy];simp[C0]
 .rw[Maps.size_put hD,hh x hx,hs,AL];show _=if x∈(wh L).1 then _ else _
  rw[Ln];by_cases hm:x∈L
  .rw[if_pos (by simpa using hm),if_pos hm]
  .rw[if_neg (by simpa using hm),if_neg hm]
end
def eZ (l:List Ob):List Nat:=(ay l.length).map fun j=>2*eG (l.take j)
theorem fZ (l:List Ob):(eZ l).length=l.length:=by simp[eZ]
theorem nu {l:List Ob}{k:Nat}(hk:k<l.length):(eZ l)[k]? = some (2*eG (l.take k)):=by
 rw[ae (by rw[fZ];exact hk)];simp[eZ]
theorem qN {l:List Ob}{j k:Nat}(hjk:j<k)(hk:k<=l.length):eG (l.take j)<eG (l.take k):=by
 induction k with
 | zero=>omega
 | succ k ih=>
   have h1:=kZ (l:=l) k (by omega);rcases aJ j k with h|h
   .have:=ih h (by omega);omega
   .have:j=k:=(by omega);subst this;exact h1
theorem rN (l:List Ob):(eZ l).Nodup:=by
 unfold eZ;rw[aM,bW];refine List.Pairwise.imp_of_mem ?_ (bj (n:=l.length));intro a b ha hb hlt he;have:=qN (l:=l) (j:=a) (k:=b) hlt (by have:=cH.1 hb;omega);omega
theorem JP (l:List Ob):0∉eZ l:=by
 unfold eZ;simp;intro j _;have:=xa (l.take j);omega
theorem Rc (l:List Ob):(aq l.length).map (fun i=>2*eG (l.take i.1))=eZ l:=by
 apply List.ext_getElem
 .simp[eZ]
 .intro i h1 h2;simp[eZ]
theorem ki {h:HM}{l:List Ob}(G:h.Good l):(eZ l).length<=1048576:=by
 rw[fZ];have hroom:=G.fit.room;have Br:=G.fit.hi;rcases Nat.eq_zero_or_pos l.length with h0|h0
 .omega
 .have h1:=iJ G (l.length-1) (by omega);have h2:∀ k,k<=l.length->k<=eG (l.take k):=fun k=>by
   induction k with
   | zero=>intro _;omega
   | succ k ih=>intro hk;have:=ih (by omega);have:=kZ (l:=l) k (by omega);omega
  have:=h2 (l.length-1) (by omega);omega
end
section
open Go.RowKit
abbrev Wk:=List (Nat × Int)
def gl (l:Wk):List Nat:=l.map (·.1)
def pE (l:Wk)(o:Nat)(Bp:Int):Wk:=if eR o=2/\o∉gl l then l++[(o,Bp)] else l
def iC (l:Wk)(os:List Nat)(Bp:Int):Wk:=os.foldl (fun l o=>pE l o Bp) l
def kR (nm:Nat->List Nat):Nat->Nat->Wk->Wk
 | 0,_,l=>l
 | f+1,i,l=>if i<l.length then kR nm f (i+1) (iC l (nm (l.getD i (0,0)).1) (i:Int)) else l
def kD (nm:Nat->List Nat)(fr:List Nat):Wk:=kR nm 2097152 0 (iC [] fr (-1))
def FD (l:Wk)(x:Nat):Int:=((l.find? (fun p=>p.1 == x)).map (·.2)).getD 0
theorem pz (l:Wk):(gl l).length=l.length:=by simp[gl]
theorem pA (l:Wk)(o:Nat)(b:Int):gl (l++[(o,b)])=gl l++[o]:=by simp[gl]
theorem Rm {l:Wk}{o:Nat}{b:Int}(h1:eR o=2)(h2:o∉gl l):pE l o b=l++[(o,b)]:=by unfold pE;rw[if_pos ⟨h1,h2⟩]
theorem Ha {l:Wk}{o:Nat}{b:Int}(h:¬ (eR o=2/\o∉gl l)):pE l o b=l:=by unfold pE;rw[if_neg h]
theorem Rn (l:Wk)(o:Nat)(b:Int):l <+: pE l o b:=by
 unfold pE;split
 .exact List.prefix_append _ _
 .exact aP _
theorem Nw (l:Wk)(b:Int):iC l [] b=l:=rfl
theorem nX (l:Wk)(o:Nat)(os:List Nat)(b:Int):iC l (o :: os) b=iC (pE l o b) os b:=rfl
theorem J1 (l:Wk)(o:Nat)(os:List Nat)(b:Int):iC l (os++[o]) b=pE (iC l os b) o b:=by unfold iC;rw[bU];rfl
theorem xc (l:Wk)(os:List Nat)(b:Int):l <+: iC l os b:=by
 induction os generalizing l with
 | nil=>exact aP _
 | cons o os ih=>exact (Rn l o b).trans (ih _)
theorem J0 (l:Wk)(os:List Nat)(b:Int):iC l (os.filter (fun o=>decide (eR o=2))) b=iC l os b:=by
 induction os generalizing l with
 | nil=>rfl
 | cons o os ih=>
   rw[List.filter_cons];by_cases h:eR o=2
   .rw[if_pos (by simpa using h),nX,nX,ih]
   .rw[if_neg (by simpa using h),nX,ih,Ha (fun k=>h k.1)]
theorem JZ {l:Wk}(h:(gl l).Nodup)(o:Nat)(b:Int):(gl (pE l o b)).Nodup:=by
 unfold pE;split
 .rename_i hc;rw[pA,bV];exact⟨h,by simp,fun a ha c hc'=>by rintro rfl;simp at hc';subst hc';exact hc.2 ha⟩
 .exact h
theorem oB {l:Wk}(h:(gl l).Nodup)(os:List Nat)(b:Int):(gl (iC l os b)).Nodup:=by
 induction os generalizing l with
 | nil=>exact h
 | cons o os ih=>exact ih (JZ h o b)
theorem Rl {l:Wk}{o x:Nat}{b:Int}:x∈gl (pE l o b)↔x∈gl l\/(x=o/\eR o=2):=by
 unfold pE;split
 .rename_i hc;rw[pA,ct,aU];exact⟨fun h=>h.imp_right fun e=>⟨e,hc.1⟩,fun h=>h.imp_right fun e=>e.1⟩
 .rename_i hc;refine⟨.inl,fun h=>h.elim id fun e=>?_⟩;obtain⟨rfl,hk⟩:=e;exact Classical.byContradiction fun hn=>hc ⟨hk,hn⟩
theorem nv {l:Wk}{os:List Nat}{x:Nat}{b:Int}:x∈gl (iC l os b)↔x∈gl l\/(x∈os/\eR x=2):=by
 induction os generalizing l with
 | nil=>simp[Nw]
 | cons o os ih=>
   rw[nX,ih,Rl,au];constructor
   .rintro ((h|⟨rfl,h⟩)|⟨h1,h2⟩)
    .exact .inl h
    .exact .inr ⟨.inl rfl,h⟩
    .exact .inr ⟨.inr h1,h2⟩
   .rintro (h|⟨rfl|h1,h2⟩)
    .exact .inl (.inl h)
    .exact .inl (.inr ⟨rfl,h2⟩)
    .exact .inr ⟨h1,h2⟩
theorem Mb {l:Wk}{o:Nat}(b:Int)(hn:o∉gl l)(x:Nat):FD (l++[(o,b)]) x=if x=o then b else FD l x:=by
 unfold FD;rw[List.find?_append];by_cases hx:x=o
 .subst hx;have h0:l.find? (fun p=>p.1 == x)=none:=by
   rw[bE];intro p hp he;exact hn (ai.2 ⟨p,hp,by simpa using he⟩)
  rw[if_pos rfl,h0];simp
 .rw[if_neg hx];have h1:([(o,b)]:Wk).find? (fun p=>p.1 == x)=none:=by simp;omega
  rw[h1,Option.or_none]
theorem zJ:∀ (a b:List Nat),a.Nodup->(∀ x∈a,x∈b)->a.length<=b.length
 | [],_,_,_=>cV _
 | x :: a,b,hd,hs=>by
   rw[cu]at hd;have hx:=hs x (by simp);have:=zJ a (b.erase x) hd.2 (fun y hy=>(List.mem_erase_of_ne (show y≠x by rintro rfl;exact hd.1 hy)).2 (hs y (by simp[hy])));rw[List.length_erase_of_mem hx]at this;have:=List.length_pos_of_mem hx;simp;omega
section
variable (nm:Nat->List Nat)
structure SR (fr:List Nat) (i:Nat) (l:Wk):Prop where
 nodup:(gl l).Nodup
 le:i<=l.length
 rest:kD nm fr=kR nm (2097152-i) i l
theorem SR.start (fr:List Nat):SR nm fr 0 (iC [] fr (-1)):=⟨oB (by simp[gl]) _ _,cV _,rfl⟩
variable {nm}{fr:List Nat}{i:Nat}{l:Wk}
theorem SR.next (G:SR nm fr i l)(hi:i<l.length)(hl:l.length<=1048576):SR nm fr (i+1) (iC l (nm (l.getD i (0,0)).1) (i:Int)):=by
 refine⟨oB G.nodup _ _,by have:=(xc l (nm (l.getD i (0,0)).1) (i:Int)).length_le;omega,?_⟩;rw[G.rest,show 2097152-i=(2097152-(i+1))+1 by omega]
 conv=>lhs;unfold kR
 rw[if_pos hi]
theorem SR.done (G:SR nm fr i l)(hi:¬ i<l.length)(hl:l.length<=1048576):kD nm fr=l:=by
 have:=G.le;rw[G.rest,show 2097152-i=(2097152-(i+1))+1 by omega];unfold kR;rw[if_neg hi]
end
theorem DW {P:Nat->Prop}(nm:Nat->List Nat)(hn:∀ o,P o->∀ x∈nm o,eR x=2->P x):∀ (f i:Nat) (l:Wk),(∀ o∈gl l,P o)->∀ o∈gl (kR nm f i l),P o
 | 0,_,l,h=>h
 | f+1,i,l,h=>by
   unfold kR;split
   .rename_i hi;refine DW nm hn f (i+1) _ (fun o ho=>?_);rcases nv.1 ho with ho|⟨h1,h2⟩
    .exact h o ho
    .refine hn _ (h _ ?_) o h1 h2;rw[af,ae hi];exact ai.2 ⟨l[i],ax hi,rfl⟩
   .exact h
theorem N5 {P:Nat->Prop}{nm:Nat->List Nat}{fr:List Nat}(hf:∀ x∈fr,eR x=2->P x)(hn:∀ o,P o->∀ x∈nm o,eR x=2->P x):∀ o∈gl (kD nm fr),P o:=
 DW nm hn _ _ _ (fun o ho=>by
  rcases nv.1 ho with ho|⟨h1,h2⟩
  .simp[gl]at ho
  .exact hf o h1 h2)
theorem xY (nm:Nat->List Nat):∀ (f i:Nat) (l:Wk),(gl l).Nodup->(gl (kR nm f i l)).Nodup
 | 0,_,l,h=>h
 | f+1,i,l,h=>by
   unfold kR;split
   .exact xY nm f (i+1) _ (oB h _ _)
   .exact h
theorem xZ (nm:Nat->List Nat)(fr:List Nat):(gl (kD nm fr)).Nodup:=xY nm _ _ _ (oB (by simp[gl]) _ _)
theorem DX (nm:Nat->List Nat):∀ (f i:Nat) (l:Wk),l <+: kR nm f i l
 | 0,_,l=>aP _
 | f+1,i,l=>by
   unfold kR;split
   .exact (xc l _ _).trans (DX nm f (i+1) _)
   .exact aP _
def jq (h:HM)(o:Nat):List Nat:=(h.hd (o/2)).cls :: (if (h.hd (o/2)).fmt=1 then h.fields o else [])
def qp (h:HM)(o:Nat):List Nat:=(h.hd (o/2)).cls :: (if (h.hd (o/2)).apb=true then h.fields o else [])
section
variable {h:HM}{l:List Ob}
theorem K8 (G:h.Good l){o:Nat}(hi:h.isB o=true):o∈eZ l:=by
 obtain⟨a,b,c,rfl,rfl⟩:=(G.laid.apr o).1 hi;have hk:a.length<(a++b :: c).length:=by simp
 have:=nu hk;rw[List.take_left]at this;exact aL this
theorem UA (G:h.Good l){o:Nat}(ho:o∈eZ l):h.isB o=true:=by
 unfold eZ at ho;obtain⟨j,hj,rfl⟩:=ai.1 ho;exact zH G j (by simpa using hj)
theorem vu {o:Nat}(hi:h.isB o=true):eR o=2:=by
 unfold HM.isB at hi;simp only[aK]at hi;unfold kH at hi;simpa using hi.1
theorem wX (G:h.Good l){o:Nat}(hi:h.isB o=true){x:Nat}(hx:x∈qp h o)(hk:eR x=2):h.isB x=true:=by
 obtain⟨a,b,c,rfl,rfl⟩:=(G.laid.apr o).1 hi;unfold qp at hx;rw[fT,G.laid.apF,G.laid.apE]at hx;have ho:kH x=true:=by unfold kH;simpa using hk
 rcases au.1 hx with rfl|hx
 .have:=G.sound.cls b (by simp);unfold HM.apo at this;rw[aR]at this;rcases this with h0|h1
  .have h0:b.x.cls=0:=(by simpa using h0);rw[h0]at hk;simp[eR]at hk
  .exact h1
 .split at hx
  .rename_i hp;have:=G.sound.apU b (by simp) hp x hx;unfold HM.apc at this;rw[ho]at this;simpa using this
  .cases hx
theorem pZ {o x:Nat}(hx:x∈jq h o):x∈qp h o:=by
 unfold jq at hx;unfold qp;rcases au.1 hx with h1|h1
 .exact au.2 (.inl h1)
 .split at h1
  .rename_i h2;refine au.2 (.inr ?_);rw[if_pos (by unfold Hd.apb;simp[h2])];exact h1
  .cases h1
theorem wm (G:h.Good l){fr:List Nat}(hf:∀ x∈fr,h.apc x=true):∀ o∈gl (kD (jq h) fr),h.isB o=true:=
 N5 (P:=fun o=>h.isB o=true) (fun x hx hk=>by
  have:=hf x hx;unfold HM.apc kH at this;simpa[hk] using this) (fun o ho x hx hk=>wX G ho (pZ hx) hk)
theorem Kh (G:h.Good l){w:Wk}(hd:(gl w).Nodup)(hi:∀ o∈gl w,h.isB o=true):w.length<=1048576:=by
 have:=zJ (gl w) (eZ l) hd (fun o ho=>K8 G (hi o ho));have:=ki G;rw[pz]at*;omega
def gV (h:HM)(l:List Ob):List Nat:=(eZ l).filter (fun o=>decide (o∈gl (kD (jq h) h.roots)))
theorem Re (l:List Ob):(eZ l).Pairwise (· < ·):=by
 unfold eZ;rw[bW];refine List.Pairwise.imp_of_mem ?_ (bj (n:=l.length));intro a b ha hb hlt;have:=qN (l:=l) (j:=a) (k:=b) hlt (by have:=cH.1 hb;omega);omega
theorem Gy (h:HM)(l:List Ob):(gV h l).Pairwise (· < ·):=(Re l).filter _
theorem sD (G:h.Good l){o:Nat}:o∈gV h l↔o∈gl (kD (jq h) h.roots):=by
 unfold gV;rw[aI];refine⟨fun hh=>by simpa using hh.2,fun hh=>⟨K8 G (wm G G.sound.roots o hh),by simpa using hh⟩⟩
theorem Da:∀ (a b:List Nat),a.Pairwise (· < ·)->b.Pairwise (· < ·)->(∀ x,x∈a↔x∈b)->a=b
 | [],[],_,_,_=>rfl
 | [],y :: b,_,_,h=>by have:=(h y).2 (by simp);cases this
 | x :: a,[],_,_,h=>by have:=(h x).1 (by simp);cases this
 | x :: a,y :: b,ha,hb,h=>by
   rw[List.pairwise_cons]at ha hb;have QE:x=y:=by
    rcases au.1 ((h x).1 (by simp)) with h1|h1
    .exact h1
    .rcases au.1 ((h y).2 (by simp)) with h2|h2
     .exact h2.symm
     .have:=hb.1 x h1;have:=ha.1 y h2;omega
   subst QE;rw[Da a b ha.2 hb.2 (fun z=>?_)];have hz:=h z;rw[au,au]at hz;constructor
   .intro h1;rcases hz.1 (.inr h1) with rfl|h2
    .have:=ha.1 z h1;omega
    .exact h2
   .intro h1;rcases hz.2 (.inr h1) with rfl|h2
    .have:=hb.1 z h1;omega
    .exact h2
theorem Hs (G:h.Good l){s:List Nat}(hp:s.Perm (gl (kD (jq h) h.roots)))(hs:s.Pairwise (· <= ·)):s=gV h l:=by
 refine Da s (gV h l) ?_ (Gy h l) (fun x=>by rw[hp.mem_iff,sD G]);have hd:s.Nodup:=hp.nodup_iff.2 (xZ _ _);rw[aM]at hd;exact (hs.and hd).imp (fun h=>by omega)
end
end
section
open Go.RowKit
attribute [local go_sem] ak
structure yK (rg:Nat) (w w':World):Prop where
 os:w'.os=w.os
 tape:w'.tape=w.tape
 output:w'.output=w.output
 size:w.heap.size<=w'.heap.size
 same:∀ k,k<w.heap.size->k≠rg->w'.heap[k]? = w.heap[k]?
theorem yK.refl (rg:Nat)(w:World):yK rg w w:=⟨rfl,rfl,rfl,ag _,fun _ _ _=>rfl⟩
theorem yK.trans {rg:Nat}{w w' w'':World}(h:yK rg w w')(k:yK rg w' w''):yK rg w w'':=
 ⟨k.os.trans h.os,k.tape.trans h.tape,k.output.trans h.output,aC h.size k.size,fun i hi hne=>(k.same i (Nat.lt_of_lt_of_le hi h.size) hne).trans (h.same i hi hne)⟩
theorem yK.set (rg i:Nat)(w:World)(v:Value):yK rg w (w.setCell ⟨rg,i,none⟩ v):=
 ⟨rfl,rfl,rfl,by simp[bt],fun k _ hne=>Below.heap_setCell w ⟨rg,i,none⟩ v k hne⟩
theorem yK.below {rg B:Nat}{w w':World}(h:yK rg w w')(hB:B<=rg)(hw:B<=w.heap.size):Below B w w':=⟨h.os,h.tape,h.output,h.size,fun k hk=>h.same k (by omega) (by omega)⟩
theorem yK.setCells (rg:Nat):∀ (vs:List Value) (o:Nat) (w:World),yK rg w (w.setCells rg o vs)
 | [],_,w=>yK.refl _ _
 | v :: vs,o,w=>(yK.set rg o w v).trans (yK.setCells rg vs (o+1) _)
theorem Row.setCells {g c:Nat}{e:TypeId}{xs:List Value}:∀ (vs:List Value) (o:Nat) (w:World),Row w g e c xs->xs.length<=o->Row (w.setCells g o vs) g e c xs
 | [],_,w,h,_=>h
 | v :: vs,o,w,h,ho=>Row.setCells vs (o+1) _ (by have:=h.set o v;rwa[List.set_eq_of_length_le ho]at this) (by omega)
theorem Row.short {w:World}{g c:Nat}{e:TypeId}{xs:List Value}(h:Row w g e c xs)(i:Nat):Row w g e c (xs.take i):=by
 obtain⟨cur,hb,hl,hm,hc,hx⟩:=h;refine⟨cur,hb,by rw[aA];omega,hm,hc,?_⟩;rw[<-hx,List.take_take,aA];congr 1;have:cur.toList.length=c:=by simpa using hc
 have:=congrArg cN hx;simp only[aA]at this ⊢;omega
theorem Row.aqW {w:World}{g c:Nat}{e:TypeId}{xs:List Value}(h:Row w g e c xs):xs.length<=c:=by obtain⟨_,_,h1,_⟩:=h;exact h1
def k2 (o:Nat):Bool:=decide (eR o=2)
theorem xD (o:Nat)(ho:o<4294967296)(w:World):
 Calls Tryz.prog 171 #[.int .u32 o] w fun e w'=>e= .returned (.bool (k2 o))/\w=w':=by
 have HK:=aa (nQ o ho w);have HD:=aa (show ((eR o:Int) == 2)=k2 o by unfold k2;rw[ck];simp;omega);generalize eR o=kk at*;generalize k2 o=b at*;go_enter Tryz.func171,Tryz.ntmps171;go_wp2_with fail;refine HK.o.mono ?_;rintro e w' ⟨rfl,rfl⟩;go_wp2_with fail;go_ret;exact⟨by rw[<-HD.o];rfl,rfl⟩
theorem Do (o:Nat)(ho:o<4294967296)(w:World):
 Calls Tryz.prog 263 #[.int .u32 o] w fun e w'=>e= .returned (.bool (!k2 o))/\w=w':=by
 have HK:=aa (xD o ho w);generalize k2 o=b at*;go_enter Tryz.func263,Tryz.ntmps263;go_wp2_with fail;refine HK.o.mono ?_;rintro e w' ⟨rfl,rfl⟩;go_wp2_with fail;go_ret;exact⟨rfl,rfl⟩
def zV:Value:=.func (.func 263) #[] #[]
def aaM (xs:List Nat)(w:World)(e:Ending)(w':World):Prop:=
 w=w'/\((e= .returned (.int .i64 (-1))/\∀ x∈xs,k2 x=true)\/∃ j,e= .returned (.int .i64 (j:Nat))/\j<xs.length/\k2 (xs.getD j 0)=false/\∀ i,i<j->k2 (xs.getD i 0)=true)
theorem vg {xs:List Nat}(h:∀ x∈xs,x<4294967296)(k:Nat):xs.getD k 0<4294967296:=by
 rw[af]
 cases hh:xs[k]? with
 | none=>simp
 | some v=>simp;exact h v (aL hh)
theorem Jt {w:World}(A:Option Addr)(n c B:Nat)(xs:List Nat)(hn:n<=9223372036854775807)(hr:eQ w B 1 A n (eN xs))(h32:∀ x∈xs,x<4294967296):
 Calls Tryz.prog 265 #[.slice A n c,zV] w (aaM xs w):=by
 have hl:xs.length=n:=by have:=hr.1;rw[eY]at this;omega
 have HL:=aa hl;have HR:=aa hr;have HX:=aa h32;clear hl hr h32;unfold zV;go_enter Tryz.func265,Tryz.ntmps265;go_wp2_with fail
 go_loop [8] (fun i=>∃ k:Nat,k<=n/\i= .int .i64 k/\∀ i,i<k->k2 (xs.getD i 0)=true) (fun i=>n-(intOf i).toNat)
 case atStart=>exact⟨0,by omega,rfl,fun i hi=>by omega⟩
 case round=>
  obtain⟨k,hk,rfl,hno⟩:=hrel;have qX:=aa hno;clear hno;by_cases hlt:k<n
  .obtain⟨ad,u0,rfl,_,hx,hcell⟩:=HR.o.at_ hlt;rw[ft (by rw[HL.o];exact hlt)]at hx;injection hx with hx;subst hx;have HC:=aa (fun w=>Do (xs.getD k 0) (vg HX.o k) w);cases hv:k2 (xs.getD k 0)
   .have HA:=aa hv;rw[hv]at HC;clear hv;generalize hy:xs.getD k 0=y at*;have HY:=aa hy;clear hy;go_wp2_with fail;refine (HC.o _).mono ?_;rintro e w' ⟨rfl,rfl⟩;go_wp2_with fail;go_ret;exact⟨rfl,.inr ⟨k,rfl,by rw[HL.o];exact hlt,by rw[HY.o];exact HA.o,qX.o⟩⟩
   .have HA:=aa (show ∀ i,i<k+1->k2 (xs.getD i 0)=true from fun i hi=>by
     rcases aJ i k with h|h
     .exact qX.o i h
     .obtain rfl:i=k:=(by omega);exact hv)
    rw[hv]at HC;clear hv;generalize xs.getD k 0=y at hcell HC;go_wp2_with fail;refine (HC.o _).mono ?_;rintro e w' ⟨rfl,rfl⟩;go_wp2_with fail
    go_round
    case rel=>exact⟨k+1,by omega,by go_num,HA.o⟩
    case measure=>simp[intOf];omega
  .obtain rfl:k=n:=(by omega);go_wp2_with fail;go_ret;refine⟨rfl,.inl ⟨rfl,fun x hx=>?_⟩⟩;obtain⟨i,hi,rfl⟩:=aG hx;have:=qX.o i (by rw[<-HL.o];exact hi);rw[af,ae hi]at this;exact this
def Pm (g c:Nat)(xs:List Nat)(w:World)(e:Ending)(w':World):Prop:=
 e= .returned (.slice (some ⟨g,0,none⟩) (xs.filter k2).length c)/\Row w' g 54 c (eN (xs.filter k2))/\yK g w w'
structure uI (xs ys:List Nat) (i j:Nat):Prop where
 len:ys.length=xs.length
 fst:ys.take i=(xs.take j).filter k2
 rest:ys.drop j=xs.drop j
 ij:i<j
 jl:j<=xs.length
theorem uI.il {xs ys:List Nat}{i j:Nat}(D:uI xs ys i j):((xs.take j).filter k2).length=i:=by
 have:=D.ij;have:=D.jl;have:=D.len;rw[<-D.fst,aA];omega
theorem uI.start {xs:List Nat}{j:Nat}(hj:j<xs.length)(h0:k2 (xs.getD j 0)=false)(h:∀ i,i<j->k2 (xs.getD i 0)=true):uI xs xs j (j+1):=by
 refine⟨rfl,?_,rfl,by omega,by omega⟩;rw[ar,ae hj,aV];have e1:(xs.take j).filter k2=xs.take j:=by
  rw[bz];intro x hx;obtain⟨i,hi,rfl⟩:=aG hx;rw[aA]at hi;have:=h i (by omega);rw[af,ae (by omega)]at this;simpa using this
 rw[af,ae hj]at h0;have h0:k2 xs[j]=false:=by simpa using h0
 rw[e1];simp[h0]
theorem uI.get {xs ys:List Nat}{i j:Nat}(D:uI xs ys i j)(hj:j<xs.length):ys.getD j 0=xs.getD j 0:=by
 have h:(ys.drop j).getD 0 0=(xs.drop j).getD 0 0:=by rw[D.rest]
 simpa[af] using h
theorem uI.skip {xs ys:List Nat}{i j:Nat}(D:uI xs ys i j)(hj:j<xs.length)(h:k2 (xs.getD j 0)=false):uI xs ys i (j+1):=by
 have SA:=D.ij;refine⟨D.len,?_,?_,by omega,by omega⟩
 .rw[D.fst,ar,ae hj,aV];rw[af,ae hj]at h;have h:k2 xs[j]=false:=by simpa using h
  simp[h]
 .rw[<-aT,D.rest,aT]
theorem uI.keep {xs ys:List Nat}{i j:Nat}(D:uI xs ys i j)(hj:j<xs.length)(h:k2 (xs.getD j 0)=true):uI xs (ys.set i (xs.getD j 0)) (i+1) (j+1):=by
 have SA:=D.ij;have hl:=D.len;refine⟨by rw[List.length_set];exact hl,?_,?_,by omega,by omega⟩
 .rw[ar,List.getElem?_set_self (by omega),List.take_set_of_le (ag _),D.fst];rw[ar,ae hj,aV];rw[af,ae hj]at h ⊢;have h:k2 xs[j]=true:=by simpa using h
  simp[h]
 .rw[List.drop_set,if_pos (by omega),<-aT,D.rest,aT]
theorem NZ (xs:List Nat)(i:Nat):(eN xs).take i=eN (xs.take i):=by unfold eN;rw[bu]
theorem RY (xs:List Nat)(i v:Nat):eN (xs.set i v)=(eN xs).set i (.int .u32 (v:Nat)):=by unfold eN;rw[List.map_set]
theorem FO {w:World}(g c:Nat)(xs:List Nat)(hR:Row w g 54 c (eN xs))(hn:xs.length<=9223372036854775807)(h32:∀ x∈xs,x<4294967296):
 Calls Tryz.prog 262 #[.slice (some ⟨g,0,none⟩) xs.length c,zV] w (Pm g c xs w):=by
 have Fb:=hR.reads (B:=w.heap.size) hR.lt;rw[eY]at Fb;have HI:=aa (Jt (c:=c) _ xs.length w.heap.size xs hn Fb h32);have HR:=aa hR;have HX:=aa h32;have hlc:=hR.aqW;rw[eY]at hlc;clear hR Fb h32;unfold zV at HI ⊢;go_enter Tryz.func262,Tryz.ntmps262;go_wp2_with fail;refine HI.o.mono ?_;rintro e w' ⟨rfl,⟨rfl,hall⟩|⟨j,rfl,hj,Ug,hji⟩⟩
 .have HF:=aa (show xs.filter k2=xs from bz.2 hall);clear hall HI;go_wp2_with fail;go_ret;exact⟨by rw[HF.o];rfl,by rw[HF.o];exact HR.o,yK.refl _ _⟩
 .have HD0:=aa (uI.start hj Ug hji);have xH:((j:Int) == -1)=false:=by first|(simp;done)|(simp;omega)
  have hjn:j<xs.length:=hj;clear Ug hji HI hj;go_wp2_with fail
  go_loopw [5,6] (fun vi vj wr=>∃ (i j':Nat) (ys:List Nat),vi= .int .i64 i/\vj= .int .i64 j'/\uI xs ys i j'/\Row wr g 54 c (eN ys)/\yK g w wr) (fun _ vj _=>xs.length-(intOf vj).toNat)
  case atStart=>exact⟨j,j+1,xs,rfl,by go_num,HD0.o,HR.o,yK.refl _ _⟩
  case round=>
   clear HD0 HR xH hjn;obtain⟨i,j',ys,rfl,rfl,hd,hrow,hfr⟩:=hrel;have HD:=aa hd;have HW:=aa hrow;have S_:=aa hfr;have SA:=hd.ij;have XW:=hd.jl;have hyl:=hd.len;have Yi:=aa hyl;clear hd hrow hfr hyl;by_cases hlt:j'<xs.length
   .have hc1:=HW.o.cell (ft (l:=ys) (i:=j') (by rw[Yi.o];exact hlt));rw[HD.o.get hlt]at hc1;have tE:=HW.o.frozen i;have hold:=HW.o.cell (ft (l:=ys) (i:=i) (by rw[Yi.o];omega));have HC:=aa (fun w=>Do (xs.getD j' 0) (vg HX.o j') w);cases hv:k2 (xs.getD j' 0)
    .have HN:=aa (HD.o.skip hlt hv);rw[hv]at HC;clear hv;generalize xs.getD j' 0=y at hc1 HC;go_wp2_with fail;refine (HC.o _).mono ?_;rintro e w' ⟨rfl,rfl⟩;go_wp2_with fail;go_roundw
     case rel=>exact⟨i,j'+1,ys,rfl,by go_num,HN.out,HW.o,S_.o⟩
     case measure=>simp[intOf];omega
    .have HN:=aa (HD.o.keep hlt hv);rw[hv]at HC;have HS:=aa (HW.o.set i (.int .u32 (xs.getD j' 0:Nat)));have Ih:=aa (S_.o.trans (yK.set g i wr (.int .u32 (xs.getD j' 0:Nat))));rw[<-RY]at HS;clear hv;generalize xs.getD j' 0=y at hc1 HC HS Ih HN;go_wp2_with fail;refine (HC.o _).mono ?_;rintro e w' ⟨rfl,rfl⟩;go_wp2_with fail;go_roundw
     case rel=>exact⟨i+1,j'+1,ys.set i y,by go_num,by go_num,HN.out,HS.o,Ih.o⟩
     case measure=>simp[intOf];omega
   .obtain rfl:j'=xs.length:=(by omega);have HE:=aa (show Pm g c xs w (.returned (.slice (some ⟨g,0,none⟩) i c)) (wr.setCells g i (aj (xs.length-i) (.int .u32 0))) from by
     have h1:=HD.o.fst;have h2:=HD.o.il;rw[ce]at h1 h2;refine⟨by rw[h2],?_,S_.o.trans (yK.setCells g _ i wr)⟩;have h3:=HW.o.short i;rw[NZ,h1]at h3;exact h3.setCells _ i wr (by rw[eY,h2];exact ag _))
    have mh:∀ ty,(Builtin.clear_ #[101] ty #[.slice (some ⟨g,i,none⟩) (xs.length-i) (c-i)]).run Tryz.prog wr= .ok (.tuple #[]) (wr.setCells g i (aj (xs.length-i) (.int .u32 0))):=
     fun ty=>Lib.run_clear_slice wr _ _ ty _ Tryz.underlying101 Tryz.zeroValue54 rfl rfl g i _ _ (by omega) (fun t ht=>by
      rw[HW.o.cell (ft (l:=ys) (i:=i+t) (by rw[Yi.o];omega))];rfl) (fun t ht=>HW.o.frozen _)
    have hne:¬ c=i:=(by omega);have aco:¬ i=c:=(by omega);clear HD HW S_;go_wp2_with fail;go_ret;exact HE.o
theorem GZ {w:World}(g c:Nat)(xs:List Nat)(hR:Row w g 54 c (eN xs))(hn:xs.length<=9223372036854775807)(h32:∀ x∈xs,x<4294967296):
 Calls Tryz.prog 219 #[.slice (some ⟨g,0,none⟩) xs.length c] w (Pm g c xs w):=by
 have HD:=aa (FO g c xs hR hn h32);clear hR h32;unfold zV at HD;go_enter Tryz.func219,Tryz.ntmps219;go_wp2_with fail;refine HD.o.mono ?_;rintro e w' ⟨rfl,h1,h2⟩;have H1:=aa h1;have H2:=aa h2;clear h1 h2;go_wp2_with fail;go_ret;exact⟨rfl,H1.o,H2.o⟩
end
section
open Go.RowKit
attribute [local go_sem] ak
section
variable {w:World}{p:HP}{h:HM}{l:List Ob}
theorem tU (G:h.Good l){o:Nat}(hi:h.isB o=true):(h.fields o).length=(h.hd (o/2)).size:=by
 obtain⟨a,b,c,rfl,rfl⟩:=(G.laid.apr o).1 hi;rw[G.laid.apE,fT,G.laid.apF,G.laid.apP.size]
theorem Ey (G:h.Good l){o:Nat}(hi:h.isB o=true):(h.hd (o/2)).size<=65535:=by
 obtain⟨a,b,c,rfl,rfl⟩:=(G.laid.apr o).1 hi;rw[fT,G.laid.apF];have k:=G.laid.apP;have:=k.may;unfold Hd.may at this;simp at this;omega
theorem qi (G:h.Good l){o:Nat}(hi:h.isB o=true):o<4294967296:=by
 obtain⟨a,b,c,rfl,rfl⟩:=(G.laid.apr o).1 hi;have:=G.laid.words_len;have:=G.fit.room;have:=G.fit.hi;omega
theorem QJ (H:fO w p h)(G:h.Good l)(hs:eX w){o:Nat}(hi:h.isB o=true)(hp:(h.hd (o/2)).apb=true)(i:Nat)(hlt:i<(h.fields o).length):
 Calls Tryz.prog 175 #[ptr p.g,.int .u32 o,.int .i64 i] w (Told (.tuple #[.int .u32 ((h.fields o).getD i 0:Nat),.int .i64 0]) w):=by
 have ho:=qi G hi;have hG:=yA H G.fit G.laid.heads hs o ho (i:Int);have uD:=tU G hi;have Un:(h.hd (o/2)).fmt=1\/(h.hd (o/2)).fmt=4:=by
  unfold Hd.apb at hp;simpa using hp
 have SB:(h.hd (o/2)).len=(h.hd (o/2)).size:=by unfold Hd.len;rw[if_neg (by omega)]
 have he:h.ape o (i:Int) [1,4]=0:=by
  unfold HM.ape;rw[hi,if_neg (by decide),if_neg (by rcases Un with e|e <;> rw[e] <;> decide),if_neg (by omega)]
 have hw:fw h o i=(h.fields o).getD i 0:=by
  obtain⟨a,b,c,rfl,rfl⟩:=(G.laid.apr o).1 hi;rw[G.laid.apE]at hlt ⊢;exact G.laid.aqp i hlt
 unfold HM.ap2 at hG;rw[he,if_pos rfl,Int.toNat_natCast,hw]at hG;exact hG
def Cg (h:HM)(o:Nat)(held:Bool):List Nat:=if held then jq h o else qp h o
def wG (os:List Nat)(w:World)(e:Ending)(w':World):Prop:=
 ∃ g c,e= .returned (.slice (some ⟨g,0,none⟩) (os.filter k2).length c)/\w.heap.size<=g/\Row w' g 54 c (eN (os.filter k2))/\Below w.heap.size w w'
theorem Q0 (G:h.Good l){o:Nat}(hi:h.isB o=true):∀ x∈qp h o,x<4294967296:=by
 obtain⟨a,b,c,rfl,rfl⟩:=(G.laid.apr o).1 hi;intro x hx;unfold qp at hx;rw[fT,G.laid.apF,G.laid.apE]at hx;have k:=G.laid.apP;rcases au.1 hx with rfl|hx
 .exact k.fit.cls
 .split at hx
  .exact k.f32 x hx
  .cases hx
theorem JG (G:h.Good l){o:Nat}(hi:h.isB o=true)(held:Bool):∀ x∈Cg h o held,x<4294967296:=by
 intro x hx;refine Q0 G hi x ?_;unfold Cg at hx;split at hx
 .exact pZ hx
 .exact hx
theorem EK (x:Nat):∀ u∈eN [x],u.oneCell'=true:=by
 intro u hu;rcases aU.1 hu with rfl;rfl
theorem nZ (a b:List Nat):eN (a++b)=eN a++eN b:=by unfold eN;rw[cz]
theorem Rg (w:World)(xs:List Nat)(n:Nat)(hl:xs.length=n)(hn:n<=maxLen):(w.alloc (.cells (eN xs).toArray 54)).ownsRow w.heap.size 54 1 (.slice (some ⟨w.heap.size,0,none⟩) n n) n (eN xs):=by
 subst hl;exact⟨by simp[eY],.inr ⟨w.heap.size,xs.length,(eN xs).toArray,rfl,ag _,heap_alloc_new w _,ag _,hn,by simp[eY],by rw[Nat.mul_one,aB (by simp[eN])]⟩⟩
theorem zY {w:World}{B B' s n:Nat}{e:TypeId}{v:Value}{xs:List Value}(h:w.ownsRow B e s v n xs)(hb:B'<=B):w.ownsRow B' e s v n xs:=by
 refine⟨h.1,?_⟩;rcases h.2 with h1|⟨g,cap,cur,h1,h2,h3⟩
 .exact .inl h1
 .exact .inr ⟨g,cap,cur,h1,aC hb h2,h3⟩
theorem mC {w w':World}{B s n:Nat}{e:TypeId}{v:Value}{xs:List Value}(h:w.ownsRow B e s v n xs)(hb:Below w.heap.size w w'):w'.ownsRow B e s v n xs:=by
 refine⟨h.1,?_⟩;rcases h.2 with h1|⟨g,cap,cur,h1,h2,h3,h4⟩
 .exact .inl h1
 .exact .inr ⟨g,cap,cur,h1,h2,(hb.block g (fA h3)).trans h3,h4⟩
theorem vO {w w3:World}{os:List Nat}{v:Value}(hown:w3.ownsRow w.heap.size 54 1 v os.length (eN os))(h0:0<os.length)(hn:os.length<=9223372036854775807)(h32:∀ x∈os,x<4294967296)(hb:Below w.heap.size w w3):
 Calls Tryz.prog 219 #[v] w3 (wG os w):=by
 obtain⟨g,c,rfl,hr,_,hg⟩:=Row.apk hown h0;refine (GZ g c os hr hn h32).mono ?_;rintro e w4 ⟨rfl,hr4,hf⟩;exact⟨g,c,rfl,hg,hr4,hb.trans (hf.below hg hb.size)⟩
theorem Dh (H:fO w p h)(G:h.Good l)(hs:eX w){o:Nat}(hi:h.isB o=true)(held:Bool):
 Calls Tryz.prog 261 #[ptr p.g,.int .u32 o,.bool held] w (wG (Cg h o held) w):=by
 have HH:=aa (jm H G.fit G.laid.heads hs o (qi G hi));have hV:h.api o= .tuple #[(h.hd (o/2)).val,.int .i64 0]:=by unfold HM.api;simp[hi]
 rw[hV]at HH;have HG:=aa (fun (w':World) (hb:Below w.heap.size w w') (hp:(h.hd (o/2)).apb=true) i hlt=>QJ (H.below hb) G (hs.below hb) hi hp i hlt);have h32:=JG G hi held;have uD:=tU G hi;have hsz:=Ey G hi;have HN:=aa (show Cg h o held=(h.hd (o/2)).cls :: (if (if held=true then (h.hd (o/2)).fmt=1 else (h.hd (o/2)).apb=true) then h.fields o else []) from by
  unfold Cg jq qp;cases held <;> simp)
 clear hV H G hs hi;generalize h.hd (o/2)=X at*;generalize h.fields o=fs at*;generalize Cg h o held=ns at*;have yL:=aa h32;clear h32;obtain⟨i0,iF,hz0,hz1,hz2⟩:=info_parts lZ;obtain⟨n,t,s,c,r⟩:=X;simp only at HG HN uD hsz;unfold Hd.val at HH;unfold ptr at HH HG ⊢;go_enter Tryz.func261,Tryz.ntmps261;go_wp2_with fail;refine HH.o.mono ?_;rintro e w1 ⟨rfl,hb1⟩;have hb2:=hb1.alloc hb1.size (.cells #[.int .i64 (n:Int),.int .i64 (t:Int),.int .i64 (s:Int),.int .u32 (c:Int),.int .u32 (r:Int)] 75);have BX:=aa ((eW.new w1 75 #[.int .i64 (n:Int),.int .i64 (t:Int),.int .i64 (s:Int),.int .u32 (c:Int),.int .u32 (r:Int)]).alloc (.cells #[.int .u32 (c:Int)] 54));have hown:=Rg (w1.alloc (.cells #[.int .i64 (n:Int),.int .i64 (t:Int),.int .i64 (s:Int),.int .u32 (c:Int),.int .u32 (r:Int)] 75)) [c] 1 rfl (by decide);rw[aX]at hown;have HOW:=aa (show ((w1.alloc (.cells #[.int .i64 (n:Int),.int .i64 (t:Int),.int .i64 (s:Int),.int .u32 (c:Int),.int .u32 (r:Int)] 75)).alloc (.cells #[.int .u32 (c:Int)] 54)).ownsRow w.heap.size 54 1 (.slice (some ⟨w1.heap.size+1,0,none⟩) 1 1) 1 (eN [c]) from zY hown (by have:=hb1.size;omega));have ig:=aa (hb2.alloc hb2.size (.cells #[.int .u32 (c:Int)] 54));clear hb1 hb2 HH hown;go_upto_region 3 with fail;generalize (w1.alloc (.cells #[.int .i64 (n:Int),.int .i64 (t:Int),.int .i64 (s:Int),.int .u32 (c:Int),.int .u32 (r:Int)] 75)).alloc (.cells #[.int .u32 (c:Int)] 54)=W3 at*;obtain⟨x0,x1,x2,x3,x4⟩:=BX.out.apd;clear BX;have HPD:∀ b,Hd.apb ⟨n,b,s,c,r⟩=(decide (b=1) || decide (b=4)):=fun _=>rfl;by_cases h1:t=1
 .have XU:((t:Int) == 1)=true:=by simp;omega
  have uM:=aa (show Hd.apb ⟨n,t,s,c,r⟩=true by simp[Hd.apb,h1]);have Bf:=aa (show ns=c :: fs by rw[HN.out];cases held <;> simp[Hd.apb,h1]);clear HN HPD h1;go_wp2_with fail;clear x0 x1 x2 x3 x4
  go_loopw [9,10,11,12,36] (fun lv _ _ _ iv wr=>∃ k:Nat,iv= .int .i64 k/\k<=n/\wr.ownsRow w.heap.size 54 1 lv (k+1) (eN (c :: fs.take k))/\Below w.heap.size w wr) (fun _ _ _ _ iv _=>n-(intOf iv).toNat)
  case atStart=>exact⟨0,rfl,by omega,HOW.o,ig.o⟩
  case round=>
   clear HOW ig;obtain⟨k,rfl,hk,hown,hb⟩:=hrel;have HOW:=aa hown;have HB:=aa hb;clear hown hb;by_cases hlt:k<n
   .have Ii:=aa (HG.o wr HB.o uM.o k (by rw[uD];exact hlt));have Uq:eN (c :: fs.take k)++eN [fs.getD k 0]=eN (c :: fs.take (k+1)):=by
     rw[<-nZ,aO,ar,ae (by rw[uD];exact hlt),af,ae (by rw[uD];exact hlt)];rfl
    have wD:=aa Uq;clear Uq;generalize fs.getD k 0=y at Ii wD;go_wp2_with fail;refine Ii.o.mono ?_;rintro e w5 ⟨rfl,iW⟩;have Ec:=aa (mC HOW.o iW);have jL:=aa (HB.o.trans (iW.mono HB.o.size));have hBw:w.heap.size<=w5.heap.size:=jL.o.size;clear iW HOW Ii HB;go_wp2_with (at_builtin;refine eM _ rfl (.tmp 46) (.tmp 48) _ rfl w.heap.size 54 i0 _ 1 4 Tryz.underlying101 iF hz0 hz1 hz2 rfl (by omega) u9 (k+1) _ rfl (Ec.o.alloc _) (w5.heap.size+1) (some ⟨w5.heap.size,0,none⟩) 1 1 (eN [y]) rfl ⟨rfl,fun _=>⟨_,rfl,by simp,cell_one_new _ _ _⟩⟩ (EK _) (by simp only[maxLen];omega) (by omega) (by simp;omega) ?_;intro v1 w6 kC hgrow T6);go_roundw
    case rel=>
     exact⟨k+1,by go_num,by omega,by rw[<-wD.o];exact kC,je (ag _) (jL.o.alloc jL.o.size _) hgrow (fun q hq=>(Ec.o.lt q hq).1)⟩
    case measure=>simp[intOf];omega
   .obtain rfl:k=n:=(by omega);have X6:ns=c :: fs.take k:=(by rw[Bf.o,aB (by rw[uD];exact ag _)]);have wA:ns.length=k+1:=(by rw[X6];simp;omega);have HE:=aa (vO (w:=w) (os:=ns) (by rw[wA,X6];exact HOW.o) (by omega) (by omega) yL.o HB.o);clear HOW HB X6;go_wp2_with fail;refine HE.o.mono ?_;rintro e w7 ⟨g7,c7,rfl,h71,h72,h73⟩;have H7:=aa (show wG ns w (.returned (.slice (some ⟨g7,0,none⟩) (ns.filter k2).length c7)) w7 from⟨g7,c7,rfl,h71,h72,h73⟩);clear h71 h72 h73 HE;go_wp2_with fail;go_ret;exact H7.o
 by_cases h4:t=4
 .have XU:((t:Int) == 1)=false:=by simp;omega
  have hi4:((t:Int) == 4)=true:=by simp;omega
  cases held with
  | false=>
    have uM:=aa (show Hd.apb ⟨n,t,s,c,r⟩=true by simp[Hd.apb,h4]);have Bf:=aa (show ns=c :: fs by rw[HN.out];simp[Hd.apb,h4]);clear HN HPD h1 h4;go_wp2_with fail;clear x0 x1 x2 x3 x4
    go_loopw [9,10,11,12,36] (fun lv _ _ _ iv wr=>∃ k:Nat,iv= .int .i64 k/\k<=n/\wr.ownsRow w.heap.size 54 1 lv (k+1) (eN (c :: fs.take k))/\Below w.heap.size w wr) (fun _ _ _ _ iv _=>n-(intOf iv).toNat)
    case atStart=>exact⟨0,rfl,by omega,HOW.o,ig.o⟩
    case round=>
     clear HOW ig;obtain⟨k,rfl,hk,hown,hb⟩:=hrel;have HOW:=aa hown;have HB:=aa hb;clear hown hb;by_cases hlt:k<n
     .have Ii:=aa (HG.o wr HB.o uM.o k (by rw[uD];exact hlt));have Uq:eN (c :: fs.take k)++eN [fs.getD k 0]=eN (c :: fs.take (k+1)):=by
       rw[<-nZ,aO,ar,ae (by rw[uD];exact hlt),af,ae (by rw[uD];exact hlt)];rfl
      have wD:=aa Uq;clear Uq;generalize fs.getD k 0=y at Ii wD;go_wp2_with fail;refine Ii.o.mono ?_;rintro e w5 ⟨rfl,iW⟩;have Ec:=aa (mC HOW.o iW);have jL:=aa (HB.o.trans (iW.mono HB.o.size));have hBw:w.heap.size<=w5.heap.size:=jL.o.size;clear iW HOW Ii HB;go_wp2_with (at_builtin;refine eM _ rfl (.tmp 46) (.tmp 48) _ rfl w.heap.size 54 i0 _ 1 4 Tryz.underlying101 iF hz0 hz1 hz2 rfl (by omega) u9 (k+1) _ rfl (Ec.o.alloc _) (w5.heap.size+1) (some ⟨w5.heap.size,0,none⟩) 1 1 (eN [y]) rfl ⟨rfl,fun _=>⟨_,rfl,by simp,cell_one_new _ _ _⟩⟩ (EK _) (by simp only[maxLen];omega) (by omega) (by simp;omega) ?_;intro v1 w6 kC hgrow T6);go_roundw
      case rel=>
       exact⟨k+1,by go_num,by omega,by rw[<-wD.o];exact kC,je (ag _) (jL.o.alloc jL.o.size _) hgrow (fun q hq=>(Ec.o.lt q hq).1)⟩
      case measure=>simp[intOf];omega
     .obtain rfl:k=n:=(by omega);have X6:ns=c :: fs.take k:=(by rw[Bf.o,aB (by rw[uD];exact ag _)]);have wA:ns.length=k+1:=(by rw[X6];simp;omega);have HE:=aa (vO (w:=w) (os:=ns) (by rw[wA,X6];exact HOW.o) (by omega) (by omega) yL.o HB.o);clear HOW HB X6;go_wp2_with fail;refine HE.o.mono ?_;rintro e w7 ⟨g7,c7,rfl,h71,h72,h73⟩;have H7:=aa (show wG ns w (.returned (.slice (some ⟨g7,0,none⟩) (ns.filter k2).length c7)) w7 from⟨g7,c7,rfl,h71,h72,h73⟩);clear h71 h72 h73 HE;go_wp2_with fail;go_ret;exact H7.o
  | true=>
    have Bf:=aa (show ns=[c] by rw[HN.out];simp[h4]);clear HN HPD h1 h4 HG;have HE:=aa (vO (w:=w) (os:=ns) (by rw[Bf.o];exact HOW.o) (by rw[Bf.o];simp) (by rw[Bf.o];simp) yL.o ig.o);have wA:ns.length=1:=(by rw[Bf.o];rfl);clear HOW ig Bf;go_wp2_with fail;refine HE.o.mono ?_;rintro e w7 ⟨g7,c7,rfl,h71,h72,h73⟩;have H7:=aa (show wG ns w (.returned (.slice (some ⟨g7,0,none⟩) (ns.filter k2).length c7)) w7 from⟨g7,c7,rfl,h71,h72,h73⟩);clear h71 h72 h73 HE;go_wp2_with fail;go_ret;exact H7.o
 .have XU:((t:Int) == 1)=false:=by simp;omega
  have hi4:((t:Int) == 4)=false:=by simp;omega
  have Bf:=aa (show ns=[c] by rw[HN.out];cases held <;> simp[Hd.apb,h1,h4]);clear HN HPD h1 h4 HG;have HE:=aa (vO (w:=w) (os:=ns) (by rw[Bf.o];exact HOW.o) (by rw[Bf.o];simp) (by rw[Bf.o];simp) yL.o ig.o);have wA:ns.length=1:=by rw[Bf.o];rfl
  clear HOW ig Bf;go_wp2_with fail;refine HE.o.mono ?_;rintro e w7 ⟨g7,c7,rfl,h71,h72,h73⟩;have H7:=aa (show wG ns w (.returned (.slice (some ⟨g7,0,none⟩) (ns.filter k2).length c7)) w7 from⟨g7,c7,rfl,h71,h72,h73⟩);clear h71 h72 h73 HE;go_wp2_with fail;go_ret;exact H7.o
end
end
section
open Go.RowKit
theorem FX {α:Type}{l l':List α}{d:α}(hp:l <+: l'){j:Nat}(hj:j<l.length):l'.getD j d=l.getD j d:=by
 obtain⟨t,rfl⟩:=hp;exact oI _ _ _ _ hj
theorem Bb (nm:Nat->List Nat):∀ (f i:Nat) (l:Wk),(kR nm f i l).length<f+i->(∀ j,j<i->j<l.length->∀ x∈nm (l.getD j (0,0)).1,eR x=2->x∈gl l)->
 ∀ j,j<(kR nm f i l).length->∀ x∈nm ((kR nm f i l).getD j (0,0)).1,eR x=2->x∈gl (kR nm f i l)
 | 0,i,l,hf,h=>by
   intro j hj x hx hk;unfold kR at hf hj hx ⊢;exact h j (by omega) hj x hx hk
 | f + 1,i,l,hf,h=>by
   by_cases hi:i<l.length
   .have e:kR nm (f+1) i l=kR nm f (i+1) (iC l (nm (l.getD i (0,0)).1) (i:Int)):=by
     conv=>lhs;unfold kR
     rw[if_pos hi]
    rw[e]at hf ⊢;refine Bb nm f (i+1) _ (by omega) (fun j hj XW x hx hk=>?_);have hp:=xc l (nm (l.getD i (0,0)).1) (i:Int);rcases aJ j i with h1|h1
    .rw[FX hp (by omega)]at hx;exact nv.2 (.inl (h j h1 (by omega) x hx hk))
    .obtain rfl:j=i:=(by omega);rw[FX hp hi]at hx;exact nv.2 (.inr ⟨hx,hk⟩)
   .have e:kR nm (f+1) i l=l:=(by unfold kR;rw[if_neg hi]);rw[e]at hf ⊢;intro j hj x hx hk;exact h j (by omega) hj x hx hk
theorem QW {l:Wk}{o:Nat}(h:o∈gl l):∃ j,j<l.length/\(l.getD j (0,0)).1=o:=by
 unfold gl at h;obtain⟨p,hp,rfl⟩:=ai.1 h;obtain⟨j,hj,rfl⟩:=aG hp;exact⟨j,hj,by rw[af,ae hj];rfl⟩
section
variable {h:HM}{l:List Ob}
theorem H0 (G:h.Good l){fr:List Nat}(hf:∀ x∈fr,h.apc x=true):(kD (jq h) fr).length<=1048576:=Kh G (xZ _ _) (wm G hf)
theorem N7 (G:h.Good l){fr:List Nat}(hf:∀ x∈fr,h.apc x=true){o x:Nat}(ho:o∈gl (kD (jq h) fr))(hx:x∈jq h o)(hk:eR x=2):x∈gl (kD (jq h) fr):=by
 obtain⟨j,hj,rfl⟩:=QW ho;have hl:=H0 G hf;exact Bb (jq h) 2097152 0 _ (by unfold kD at hl;omega) (fun j hj=>by omega) j hj x hx hk
theorem N6 {nm:Nat->List Nat}{fr:List Nat}{x:Nat}(hx:x∈fr)(hk:eR x=2):x∈gl (kD nm fr):=by
 obtain⟨t,ht⟩:=DX nm 2097152 0 (iC [] fr (-1));unfold kD;rw[<-ht];unfold gl;rw[cz];exact List.mem_append_left _ (nv.2 (.inr ⟨hx,hk⟩))
def fH (h:HM)(l:List Ob):List (Nat × Ob):=((eZ l).zip l).filter (fun p=>decide (p.1∈gl (kD (jq h) h.roots)))
theorem jW (h:HM)(l:List Ob):(fH h l).map (·.1)=gV h l:=by
 unfold gV;have e:eZ l=((eZ l).zip l).map (·.1):=(List.map_fst_zip (by rw[fZ];exact ag _)).symm
 conv=>rhs;rw[e]
 rw[List.filter_map];rfl
theorem C5 (h:HM)(l:List Ob):(fH h l).length=(gV h l).length:=by rw[<-jW,bg]
theorem pu (h:HM)(l:List Ob):((fH h l).map (·.2)).Sublist l:=by
 have e:l=((eZ l).zip l).map (·.2):=(List.map_snd_zip (by rw[fZ];exact ag _)).symm
 conv=>rhs;rw[e]
 exact List.Sublist.map _ List.filter_sublist
theorem nk {p:Nat × Ob}(hp:p∈fH h l):∃ j,∃ hj:j<l.length,p.1=2*eG (l.take j)/\p.2=l[j]/\p.1∈gl (kD (jq h) h.roots):=by
 unfold fH at hp;rw[aI]at hp;obtain⟨hz,hd⟩:=hp;obtain⟨j,hj,rfl⟩:=aG hz;rw[List.length_zip,fZ]at hj;have hj':j<l.length:=by omega
 refine⟨j,hj',?_,?_,by simpa using hd⟩
 .rw[cg];have:=nu hj';rw[ae (by rw[fZ];exact hj')]at this;injection this
 .rw[cg]
theorem rE (h:HM)(l:List Ob):((fH h l).map (·.1)).Nodup:=by
 rw[jW,aM];exact (Gy h l).imp (fun h=>by omega)
theorem zI (G:h.Good l){p:Nat × Ob}(hp:p∈fH h l):jq h p.1=p.2.x.cls :: (if p.2.x.fmt=1 then p.2.fs else []):=by
 obtain⟨j,hj,h1,h2,_⟩:=nk hp;have L:=G.laid;rw[kj l j hj]at L;unfold jq;rw[h1,fT,L.apF,L.apE,h2]
def mP:Nat->List (Nat × Ob)->List (Nat × Nat)
 | _,[]=>[]
 | a,p :: r=>(p.1,2*a) :: mP (a+3+p.2.fs.length) r
def eV (h:HM)(l:List Ob):List (Nat × Nat):=mP 1 (fH h l)
theorem DF:∀ (a:Nat) (z:List (Nat × Ob)),(mP a z).length=z.length
 | _,[]=>rfl
 | a,p :: r=>by simp[mP,DF]
theorem DC:∀ (a:Nat) (z:List (Nat × Ob)),(mP a z).map (·.1)=z.map (·.1)
 | _,[]=>rfl
 | a,p :: r=>by simp[mP,DC]
theorem DD:∀ (a:Nat) (z:List (Nat × Ob)) (k:Nat) (hk:k<z.length),(mP a z)[k]? = some ((z[k]).1,2*(a+(fV ((z.take k).map (·.2))).length))
 | a,p :: r,0,_=>by simp[mP,km]
 | a,p :: r,k+1,hk=>by
   have:=DD (a+3+p.2.fs.length) r k (by simpa using hk);simp only[mP,a8,List.getElem_cons_succ,List.take_succ_cons,bv,fD,ah,Ob.apt];rw[this];congr 3;omega
theorem jA (h:HM)(l:List Ob):(eV h l).map (·.1)=gV h l:=by unfold eV;rw[DC,jW]
def lX (pl:List (Nat × Nat))(x:Nat):Nat:=((pl.find? (fun p=>p.1 == x)).map (·.2)).getD 0
def fC (pl:List (Nat × Nat))(x:Nat):Nat:=if eR x=2 then lX pl x else x
theorem FY {pl:List (Nat × Nat)}{x:Nat}(h:x∉pl.map (·.1)):lX pl x=0:=by
 unfold lX;have h0:pl.find? (fun p=>p.1 == x)=none:=by
  rw[bE];intro p hp he;exact h (ai.2 ⟨p,hp,by simpa using he⟩)
 rw[h0];rfl
theorem zt {pl:List (Nat × Nat)}(hd:(pl.map (·.1)).Nodup){k:Nat}{p:Nat × Nat}(hk:pl[k]? = some p):lX pl p.1=p.2:=by
 induction pl generalizing k with
 | nil=>cases hk
 | cons q pl ih=>
   rw[bv,cu]at hd
   cases k with
   | zero=>
     rw[List.getElem?_cons_zero]at hk;injection hk with hk;subst hk;simp[lX]
   | succ k=>
     rw[a8]at hk;have hne:(q.1 == p.1)=false:=by
      rw[beq_eq_false_iff_ne];intro e;exact hd.1 (e ▸ ai.2 ⟨p,aL hk,rfl⟩)
     have:=ih hd.2 hk;unfold lX at this ⊢;rw[List.find?_cons,hne];exact this
def tW (pl:List (Nat × Nat))(void x:Nat):Nat:=if eR x=2/\x∉pl.map (·.1) then void else fC pl x
def j6 (pl:List (Nat × Nat))(void:Nat)(b:Ob):Ob:=⟨{ b.x with cls:=fC pl b.x.cls },if b.x.apb then b.fs.map (tW pl void) else b.fs⟩
def kQ (h:HM)(l:List Ob):Nat:=fC (eV h l) (h.roots.getD 0 0)
def gZ (h:HM)(l:List Ob):List Ob:=(fH h l).map (fun p=>j6 (eV h l) (kQ h l) p.2)
def tT (h:HM)(l:List Ob):List Nat:=h.roots.map (fC (eV h l))
def jP (h:HM)(l:List Ob):HM:=HM.apj h.size (0 :: fV (gZ h l)) (tT h l) h.last
theorem pH (pl:List (Nat × Nat))(void:Nat)(b:Ob):(j6 pl void b).fs.length=b.fs.length:=by unfold j6;simp only;split <;> simp
theorem D8 {g:Ob->Ob}(hg:∀ b,(g b).fs.length=b.fs.length)(L:List Ob):(fV (L.map g)).length=(fV L).length:=by
 induction L with
 | nil=>rfl
 | cons b L ih=>rw[bv,fD,fD,ah,ah,ih,Ob.apt,Ob.apt,hg]
theorem r9 {a b:List Ob}(h:a.Sublist b):(fV a).length<=(fV b).length:=by
 induction h with
 | slnil=>exact ag _
 | cons x _ ih=>rw[fD,ah];omega
 | cons_cons x _ ih=>rw[fD,fD,ah,ah];omega
theorem Eo (h:HM)(l:List Ob):gZ h l=((fH h l).map (·.2)).map (j6 (eV h l) (kQ h l)):=by unfold gZ;rw[cM];rfl
theorem o9 (h:HM)(l:List Ob):(gZ h l).length=(fH h l).length:=by unfold gZ;rw[bg]
theorem zh (h:HM)(l:List Ob):(fV (gZ h l)).length<=(fV l).length:=by
 rw[Eo,D8 (pH _ _)];exact r9 (pu h l)
theorem G_ (h:HM)(l:List Ob){k:Nat}(hk:k<(fH h l).length):(eV h l)[k]? = some (((fH h l)[k]).1,2*eG ((gZ h l).take k)):=by
 unfold eV;rw[DD 1 _ k hk];congr 3;unfold eG;rw[Eo,<-bu,D8 (pH _ _),bu]
theorem CO (h:HM)(l:List Ob){o:Nat}(ho:o∈gV h l):∃ k,k<(gZ h l).length/\lX (eV h l) o=2*eG ((gZ h l).take k):=by
 rw[<-jW]at ho;obtain⟨p,hp,rfl⟩:=ai.1 ho;obtain⟨k,hk,rfl⟩:=aG hp;refine⟨k,by rw[o9];exact hk,?_⟩;exact zt (by rw[jA,<-jW];exact rE h l) (G_ h l hk)
theorem Ci (L:List Ob)(k:Nat):eG (L.take k)<=1+(fV L).length:=by
 unfold eG;have:=r9 (List.take_sublist k L);omega
theorem KM (G:h.Good l)(o:Nat):lX (eV h l) o<4294967296:=by
 by_cases ho:o∈gV h l
 .obtain⟨k,hk,e⟩:=CO h l ho;rw[e];have h1:=Ci (gZ h l) k;have h2:=zh h l;have h3:=G.fit.room;have h4:=G.fit.hi;rw[G.laid.words,az]at h3;omega
 .rw[FY (by rw[jA];exact ho)];decide
theorem rY (G:h.Good l){o:Nat}(ho:o<4294967296):fC (eV h l) o<4294967296:=by
 unfold fC;split
 .exact KM G o
 .exact ho
theorem Ry (G:h.Good l)(i:Nat):h.roots.getD i 0<4294967296:=by
 rw[af]
 cases hh:h.roots[i]? with
 | none=>simp
 | some v=>simp;exact G.fit.r32 v (aL hh)
theorem Lt (G:h.Good l):kQ h l<4294967296:=rY G (Ry G 0)
theorem Xu (G:h.Good l){o:Nat}(ho:o<4294967296):tW (eV h l) (kQ h l) o<4294967296:=by
 unfold tW;split
 .exact Lt G
 .exact rY G ho
theorem Rx (G:h.Good l){b:Ob}(k:b.Ok):(j6 (eV h l) (kQ h l) b).Ok:=by
 refine⟨⟨k.fit.size,k.fit.fmt,k.fit.spare,rY G k.fit.cls,k.fit.ser⟩,k.may,by rw[pH];exact k.size,fun f hf=>?_⟩;unfold j6 at hf;simp only at hf;split at hf
 .obtain⟨g,hg,rfl⟩:=ai.1 hf;exact Xu G (k.f32 g hg)
 .exact k.f32 f hf
theorem QI (G:h.Good l){p:Nat × Ob}(hp:p∈fH h l):p.2.Ok:=by
 obtain⟨j,hj,_,h2,_⟩:=nk hp;rw[h2];exact G.laid.ok _ (ax hj)
theorem Ep (G:h.Good l):∀ b∈gZ h l,b.Ok:=by
 intro b hb;unfold gZ at hb;obtain⟨p,hp,rfl⟩:=ai.1 hb;exact Rx G (QI G hp)
theorem wN (G:h.Good l):ix (0 :: fV (gZ h l))=some (gZ h l):=Ah (Ep G)
theorem PL (G:h.Good l):(jP h l).Laid (gZ h l):=
 ⟨rfl,by show false :: iE ((ix (0 :: fV (gZ h l))).getD [])=_;rw[wN G];rfl,Ep G⟩
theorem Er (G:h.Good l){o:Nat}(ho:o∈gV h l):(jP h l).isB (lX (eV h l) o)=true:=by
 obtain⟨k,hk,e⟩:=CO h l ho;rw[e];exact ((PL G).apr _).2 ⟨_,_,_,kj _ k hk,rfl⟩
theorem vC (G:h.Good l){p:Nat × Ob}(hp:p∈fH h l){x:Nat}(hx:x∈jq h p.1)(hk:eR x=2):x∈gV h l:=by
 obtain⟨j,hj,h1,h2,h3⟩:=nk hp;exact (sD G).2 (N7 G G.sound.roots h3 hx hk)
theorem ql (G:h.Good l){x:Nat}(hx:x∈h.roots)(hk:eR x=2):x∈gV h l:=(sD G).2 (N6 hx hk)
theorem xm (G:h.Good l){x:Nat}(hx:eR x=2->x∈gV h l):(jP h l).apc (fC (eV h l) x)=true:=by
 unfold HM.apc;rw[aR];unfold fC;by_cases hk:eR x=2
 .rw[if_pos hk];exact .inr (Er G (hx hk))
 .rw[if_neg hk];exact .inl (by unfold kH;simpa using hk)
theorem R_ (G:h.Good l):(jP h l).apc (kQ h l)=true:=
 xm G (fun hk=>by
  refine ql G ?_ hk;rw[af,ae (by rw[G.fit.roots];omega)];exact ax _)
theorem TR (G:h.Good l)(x:Nat):(jP h l).apc (tW (eV h l) (kQ h l) x)=true:=by
 unfold tW;split
 .exact R_ G
 .rename_i hn;exact xm G (fun hk=>Classical.byContradiction fun hc=>hn ⟨hk,by rw[jA];exact hc⟩)
theorem CK (G:h.Good l):(jP h l).apx (gZ h l):=by
 have acR:=pu h l;have kM:∀ p∈fH h l,p.2∈l:=fun p hp=>acR.subset (ai.2 ⟨p,hp,rfl⟩);refine⟨fun b hb=>?_,fun b hb sw f hf=>?_,fun b hb hf=>?_,fun b hb=>?_,?_,fun r hr=>?_⟩
 .unfold gZ at hb;obtain⟨p,hp,rfl⟩:=ai.1 hb;show (jP h l).apo (fC (eV h l) p.2.x.cls)=true;have hc:=G.sound.cls p.2 (kM p hp);unfold HM.apo at hc ⊢;rw[aR]at hc ⊢;rcases hc with hc|hc
  .have hc:p.2.x.cls=0:=(by simpa using hc);rw[hc];exact .inl (by simp[fC,eR])
  .have hk:=vu hc;unfold fC;rw[if_pos hk];exact .inr (Er G (vC G hp (by rw[zI G hp];simp) hk))
 .unfold gZ at hb;obtain⟨p,hp,rfl⟩:=ai.1 hb;unfold j6 at hf;simp only at hf;split at hf
  .obtain⟨g,hg,rfl⟩:=ai.1 hf;exact TR G g
  .rename_i hno;exact absurd sw hno
 .unfold gZ at hb;obtain⟨p,hp,rfl⟩:=ai.1 hb;have hf2:p.2.x.fmt=2:=hf;have hnp:p.2.x.apb=false:=by unfold Hd.apb;simp[hf2]
  unfold j6;simp only[hnp,bF,if_false];exact G.sound.spare p.2 (kM p hp) hf2
 .unfold gZ at hb;obtain⟨p,hp,rfl⟩:=ai.1 hb;exact G.sound.aqs p.2 (kM p hp)
 .have e:(gZ h l).map (fun o=>o.x.ser)=((fH h l).map (·.2)).map (fun o=>o.x.ser):=by
   rw[Eo,cM];rfl
  rw[e];exact (acR.map _).nodup G.sound.nodup
 .unfold jP HM.apj tT at hr;obtain⟨x,hx,rfl⟩:=ai.1 hr;exact xm G (fun hk=>ql G hx hk)
theorem KF (G:h.Good l):∀ x∈0 :: fV (gZ h l),x<4294967296:=by
 intro x hx;rcases au.1 hx with rfl|hx
 .decide
 .unfold fV at hx;obtain⟨b,hb,hx⟩:=List.mem_flatMap.1 hx;have k:=Ep G b hb;have:=Hy k.fit;unfold Ob.ws at hx;simp only[au]at hx;rcases hx with rfl|rfl|rfl|hx
  .omega
  .exact k.fit.cls
  .exact k.fit.ser
  .exact k.f32 x hx
theorem KE (G:h.Good l):∀ x∈tT h l,x<4294967296:=by
 intro x hx;unfold tT at hx;obtain⟨y,hy,rfl⟩:=ai.1 hx;exact rY G (G.fit.r32 y hy)
theorem zi (G:h.Good l):(0 :: fV (gZ h l)).length<=h.words.length:=by
 rw[G.laid.words,az,az];have:=zh h l;omega
theorem rv (G:h.Good l):(jP h l).Good (gZ h l):=
 HM.apX G.fit.lo G.fit.hi (KF G) (KE G) (by unfold tT;rw[bg];exact G.fit.roots) G.fit.l32 (aC (zi G) G.fit.room) (wN G) (CK G)
theorem I6 (G:h.Good l):li h.size (0 :: fV (gZ h l)) (tT h l) h.last:=⟨gZ h l,wN G,CK G⟩
def QY (h:HM)(l:List Ob):Nat:=((eV h l).filter (fun p=>decide (p.1≠p.2))).length
def lV (pl:List (Nat × Nat))(x:Nat):Bool:=decide (eR x=2/\x∉pl.map (·.1))
def lU (pl:List (Nat × Nat))(b:Ob):Nat:=if b.x.apb then (b.fs.filter (lV pl)).length else 0
def PF (h:HM)(l:List Ob):Nat:=((fH h l).map (fun p=>lU (eV h l) p.2)).sum
end
end
section
open Go.RowKit
attribute [local go_sem] ak
structure kS (w:World) (B gt bm:Nat) (v:Value) (l:Wk):Prop where
 box:eW w gt 323 #[v,.map (some bm)]
 own:w.ownsRow B 54 1 v l.length (eN (gl l))
 map:lS 54 3 .i64 w bm l.length (FD l) (fun x=>decide (x∈gl l))
 hg:B<=gt
 hm:B<=bm
 m32:∀ x∈gl l,x<4294967296
section
variable {w w':World}{B gt bm:Nat}{v v':Value}{l:Wk}
theorem kS.below (T:kS w B gt bm v l)(h:Below w.heap.size w w'):kS w' B gt bm v l:=
 ⟨T.box.below h T.box.lt,mC T.own h,T.map.below h,T.hg,T.hm,T.m32⟩
theorem Pv {l:Wk}{o:Nat}{b:Int}(h:o∉gl l):FD (l++[(o,b)])=fun y=>if y=o then b else FD l y:=by funext y;exact Mb b h y
theorem QV {l:Wk}{o:Nat}{b:Int}:(fun x=>decide (x∈gl (l++[(o,b)])))=fun y=>if y=o then true else decide (y∈gl l):=by
 funext y
 rw[pA];by_cases h:y=o
 .rw[if_pos h];simp[h]
 .rw[if_neg h];simp[h]
end
theorem gL {w:World}{B s n g:Nat}{e t:TypeId}{v:Value}{xs:List Value}{cs:Array Value}(h:w.ownsRow B e s v n xs)(k:eW w g t cs)(hne:e≠t):v.ownBlock≠some g:=by
 rcases h.2 with ⟨rfl,_⟩|⟨g',cap,cur,rfl,_,h3,_⟩
 .intro e;cases e
 .intro e;injection e with e;subst e;unfold eW at k;rw[h3]at k;injection k with k;injection k with _ k;exact hne k
theorem kY {w:World}{B s n:Nat}{e:TypeId}{v:Value}{xs:List Value}(h:w.ownsRow B e s v n xs):∃ A c,v= .slice A n c:=by
 rcases h.2 with ⟨rfl,h0⟩|⟨g,cap,cur,rfl,_⟩
 .have:n=0:=by first|exact h0|(have:=h.1;simp_all)|omega
  subst this;exact⟨none,0,rfl⟩
 .exact⟨_,_,rfl⟩
theorem jy {w w':World}{B s n:Nat}{e:TypeId}{v:Value}{xs:List Value}(h:w.ownsRow B e s v n xs)(hs:∀ k,v.ownBlock=some k->w'.heap[k]? = w.heap[k]?):w'.ownsRow B e s v n xs:=by
 refine⟨h.1,?_⟩;rcases h.2 with h1|⟨g,cap,cur,h1,h2,h3,h4⟩
 .exact .inl h1
 .exact .inr ⟨g,cap,cur,h1,h2,(hs g (by rw[h1];rfl)).trans h3,h4⟩
theorem ui {w:World}{B s n b m:Nat}{e K E:TypeId}{kd:IntKind}{v:Value}{xs:List Value}{f:Nat->Int}{hs:Nat->Bool}(h:w.ownsRow B e s v n xs)(k:lS K E kd w b m f hs):v.ownBlock≠some b:=by
 rcases h.2 with ⟨rfl,_⟩|⟨g',cap,cur,rfl,_,h3,_⟩
 .intro e;cases e
 .intro e;injection e with e;subst e;obtain⟨es,c,hb⟩:=k.obj;rw[hb]at h3;cases h3
def aaW (B gt bm:Nat)(l:Wk)(go co:Nat)(os:List Nat)(w:World)(e:Ending)(w':World):Prop:=
 e= .returned (.tuple #[])/\∃ v',kS w' B gt bm v' l/\Below B w w'
theorem AV {w:World}{B gt bm go co:Nat}{v:Value}{l:Wk}{os:List Nat}(T:kS w B gt bm v l)(hO:Row w go 54 co (eN os))(hne:v.ownBlock≠some go)(hB:B<=w.heap.size)
 (h32:∀ x∈os,x<4294967296)(hk:∀ x∈os,eR x=2)(Bp:Int)(hby:(Lit.int .i64 Bp).wf=true)(hlen:l.length+os.length<=1000000000):
 Calls Tryz.prog 260 #[.pointer (some ⟨gt,0,none⟩),.int .i64 Bp,.slice (some ⟨go,0,none⟩) os.length co] w (aaW B gt bm (iC l os Bp) go co os w):=by
 have HT:=aa T;have HO:=aa hO;have pS:=aa hne;have yL:=aa h32;have HK:=aa hk;have wC:=aa hby
 obtain⟨i0,iF,hz0,hz1,hz2⟩:=info_parts lZ;clear T hO hne h32 hk hby
 go_enter Tryz.func260,Tryz.ntmps260;go_wp2_with fail
 go_loopw [7,8,9,12] (fun _ _ _ iv wr=>∃ (k:Nat) (v':Value),iv= .int .i64 k/\k<=os.length/\kS wr B gt bm v' (iC l (os.take k) Bp)/\Row wr go 54 co (eN os)/\v'.ownBlock≠some go/\Below B w wr) (fun _ _ _ iv _=>os.length-(intOf iv).toNat)
 case atStart=>exact⟨0,v,rfl,by omega,HT.o,HO.o,pS.o,Below.refl _ _⟩
 case round=>
  clear HT HO pS;obtain⟨k,v',rfl,hk,ht,ho,hne,hb⟩:=hrel;have HT:=aa ht;have HO:=aa ho;have pS:=aa hne;have HB:=aa hb;clear ht ho hne hb;by_cases hlt:k<os.length
  .have mh:=HO.o.cell (ft (l:=os) (i:=k) hlt);have qW:os.getD k 0<4294967296:=vg yL.o k;have HS:=aa (show iC l (os.take (k+1)) Bp=pE (iC l (os.take k) Bp) (os.getD k 0) Bp by
    rw[ar,ae hlt,af,ae hlt];exact J1 _ _ _ _)
   have HKX:=aa (show eR (os.getD k 0)=2 from HK.o _ (by rw[af,ae hlt];exact ax _));have HL:=aa (show (iC l (os.take k) Bp).length<=1000000000-1 from by
    have h1:(iC l (os.take k) Bp).length<=l.length+(os.take k).length:=by
     generalize os.take k=q;clear HT HO pS HB HS HKX mh qW hlt hk yL HK wC iF hz0 hz1 hz2 hlen
     induction q generalizing l with
     | nil=>simp[iC]
     | cons a q ih=>
       rw[nX];have:=ih (l:=pE l a Bp);have:(pE l a Bp).length<=l.length+1:=(by unfold pE;split <;> simp);simp only[az];omega
    rw[aA]at h1;omega)
   generalize os.getD k 0=x at*;generalize iC l (os.take k) Bp=L at*;have c0:=HT.o.box.cell 0;have c1:=HT.o.box.cell 1;have z0:=HT.o.box.frozen 0;have Gi:=HT.o.map.look_ok ac9 qW;by_cases hin:x∈gl L
   .have hdec:decide (x∈gl L)=true:=(by simpa using hin);rw[hdec]at Gi;have HN:=aa (show pE L x Bp=L from Ha (fun h=>h.2 hin));generalize FD L x=bx at Gi;clear hdec hin;go_wp2_with fail;go_roundw
    case rel=>exact⟨k+1,v',by go_num,by omega,by rw[HS.o,HN.out];exact HT.o,HO.o,pS.o,HB.o⟩
    case measure=>simp[intOf];omega
   .have hdec:decide (x∈gl L)=false:=(by simpa using hin);rw[hdec]at Gi;have HN:=aa (show pE L x Bp=L++[(x,Bp)] from Rm HKX.o hin);have YB:=aa hin;obtain⟨w2,hrun,hmp,hg2⟩:=HT.o.map.put ac9 qW wC.o (by have:=HL.o;omega);have YK:=aa hmp;have HG2:=aa hg2;have Bl:=aa (show ∀ q,q<wr.heap.size->q≠bm->w2.heap[q]? = wr.heap[q]? from fun q hq hn=>hg2.block q hq (fun e=>by cases e;exact hn rfl));have n1:=HT.o.map.aph HT.o.box;have n2:=HT.o.map.ne_row HO.o;have n3:=(HO.o.aph HT.o.box (by decide));have ME:wr.heap.size<=w2.heap.size:=hg2.size;have ni:=aa (HT.o.box.same (Bl.o gt HT.o.box.lt (fun e=>n1 e.symm)));have Tn:=aa (HO.o.same (Bl.o go HO.o.lt (fun e=>n2 e.symm)));have HOW:=aa (show w2.ownsRow B 54 1 v' L.length (eN (gl L)) from by
     have h0:=HT.o.own;refine⟨h0.1,?_⟩;rcases h0.2 with h1|⟨g,cap,cur,h1,h2,h3,h4⟩
     .exact .inl h1
     .exact .inr ⟨g,cap,cur,h1,h2,(Bl.o g (fA h3) (fun e=>by subst e;obtain⟨es,cc,hb⟩:=HT.o.map.obj;rw[hb]at h3;cases h3)).trans h3,h4⟩)
    have tM:=aa (show Below B w w2 from HB.o.trans ⟨hg2.os,hg2.tape,hg2.output,hg2.size,fun q hq=>Bl.o q (by have:=HB.o.size;omega) (by have:=HT.o.hm;omega)⟩);have HMB:=aa (HT.o.m32);have Wx:=aa (And.intro HT.o.hg HT.o.hm);generalize FD L x=bx at Gi;clear hdec hin hmp hg2 n1 n2;go_upto_region 6 with fail;have c0':=ni.o.cell 0;have Vx:v'.ownBlock≠some gt:=gL HOW.o ni.o (by decide);have Vy:v'.ownBlock≠some bm:=ui HOW.o YK.o;have Bf:=aa (And.intro Vx Vy);have amb:B<=w2.heap.size:=(by have:=tM.o.size;omega);clear c0 c1 z0 Gi Vx Vy n3;have hLl:=HL.o;go_wp2_with (at_builtin;refine eM _ rfl (.tmp 37) (.tmp 39) _ rfl B 54 i0 _ 1 4 Tryz.underlying101 iF hz0 hz1 hz2 rfl (by omega) v' L.length _ rfl (jy HOW.o (fun q hq=>Below.heap_alloc w2 (.cells #[.int .u32 (x:Int)] 54) q (HOW.o.lt q hq).2)) (w2.heap.size+1) (some ⟨w2.heap.size,0,none⟩) 1 1 (eN [x]) rfl ⟨rfl,fun _=>⟨_,rfl,by simp,cell_one_new _ _ _⟩⟩ (EK _) (by simp only[maxLen];omega) (by omega) (by simp;omega) ?_;intro v1 w3 CV p9 T5;obtain⟨A3,c3,rfl⟩:=kY CV;have BC:=aa (fun q (hq:q<w2.heap.size) (hn:v'.ownBlock≠some q)=>(p9.block q (by simp;omega) (fun e=>hn (by first|exact e|exact e.symm))).trans (Below.heap_alloc w2 (.cells #[.int .u32 (x:Int)] 54) q hq));have mm:=aa (ni.o.same (BC.o gt ni.o.lt Bf.o.1));have hz3:=mm.o.frozen 0;have hc3:=mm.o.cell 0);have HE:=aa (show kS (w3.setCell ⟨gt,0,none⟩ (.slice A3 (L.length+1) c3)) B gt bm (.slice A3 (L.length+1) c3) (pE L x Bp)/\Row (w3.setCell ⟨gt,0,none⟩ (.slice A3 (L.length+1) c3)) go 54 co (eN os)/\(Value.slice A3 (L.length+1) c3).ownBlock≠some go/\Below B w (w3.setCell ⟨gt,0,none⟩ (.slice A3 (L.length+1) c3)) from by
     have Ur:w2.heap.size<=w3.heap.size:=aC (by simp) p9.size;have tr:∀ q,q≠gt->(w3.setCell ⟨gt,0,none⟩ (.slice A3 (L.length+1) c3)).heap[q]? = w3.heap[q]? :=fun q hq=>Below.heap_setCell w3 ⟨gt,0,none⟩ (.slice A3 (L.length+1) c3) q hq;have hmg:bm≠gt:=YK.o.aph ni.o;have Qv:w3.ownsRow B 54 1 (.slice A3 (L.length+1) c3) (L++[(x,Bp)]).length (eN (gl (L++[(x,Bp)]))):=by
      rw[pA,nZ,ah];exact CV
     rw[HN.out];refine⟨⟨mm.o.apg 0 (.slice A3 (L.length+1) c3),jy Qv (fun q hq=>tr q (fun e=>gL Qv mm.o (by decide) (e ▸ hq))),?_,Wx.o.1,Wx.o.2,fun y hy=>?_⟩,?_,?_,?_⟩
     .rw[Pv YB.o,QV,ah];exact YK.o.same ((tr bm hmg).trans (BC.o bm YK.o.lt Bf.o.2))
     .rw[pA]at hy;rcases ct.1 hy with hy|hy
      .exact HMB.o y hy
      .rcases aU.1 hy with rfl;exact qW
     .exact Tn.o.same ((tr go (Tn.o.aph ni.o (by decide))).trans (BC.o go Tn.o.lt pS.o))
     .intro e;rcases T5 with h|h
      .exact pS.o (h ▸ e)
      .rw[h]at e;injection e with e;have:=Tn.o.lt;simp at e;omega
     .refine tM.o.trans ⟨p9.os,p9.tape,p9.output,?_,fun q hq=>?_⟩
      .simp[bt];exact Ur
      .exact (tr q (by have:=Wx.o.1;omega)).trans (BC.o q (by omega) (fun e=>by have:=(HOW.o.lt q e).1;omega)))
    clear CV p9 T5 BC mm;go_wp2_with fail;go_roundw
    case rel=>exact⟨k+1,(.slice A3 (L.length+1) c3),by go_num,by omega,by rw[HS.o];exact HE.o.1,HE.o.2.1,HE.o.2.2.1,HE.o.2.2.2⟩
    case measure=>simp[intOf];omega
  .obtain rfl:k=os.length:=(by omega);have HE:=aa HT.o;rw[ce]at HE;clear HT;go_wp2_with fail;refine bodyPost_end (v:=.tuple #[]) (by simp[results,Tryz.results260,go_sem]) rfl ?_;exact⟨rfl,v',HE.o,HB.o⟩
end
section
open Go.RowKit
attribute [local go_sem] ak
def aaX (h:HM)(fr:List Nat)(w:World)(e:Ending)(w':World):Prop:=
 ∃ gt bm v,e= .returned (.pointer (some ⟨gt,0,none⟩))/\kS w' w.heap.size gt bm v (kD (jq h) fr)/\Below w.heap.size w w'
theorem Dc (L:Wk)(i:Nat):(gl L).getD i 0=(L.getD i (0,0)).1:=by
 unfold gl;rw[af,af,List.getElem?_map];cases L[i]? <;> rfl
theorem GI {L:Wk}{i:Nat}(hi:i<L.length):(gl L).getD i 0∈gl L:=by
 rw[af,ae (by rw[pz];exact hi)];exact ax _
theorem xb {h:HM}{L:Wk}{os:List Nat}{b:Int}(hL:∀ o∈gl L,h.isB o=true)(ho:∀ x∈os,eR x=2->h.isB x=true):∀ o∈gl (iC L os b),h.isB o=true:=by
 intro o hm;rcases nv.1 hm with h1|⟨h1,h2⟩
 .exact hL o h1
 .exact ho o h1 h2
theorem Ld {h:HM}{l:List Ob}(G:h.Good l){o:Nat}(hi:h.isB o=true)(held:Bool):(Cg h o held).length<=65536:=by
 have h1:=tU G hi;have h2:=Ey G hi;unfold Cg jq qp;cases held <;> simp only[az,if_true,bF,if_false] <;> split <;> (try simp only[aQ]) <;> omega
theorem qx (L:Wk)(os:List Nat)(b:Int):iC L (os.filter k2) b=iC L os b:=J0 L os b
section
variable {w:World}{p:HP}{h:HM}{l:List Ob}
theorem Sa (H:fO w p h)(G:h.Good l)(hs:eX w){go co:Nat}{os:List Nat}(hO:Row w go 54 co (eN os))(hv:∀ x∈os,h.isB x=true)(KZ:os.length<=1048576):
 Calls Tryz.prog 218 #[ptr p.g,.slice (some ⟨go,0,none⟩) os.length co] w (aaX h os w):=by
 have HH:=aa (fun (w':World) (hb:Below w.heap.size w w')=>H.below hb);have HS:=aa (fun (w':World) (hb:Below w.heap.size w w')=>hs.below hb);have HG:=aa G;have HV:=aa hv;have hb1:Below w.heap.size w ((w.alloc (.map #[] 0)).alloc (.cells #[.slice none 0 0,.map (some w.heap.size)] 323)):=((Below.refl _ w).alloc (ag _) _).alloc (by simp) _;have Mo:=eW.new (w.alloc (.map #[] 0)) 323 #[.slice none 0 0,.map (some w.heap.size)];rw[aX]at Mo
 have T0:kS ((w.alloc (.map #[] 0)).alloc (.cells #[.slice none 0 0,.map (some w.heap.size)] 323)) w.heap.size (w.heap.size+1) w.heap.size (.slice none 0 0) []:=
  ⟨Mo,⟨rfl,.inl ⟨rfl,rfl⟩⟩,(lS.made w 54 3 .i64).same (Below.heap_alloc _ _ _ (by simp)),by omega,ag _,fun x hx=>by simp[gl]at hx⟩
 have Cx:=aa (AV T0 (hO.below hb1) (fun e=>by cases e) hb1.size (fun x hx=>qi G (hv x hx)) (fun x hx=>vu (hv x hx)) (-1) (by decide) (by simp;omega));have ko:=aa hb1;clear hb1 Mo T0 H G hs hv hO;unfold ptr at HH ⊢;have SC:=@run_makeMap Tryz.prog;go_enter Tryz.func218,Tryz.ntmps218;go_wp2_with fail;refine wp_scope_jumps 0 (fun a' w'=>∃ (i:Nat) (L:Wk) (v:Value),SR (jq h) os i L/\kS w' w.heap.size (w.heap.size+1) w.heap.size v L/\(∀ o∈gl L,h.isB o=true)/\Below w.heap.size w w'/\∃ u7 u8 u9 u10 u11 u12 u13 u14 u15 u16 u17 u18 u19 u20 u21 u22 u23 u24 u25 u26 u27 u28 u29 u30 u31 u32 u33 u34,a'={ tmps:=#[.pointer (some ⟨p.g,0,none⟩),.slice (some ⟨go,0,none⟩) os.length co,undef,undef,.pointer none,.pointer (some ⟨w.heap.size+1,0,none⟩),.int .i64 (i:Int),u7,u8,u9,u10,u11,u12,u13,u14,u15,u16,u17,u18,u19,u20,u21,u22,u23,u24,u25,u26,u27,u28,u29,u30,u31,u32,u33,u34],defers:=[] }) (fun a' _=>4194304-(intOf (a'.tmps.getD 6 undef)).toNat) rfl ?_ ?_
 .go_wp2_with fail;refine Cx.o.mono ?_;rintro e w2 ⟨rfl,v2,h21,h22⟩;have HT:=aa h21;have HB:=aa (ko.o.trans h22);have Sl:=aa (SR.start (jq h) os);have HIS:=aa (show ∀ x∈gl (iC [] os (-1)),h.isB x=true from xb (fun o ho=>by simp[gl]at ho) (fun x hx _=>HV.o x hx));clear h21 h22 Cx ko;generalize iC [] os (-1)=L at*;generalize v2=v at*;go_wp2_with fail
  go_step3
  have BG:=aa (Kh HG.o Sl.o.nodup HIS.o);by_cases hi:0<L.length
  .obtain⟨gv,cv,Oz,MB,_,hgv⟩:=Row.apk HT.o.own (by omega);subst Oz;have mh:=MB.cell (ft (l:=gl L) (i:=0) (by rw[pz];exact hi));have VI:=MB.lt;have c0:=HT.o.box.cell 0;have Tr:=aa (HIS.o _ (GI hi));have mn:=aa (Sl.o.next hi BG.o);rw[<-Dc]at mn;have YB:=aa hi;have hLl:=BG.o;generalize (gl L).getD 0 0=o at*;have mF:=aa (Dh (HH.o w2 HB.o) HG.o (HS.o w2 HB.o) Tr.o true);have wA:=Ld HG.o Tr.o true;have hsz:=HB.o.size;unfold ptr at mF;clear MB hi;go_wp2_with fail;refine mF.o.mono ?_;rintro e w5 ⟨g5,c5,rfl,h51,h52,h53⟩;have h32:=JG HG.o Tr.o true;have uM:=aa (AV (HT.o.below h53) h52 (fun e=>by have:gv=g5:=Option.some.inj e;omega) (aC hsz h53.size) (fun x hx=>h32 x (aI.1 hx).1) (fun x hx=>by have:=(aI.1 hx).2;unfold k2 at this;simpa using this) 0 (by decide) (by have:=bn k2 (Cg h o true);omega));rw[qx]at uM;have jL:=aa (HB.o.trans (h53.mono hsz));clear h51 h52 h53 h32 mF mh c0 HT HB;go_wp2_with fail;refine uM.o.mono ?_;rintro e w6 ⟨rfl,v6,h61,h62⟩;have H61:=aa (show kS w6 w.heap.size (w.heap.size+1) w.heap.size v6 (iC L (jq h o) 0) from h61);have lQ:=aa (jL.o.trans h62);have WA:=aa (show ∀ x∈gl (iC L (jq h o) 0),h.isB x=true from xb HIS.o (fun x hx hk=>wX HG.o Tr.o (pZ hx) hk));clear h61 h62 uM jL HIS VI hgv;go_wp2_with fail
   go_step3
   refine⟨rfl,1,_,v6,mn.o,H61.o,WA.o,lQ.o,_,_,_,_,_,_,_,_,_,_,_,_,_,_,_,_,_,_,_,_,_,_,_,_,_,_,_,_,rfl⟩
  .have HD:=aa (Sl.o.done hi BG.o);obtain⟨Av,cv,Oz⟩:=kY HT.o.own;subst Oz;have c0:=HT.o.box.cell 0;go_wp2_with fail;try simp only[Exit.jump]
   go_ret;exact⟨_,_,_,rfl,by rw[HD.o];exact HT.o,HB.o⟩
 .rintro a' wr ⟨i,L,v,hgo,ht,his,hb,u7,u8,u9,u10,u11,u12,u13,u14,u15,u16,u17,u18,u19,u20,u21,u22,u23,u24,u25,u26,u27,u28,u29,u30,u31,u32,u33,u34,rfl⟩;have HT:=aa ht;have HB:=aa hb;have Sl:=aa hgo;have HIS:=aa his;clear hgo ht his hb Cx ko HV;have BG:=aa (Kh HG.o Sl.o.nodup HIS.o);by_cases hi:i<L.length
  .obtain⟨gv,cv,Oz,MB,_,hgv⟩:=Row.apk HT.o.own (by omega);subst Oz;have mh:=MB.cell (ft (l:=gl L) (i:=i) (by rw[pz];exact hi));have VI:=MB.lt;have c0:=HT.o.box.cell 0;have Tr:=aa (HIS.o _ (GI hi));have mn:=aa (Sl.o.next hi BG.o);rw[<-Dc]at mn;have YB:=aa hi;have hLl:=BG.o;generalize (gl L).getD i 0=o at*;have mF:=aa (Dh (HH.o wr HB.o) HG.o (HS.o wr HB.o) Tr.o true);have wA:=Ld HG.o Tr.o true;have hsz:=HB.o.size;unfold ptr at mF;clear MB hi;go_wp2_with fail;refine mF.o.mono ?_;rintro e w5 ⟨g5,c5,rfl,h51,h52,h53⟩;have h32:=JG HG.o Tr.o true;have uM:=aa (AV (HT.o.below h53) h52 (fun e=>by have:gv=g5:=Option.some.inj e;omega) (aC hsz h53.size) (fun x hx=>h32 x (aI.1 hx).1) (fun x hx=>by have:=(aI.1 hx).2;unfold k2 at this;simpa using this) (i:Int) (wf_i64 (by omega)) (by have:=bn k2 (Cg h o true);omega));rw[qx]at uM;have jL:=aa (HB.o.trans (h53.mono hsz));clear h51 h52 h53 h32 mF mh c0 HT HB;go_wp2_with fail;refine uM.o.mono ?_;rintro e w6 ⟨rfl,v6,h61,h62⟩;have H61:=aa (show kS w6 w.heap.size (w.heap.size+1) w.heap.size v6 (iC L (jq h o) (i:Int)) from h61);have lQ:=aa (jL.o.trans h62);have WA:=aa (show ∀ x∈gl (iC L (jq h o) (i:Int)),h.isB x=true from xb HIS.o (fun x hx hk=>wX HG.o Tr.o (pZ hx) hk));clear h61 h62 uM jL HIS VI hgv;go_wp2_with fail
   go_step3
   refine⟨rfl,⟨i+1,_,v6,mn.o,H61.o,WA.o,lQ.o,_,_,_,_,_,_,_,_,_,_,_,_,_,_,_,_,_,_,_,_,_,_,_,_,_,_,_,_,rfl⟩,?_⟩;have h1:=YB.o;have h2:=BG.o;show 4194304-(((i+1:Nat):Int)).toNat<4194304-((i:Nat):Int).toNat;omega
  .have HD:=aa (Sl.o.done hi BG.o);obtain⟨Av,cv,Oz⟩:=kY HT.o.own;subst Oz;have c0:=HT.o.box.cell 0;go_wp2_with fail;try simp only[Exit.jump]
   go_ret;exact⟨_,_,_,rfl,by rw[HD.o];exact HT.o,HB.o⟩
end
end
section
open Go.RowKit
attribute [local go_sem] ak
def HM.nmN (h:HM)(o:Nat):Nat:=if (h.hd (o/2)).apb then 1+(h.hd (o/2)).size else 1
def HM.ao_ (h:HM)(o k:Nat):Nat:=if k=0 then (h.hd (o/2)).cls else fw h o (k-1)
def OA (h:HM)(o k:Nat):Array Value:=#[.int .i64 ((k:Int)-1),.int .u32 (h.ao_ o k:Nat)]
structure Kv (Kp:World->World->Prop) (p:HP) (h:HM) (Bh Bo:Nat):Prop where
 heap:∀ {A B:World},Kp A B->fO A p h->fO B p h
 apl:∀ {A B:World},Kp A B->eX A->eX B
 aqn:∀ {A B:World},Kp A B->∀ v,A.cell? ⟨Bh,0,none⟩=some v->B.cell? ⟨Bh,0,none⟩=some v
 aqo:∀ {A B:World},Kp A B->∀ v,A.cell? ⟨Bo,0,none⟩=some v->B.cell? ⟨Bo,0,none⟩=some v
 hdr:∀ {A B:World},Kp A B->∀ g cs,eW A g 75 cs->eW B g 75 cs
theorem qy {n k:Nat}(h:k<n):(ay n).take k++[k]=(ay n).take (k+1):=by
 rw[ar,ae (by simpa using h)];simp
structure sZ (w:World) (p:HP) (h:HM) (Bh Bo o:Nat):Prop where
 at_:fO w p h
 sp:eX w
 aqn:w.cell? ⟨Bh,0,none⟩=some (.pointer (some ⟨p.g,0,none⟩))
 aqo:w.cell? ⟨Bo,0,none⟩=some (.int .u32 (o:Nat))
theorem sZ.below {w w':World}{p:HP}{h:HM}{Bh Bo o:Nat}(S:sZ w p h Bh Bo o)(hb:Below w.heap.size w w'):sZ w' p h Bh Bo o:=
 ⟨S.at_.below hb,S.sp.below hb,(hb.cell (aH _ _ S.aqn)).trans S.aqn,(hb.cell (aH _ _ S.aqo)).trans S.aqo⟩
theorem sZ.kept {w w':World}{p:HP}{h:HM}{Bh Bo o:Nat}{Kp:World->World->Prop}(S:sZ w p h Bh Bo o)(K:Kv Kp p h Bh Bo)(k:Kp w w'):sZ w' p h Bh Bo o:=
 ⟨K.heap k S.at_,K.apl k S.sp,K.aqn k _ S.aqn,K.aqo k _ S.aqo⟩
theorem rJ {w:World}{p:HP}{h:HM}{Bh Bo o:Nat}(S:sZ w p h Bh Bo o)(f:h.Fit)(hh:h.apu)(ho:o<4294967296)(hi:h.isB o=true)(n:Nat)(Kp:World->World->Prop)(K:Kv Kp p h Bh Bo):
 SeqStopsK Fence.wide n Tryz.prog 192 #[.pointer (some ⟨Bh,0,none⟩),.pointer (some ⟨Bo,0,none⟩)] (OA h o) Kp (fun xs=>xs=ay (h.nmN o)) (fun pre=>pre <+: ay (h.nmN o)) (h.nmN o) w:=
 fun lp J Jx W hW hJ XC hY h0=>by
 have SW:=S.below hW;have hd:=HM.aps hh hi;have kJ:=HM.apR f (o/2);have pN:=aa (jm SW.at_ f hh SW.sp o ho);rw[show h.api o= .tuple #[.agg #[.int .i64 (h.hd (o/2)).size,.int .i64 (h.hd (o/2)).fmt,.int .i64 (h.hd (o/2)).spare,.int .u32 (h.hd (o/2)).cls,.int .u32 (h.hd (o/2)).ser],.int .i64 0] by unfold HM.api;rw[hi];rfl]at pN;have Ii:=aa (fun w' (S':sZ w' p h Bh Bo o) (k:Nat) (hk:k<(h.hd (o/2)).size) (hp:(h.hd (o/2)).apb=true)=>show Calls Tryz.prog 175 #[ptr p.g,.int .u32 o,.int .i64 k] w' (Told (.tuple #[.int .u32 (h.ao_ o (k+1):Nat),.int .i64 0]) w') from by
  have hG:=yA S'.at_ f hh S'.sp o ho (k:Int);have Qd:(h.hd (o/2)).fmt=1\/(h.hd (o/2)).fmt=4:=by unfold Hd.apb at hp;simpa using hp
  have SB:(h.hd (o/2)).len=(h.hd (o/2)).size:=by unfold Hd.len;rw[if_neg (by omega)]
  have he:h.ape o (k:Int) [1,4]=0:=by
   unfold HM.ape;rw[hi,if_neg (by decide),if_neg (by rcases Qd with e|e <;> rw[e] <;> decide),if_neg (by omega)]
  unfold HM.ap2 at hG;rw[he]at hG;exact hG)
 have HS:=aa SW;have HJ:=aa (show ∀ s A B,J s A->Below A.heap.size A B->J s B from fun s A B hs hb=>hJ s A B none hs ⟨hb.os,hb.tape,hb.output,hb.size,fun k hk _=>hb.block k hk⟩ (fun r e=>by cases e));have HY:=aa hY;have OZ:=aa h0;have HK:=aa K;have HN:=aa (show h.nmN o=if (h.hd (o/2)).apb then 1+(h.hd (o/2)).size else 1 from rfl);have HP:=aa (fun w'=>mH (h.hd (o/2)).fmt w');rw[show (decide ((h.hd (o/2)).fmt=1) || decide ((h.hd (o/2)).fmt=4))=(h.hd (o/2)).apb from rfl]at HP;have yO:=aa (show OA h o 0=#[.int .i64 (-1),.int .u32 ((h.hd (o/2)).cls:Nat)] from rfl);have HCK:=aa (fun k=>show OA h o (k+1)=#[.int .i64 (k:Int),.int .u32 (h.ao_ o (k+1):Nat)] by unfold OA;rw[show (((k+1:Nat):Int))-1=(k:Int) by omega]);have c1:=SW.aqn;have c2:=SW.aqo;refine callsIn_of_wp Tryz.func192 rfl trivial ?_ rfl;simp only[Tryz.ntmps192,bK,az,aQ,cI,cJ,bp,bq,bM,bw,aN,aO];unfold ptr at pN Ii;clear hY hJ XC h0 K S SW hd;generalize h.hd (o/2)=X at*;gi_wp2_with fail;refine⟨trivial,fun hh=>(by cases hh),(callsIn_wide.2 pN.o).mono ?_⟩;rintro e W1 ⟨rfl,hb1⟩;have hb2:=hb1.alloc hb1.size (.cells #[.int .i64 X.size,.int .i64 X.fmt,.int .i64 X.spare,.int .u32 X.cls,.int .u32 X.ser] 75);have nE:=aa (HS.o.below hb2);have WB:=aa (HJ.o _ _ _ OZ.o hb2);have BX:=aa (eW.new W1 75 #[.int .i64 X.size,.int .i64 X.fmt,.int .i64 X.spare,.int .u32 X.cls,.int .u32 X.ser]);have Xg:=aa (HY.o [] 0 _ WB.o (by rw[HN.out];split <;> simp <;> omega));rw[yO.o]at Xg;clear c1 c2 hb1 hb2 pN;obtain⟨fn,tmps,assign,body,hy,hR⟩:=Xg.o;gi_wp2_with fail;refine⟨fun hh=>(by cases hh),hR.mono ?_⟩;clear hy hR Xg;have Y1:0<h.nmN o:=by rw[HN.out];split <;> omega
 rintro e W5 (⟨rfl,PV,Jn⟩|⟨rfl,SG⟩)
 .have nG:=aa (nE.o.kept HK.o Jn);have Kk:=HK.o.hdr Jn _ _ BX.out;obtain⟨d0,d1,d2,d3,d4⟩:=Kk.apd;have WC:=aa (show J ((ay (h.nmN o)).take 1) W5 by rw[<-qy Y1];exact PV);clear PV Jn Kk nE WB BX OZ HS yO;gi_wp2_with fail;refine⟨trivial,fun hh=>(by cases hh),(callsIn_wide.2 (HP.o _)).mono ?_⟩;rintro e wz ⟨rfl,rfl⟩;cases hp:X.apb
  .have yQ:=aa (show ∃ xs,xs=ay (h.nmN o)/\J xs W5 from⟨_,rfl,by
    have h1:=WC.o;have h2:h.nmN o=1:=(by rw[HN.out,hp];rfl);rw[h2]at h1 ⊢;exact h1⟩)
   clear d0 d1 d2 d3 d4;gi_wp2_with fail;refine bodyPost_ret (results_none rfl _ _ _) rfl ?_;exact⟨⟨_,rfl⟩,.inl yQ.o⟩
  .have TX:=HN.out;rw[hp]at TX;simp only[if_true]at TX;have LK:=aa TX;have uM:=aa hp;clear TX hp HN;have hsz:=kJ.size;gi_wp2_with fail;clear d0 d1 d2 d3 d4
   gi_loopw [28] (fun i wr=>∃ k:Nat,k<=X.size/\i= .int .i64 k/\sZ wr p h Bh Bo o/\J ((ay (h.nmN o)).take (k+1)) wr) (fun i wr=>X.size-(intOf i).toNat)
   case atStart=>exact⟨0,by omega,rfl,nG.o,WC.o⟩
   case round=>
    clear nG WC;obtain⟨k,hk,rfl,Sk,hjk⟩:=hrel;by_cases hlt:k<X.size
    .have HG:=aa (Ii.o _ Sk k hlt uM.o);have LO:=aa Sk;have ZU:=aa hjk;have c1:=Sk.aqn;have c2:=Sk.aqo;clear Sk hjk;gi_wp2_with fail;refine⟨trivial,fun hh=>(by cases hh),(callsIn_wide.2 HG.o).mono ?_⟩;rintro e W6 ⟨rfl,jV⟩;have lM:=aa (LO.o.below jV);have Xh:=aa (HY.o ((ay (h.nmN o)).take (k+1)) (k+1) W6 (HJ.o _ _ _ ZU.o jV) (by rw[LK.o,aA,bZ];omega));rw[HCK.o]at Xh;clear c1 c2 jV HG ZU LO;obtain⟨fn,tmps,assign,body,hy,hR⟩:=Xh.o;gi_wp2_with fail;refine⟨fun hh=>(by cases hh),hR.mono ?_⟩;clear hy hR Xh;rintro e W7 (⟨rfl,hJ7,hk7⟩|⟨rfl,hx7⟩)
     .have mf:=aa (lM.o.kept HK.o hk7);have YC:=aa (show J ((ay (h.nmN o)).take (k+1+1)) W7 by rw[<-qy (by rw[LK.o];omega)];exact hJ7);clear hJ7 hk7 lM;gi_wp2_with fail;go_roundw
      case rel=>exact⟨k+1,by omega,by go_num,mf.o,YC.o⟩
      case measure=>simp[intOf];omega
     .clear lM;gi_wp2_with fail;refine bodyPost_ret (results_none rfl _ _ _) rfl ?_;exact⟨⟨_,rfl⟩,.inr ⟨_,⟨(ay (h.nmN o)).drop (k+1+1),by rw[qy (by rw[LK.o];omega),aD]⟩,hx7⟩⟩
    .obtain rfl:k=X.size:=(by omega);have yQ:=aa (show J (ay (h.nmN o)) wr by
      have:=hjk;rw[aB (by rw[LK.o,bZ];omega)]at this;exact this)
     clear Sk hjk hlt hk;gi_wp2_with fail
     go_end0
     exact⟨⟨_,rfl⟩,.inl ⟨_,rfl,yQ.o⟩⟩
 .clear nE WB BX OZ HS yO;gi_wp2_with fail;refine⟨trivial,?_⟩;gi_wp2_with fail;refine bodyPost_ret (results_none rfl _ _ _) rfl ?_;exact⟨⟨_,rfl⟩,.inr ⟨_,⟨(ay (h.nmN o)).drop 1,by rw[show []++[0]=(ay (h.nmN o)).take 1 from qy Y1,aD]⟩,SG⟩⟩
end
end Go.Proofs.YtlkahgagmfhdaaaGreatDoor
