import Derived.Test.YtlkahgagmfhdaaaGreatDoorJSo13
import Derived.Test.YtlkahgagmfhdaaaGreatDoorJAll
import Derived.Test.YtlkahgagmfhdaaaGreatDoorJUntil
set_option linter.unusedVariables false
set_option linter.unusedSimpArgs false
set_option linter.unusedSectionVars false
open List renaming setIfInBounds_toArray→ae,set_cons_zero→af,set_cons_succ→ag,getElem?_eq_getElem→ah,getD_eq_getElem?_getD→ai,length_append→aj,getElem?_cons_succ→ar,append_assoc→au,map_congr_left→ax,take_add_one→az,length_filter_le→aB,map_append→aD,map_cons→aG,map_map→aN,find?_append→aP,map_id→aQ,getElem_mem→aR,take_length→aS,mem_map→aU
open Go.Act renaming put→ak
open Nat renaming le_refl→aq,lt_of_lt_of_le→aF,zero_add→aH,le_trans→aI,add_zero→aW,sub_self→aX,mul_one→aY
open Go.World renaming cell?_of_block→aw,size_alloc→aJ,setCell→aM
open Go.Oper renaming semAt_some→ay
open Go.Value renaming int→aA
open Go.WideShapes renaming add_plain→aC
set_option maxRecDepth 100000
set_option maxHeartbeats 8000000
namespace Go.Proofs.YtlkahgagmfhdaaaGreatDoor
section
open Go.RowKit Go.Sort Go.Proofs
theorem Pz:Fe:=⟨xh,xg,Az,pJ,oP,tu⟩
theorem Ym:Plain13:=⟨swo_ltInt,insertionSort_holds,partialInsertionSort_holds,partition_holds _,partitionEqual_holds _,pdq_sorts _⟩
theorem EN:G8:=fun blk off cap a b limit d w hH hb hab jv hsz hl hB=>
 J8 Pz Ym (b-a+1) blk off cap a b limit d w (by omega) hH hb hab jv hsz hl hB
def jw (xs:List Nat):List Int:=xs.map fun x:Nat=>(x:Int)
theorem C4 (xs:List Nat):(jw xs).length=xs.length:=by simp[jw]
theorem NY (xs:List Nat):eN xs=(jw xs).map (aA .u32):=by unfold eN jw;rw[aN];rfl
theorem NJ {w:World}{g c:Nat}{xs:List Nat}(h:Row w g 54 c (eN xs)):Holds (aA .u32) w g 0 (jw xs).toArray:=by
 intro j hj;have hj':j<xs.length:=by simpa[jw] using hj
 refine⟨?_,h.frozen _⟩;rw[aH,h.cell (ft hj')];simp[jw,hj']
def TJ (g c:Nat)(xs:List Nat)(w:World)(e:Ending)(w':World):Prop:=
 e= .returned (.tuple #[])/\∃ ys:List Nat,ys.Perm xs/\ys.Pairwise (· <= ·)/\Row w' g 54 c (eN ys)/\yK g w w'
theorem NS (xs:List Nat):∃ ys:List Nat,jw ys=(jw xs).mergeSort (fun x y=>decide (x<=y))/\ys.Perm xs/\ys.Pairwise (· <= ·):=by
 have hp:((jw xs).mergeSort (fun x y=>decide (x<=y))).Perm (jw xs):=List.mergeSort_perm _ _;have CU:∀ z∈(jw xs).mergeSort (fun x y=>decide (x<=y)),0<=z:=fun z hz=>by
  have:=hp.mem_iff.1 hz;unfold jw at this;obtain⟨y,_,rfl⟩:=aU.1 this;omega
 have hs:((jw xs).mergeSort (fun x y=>decide (x<=y))).Pairwise (fun x y=>decide (x<=y)=true):=List.pairwise_mergeSort (fun a b c h1 h2=>by simp at*;omega) (fun a b=>by simp;omega) _;generalize (jw xs).mergeSort (fun x y=>decide (x<=y))=zs at*;have e1:jw (zs.map Int.toNat)=zs:=by
  unfold jw;rw[aN]
  conv=>rhs;rw[<-aQ zs]
  refine ax (fun z hz=>?_);have:=CU z hz;show ((z.toNat:Nat):Int)=z;omega
 refine⟨zs.map Int.toNat,e1,?_,?_⟩
 .have:=hp.map Int.toNat;have e2:(jw xs).map Int.toNat=xs:=by
   unfold jw;rw[aN]
   conv=>rhs;rw[<-aQ xs]
   exact ax (fun z _=>by simp)
  rw[e2]at this;exact this
 .rw[List.pairwise_map];refine hs.imp_of_mem (fun {a b} ha hb h=>?_);have h1:=CU a ha;have h2:=CU b hb;have:a<=b:=by simpa using h
  omega
theorem Ez {w:World}{g n:Nat}{os:Array Obj}{cur:Array Value}{e:TypeId}{fr:Nat × Nat}(d:Array Int)(hb:w.heap[g]? = some (.cells cur e fr)):
 (grow (putRow (aA .u32) (Sort.ahead w n) g 0 d) os).heap[g]? = some (.cells (putCells (aA .u32) 0 d cur) e fr):=by
 have hg:g<w.heap.size:=(Array.getElem?_eq_some_iff.1 hb).1;rw[heap_grow_old _ _ (by simpa using hg)];simp[putRow,mapBlock,Sort.ahead,Array.getElem?_modify,hb,onCells]
theorem FW {w:World}{g n:Nat}{os:Array Obj}(d:Array Int):yK g w (grow (putRow (aA .u32) (Sort.ahead w n) g 0 d) os):=by
 refine⟨rfl,rfl,rfl,by simp,fun k hk hne=>?_⟩;rw[heap_grow_old _ _ (by simpa using hk)];have:g≠k:=fun e=>hne e.symm;simp[putRow,mapBlock,Sort.ahead,Array.getElem?_modify,this]
theorem AU (cur:Array Value)(ts:List Int)(h:ts.length<=cur.size):(putCells (aA .u32) 0 ts.toArray cur).toList.take ts.length=ts.map (aA .u32):=by
 apply List.ext_getElem?;intro j;by_cases hj:j<ts.length
 .rw[List.getElem?_take_of_lt hj,Array.getElem?_toList];simp[putCells,hj,show j<cur.size by omega]
 .rw[List.getElem?_take_eq_none (by omega),List.getElem?_eq_none (by simp;omega)]
theorem RL {w:World}{g c:Nat}{xs:List Nat}(hR:Row w g 54 c (eN xs))(hn:xs.length<4611686018427387904):
 Calls Tryz.prog 220 #[.slice (some ⟨g,0,none⟩) xs.length c] w (TJ g c xs w):=by
 have h:=UU EN g 0 c (jw xs).toArray w (NJ hR) hR.lt (by simpa[jw] using hn);have e:(jw xs).toArray.size=xs.length:=by simp[jw]
 rw[e]at h;refine h.mono ?_;rintro e w' ⟨rfl,n,os,rfl⟩;obtain⟨ys,h1,h2,h3⟩:=NS xs;have hs:Sort.sort ltInt (jw xs).toArray=(jw ys).toArray:=by
  rw[h1,<-sortInt (jw xs)]
 rw[hs];refine⟨rfl,ys,h2,h3,?_,FW _⟩;obtain⟨cur,hb,hl,hm,hc,hx⟩:=hR;have hly:ys.length=xs.length:=h2.length_eq;rw[eY]at hl hx;refine⟨_,Ez _ hb,by rw[eY,hly];exact hl,hm,by simp[putCells,hc],?_⟩;have ht:=AU cur (jw ys) (by rw[C4,hly];have:cur.size=c:=(by simpa using hc);omega);rw[C4]at ht;rw[eY,NY];first|exact ht|(rw[aY];exact ht)
end
section
open Go.RowKit
attribute [local go_sem] ay
def aaR (xs:List Nat)(w:World)(e:Ending)(w':World):Prop:=
 ∃ v,e= .returned v/\w'.ownsRow w.heap.size 54 1 v xs.length (eN xs)/\Below w.heap.size w w'
section
variable {w:World}{p:HP}{h:HM}{l:List Ob}
theorem Kg (nm:Nat->List Nat)(fr:List Nat):kD nm (fr.filter k2)=kD nm fr:=by unfold kD;rw[qx]
theorem UT {w:World}{g c B:Nat}{xs:List Nat}(h:Row w g 54 c (eN xs))(hB:B<=g):w.ownsRow B 54 1 (.slice (some ⟨g,0,none⟩) xs.length c) xs.length (eN xs):=by
 obtain⟨cur,hb,hl,hm,hc,hx⟩:=h;rw[eY]at hl hx;exact⟨by simp[eY],.inr ⟨g,c,cur,rfl,hB,hb,hl,hm,by simpa using hc,by rw[aY];exact hx⟩⟩
theorem NR {w:World}{B:Nat}{v:Value}{xs:List Nat}(h:w.ownsRow B 54 1 v xs.length (eN xs))(hB:B<=w.heap.size)(hn:xs.length<4611686018427387904):
 Calls Tryz.prog 220 #[v] w fun e w'=>e= .returned (.tuple #[])/\∃ ys:List Nat,ys.Perm xs/\ys.Pairwise (· <= ·)/\w'.ownsRow B 54 1 v xs.length (eN ys)/\Below B w w':=by
 by_cases h0:0<xs.length
 .obtain⟨g,c,rfl,hr,_,hg⟩:=Row.apk h h0;refine (RL hr hn).mono ?_;rintro e w' ⟨rfl,ys,h1,h2,h3,h4⟩;have:=UT (B:=B) h3 hg;rw[h1.length_eq]at this;exact⟨rfl,ys,h1,h2,this,h4.below hg hB⟩
 .have hx:xs=[]:=List.eq_nil_of_length_eq_zero (by omega);subst hx;obtain⟨A,c,rfl⟩:=kY h;refine (ym A c w).mono ?_;rintro e w' ⟨rfl,rfl⟩;exact⟨rfl,[],List.Perm.refl _,List.Pairwise.nil,h,Below.refl _ _⟩
theorem Rb (G:h.Good l){fr:List Nat}(hf:∀ x∈fr,h.apc x=true):∀ x∈fr.filter k2,h.isB x=true:=by
 intro x hx;rw[List.mem_filter]at hx;have:=hf x hx.1;have hk:eR x=2:=by have:=hx.2;unfold k2 at this;simpa using this
 unfold HM.apc kH at this;simpa[hk] using this
theorem QM (H:fO w p h)(G:h.Good l)(hs:eX w):Calls Tryz.prog 168 #[ptr p.g] w (aaR (gV h l) w):=by
 have HH:=aa (fun (w':World) (hb:Below w.heap.size w w')=>H.below hb);have HS:=aa (fun (w':World) (hb:Below w.heap.size w w')=>hs.below hb);have HG:=aa G;have HR:=aa (sJ H G.fit);have Ss:=aa G.fit.roots;have WU:=aa G.fit.r32;clear H G hs;unfold ptr at HH HR ⊢;go_enter Tryz.func168,Tryz.ntmps168;go_wp2_with fail;refine HR.o.mono ?_;rintro e w1 ⟨g1,c1,rfl,h11,h12,h13⟩;rw[eY];have HO:=aa (GZ g1 c1 h.roots h11 (by rw[Ss.o];omega) WU.o);have ko:=aa h13;have HG1:=aa h12;clear h11 h12 h13 HR;go_wp2_with fail;refine HO.o.mono ?_;rintro e w2 ⟨rfl,h21,h22⟩;have tM:=aa (ko.o.trans (h22.below HG1.o ko.o.size));have Sv:=aa (Sa (HH.o w2 tM.o) HG.o (HS.o w2 tM.o) h21 (Rb HG.o HG.o.sound.roots) (by have:=aB k2 h.roots;rw[Ss.o]at this;omega));clear h21 h22 HO ko HG1;unfold ptr at Sv;go_wp2_with fail;refine Sv.o.mono ?_;rintro e w3 ⟨gt,bm,v,rfl,T,hb3⟩;rw[Kg]at T;have SB:=H0 HG.o HG.o.sound.roots;have ig:=aa (eF tM.o hb3);have HOW:=aa (zY T.own (show w.heap.size<=w2.heap.size from tM.o.size));have c0:=T.box.cell 0;rw[<-pz]at HOW;have HSO:=aa (NR HOW.o ig.o.size (by rw[pz];omega));obtain⟨A,c,hv⟩:=kY HOW.o;subst hv;clear T hb3 Sv tM HOW;go_wp2_with fail;refine HSO.o.mono ?_;rintro e w4 ⟨rfl,ys,h1,h2,h3,h4⟩;have HE:=aa (Hs HG.o h1 h2);have HL:=aa h1.length_eq;have H3:=aa h3;have yM:=aa (ig.o.trans h4);clear h1 h2 h3 h4 HSO;go_wp2_with fail;go_ret;refine⟨_,rfl,?_,yM.o⟩;rw[<-HE.o,HL.o];exact H3.o
end
end
section
open Go.RowKit
attribute [local go_sem] ay
def SI (pl:List (Nat × Nat)):List Value:=pl.flatMap fun p=>[.int .u32 (p.1:Int),.int .u32 (p.2:Int)]
theorem QZ (pl:List (Nat × Nat))(p:Nat × Nat):SI (pl++[p])=SI pl++[.int .u32 (p.1:Int),.int .u32 (p.2:Int)]:=by unfold SI;rw[List.flatMap_append];rfl
theorem Lc:∀ (pl:List (Nat × Nat)) (i j:Nat) (p:Nat × Nat),pl[i]? = some p->(SI pl)[i*2]? = some (.int .u32 (p.1:Int))/\(SI pl)[i*2+1]? = some (.int .u32 (p.2:Int))
 | [],i,j,p,h=>by simp at h
 | a :: l,0,j,p,h=>by
   simp at h;subst h;exact⟨rfl,rfl⟩
 | a :: l,i+1,j,p,h=>by
   obtain⟨h1,h2⟩:=Lc l i j p (by simpa using h);have e:SI (a :: l)= .int .u32 (a.1:Int) :: .int .u32 (a.2:Int) :: SI l:=rfl;rw[e,show (i+1)*2=i*2+1+1 by omega,ar,ar,show i*2+1+1+1=i*2+1+1+1 from rfl,ar,ar];exact⟨h1,h2⟩
theorem Uv:(Tryz.prog.info? 176).map (fun i=>(i.zero,i.size,i.bytes))=some (some (Value.agg #[.int .u32 0,.int .u32 0]),2,8):=by kernel_rfl
theorem Ak (p:Nat × Ob):∀ (a:Nat) (z:List (Nat × Ob)),mP a (z++[p])=mP a z++[(p.1,2*(a+(fV (z.map (·.2))).length))]
 | a,[]=>by simp[mP,km]
 | a,q :: z=>by
   simp only[List.cons_append,mP,Ak p _ z,aG,fD,aj,Ob.apt];congr 5;omega
def aaS (pl:List (Nat × Nat))(w:World)(e:Ending)(w':World):Prop:=
 ∃ v,e= .returned v/\w'.ownsRow w.heap.size 176 2 v pl.length (SI pl)/\Below w.heap.size w w'
theorem NE (w:World)(a b:Value)(t:TypeId):eQ (w.alloc (.cells #[a,b] t)) (w.heap.size+1) 2 (some ⟨w.heap.size,0,none⟩) 1 [a,b]:=by
 refine⟨rfl,fun _=>⟨_,rfl,by simp,fun j v hv=>?_⟩⟩;rw[aC,aH];refine ((eW.new w t #[a,b]).cell j).trans ?_;rw[<-hv];simp
section
variable {w:World}{p:HP}{h:HM}{l:List Ob}
theorem Mi (H:fO w p h)(G:h.Good l)(hs:eX w){o:Nat}(hi:h.isB o=true):
 Calls Tryz.prog 170 #[ptr p.g,.int .u32 o] w (Told (.int .i64 (3+(h.hd (o/2)).size:Nat)) w):=by
 have HH:=aa (jm H G.fit G.laid.heads hs o (qi G hi));have hV:h.api o= .tuple #[(h.hd (o/2)).val,.int .i64 0]:=by unfold HM.api;simp[hi]
 rw[hV]at HH;have hsz:=Ey G hi;clear hV H G hs hi;generalize h.hd (o/2)=X at*;obtain⟨n,t,s,c,r⟩:=X;simp only at hsz;unfold Hd.val at HH;unfold ptr at HH ⊢;go_enter Tryz.func170,Tryz.ntmps170;go_wp2_with fail;refine HH.o.mono ?_;rintro e w1 ⟨rfl,hb1⟩;have hb2:=hb1.alloc hb1.size (.cells #[.int .i64 (n:Int),.int .i64 (t:Int),.int .i64 (s:Int),.int .u32 (c:Int),.int .u32 (r:Int)] 75);have tM:=aa hb2;have BX:=eW.new w1 75 #[.int .i64 (n:Int),.int .i64 (t:Int),.int .i64 (s:Int),.int .u32 (c:Int),.int .u32 (r:Int)];obtain⟨x0,x1,x2,x3,x4⟩:=BX.apd;clear hb1 hb2 HH BX;go_wp2_with fail;go_ret;exact⟨by first|rfl|(congr 2;push_cast;rfl),tM.o⟩
theorem Rj (H:fO w p h)(G:h.Good l)(hs:eX w):Calls Tryz.prog 91 #[ptr p.g] w (aaS (eV h l) w):=by
 have HH:=aa (fun (w':World) (hb:Below w.heap.size w w')=>H.below hb);have HS:=aa (fun (w':World) (hb:Below w.heap.size w w')=>hs.below hb);have HG:=aa G;have YH:=aa (QM H G hs);obtain⟨i0,iF,hz0,hz1,hz2⟩:=info_parts Uv;have HLZ:=aa (C5 h l);have HLF:=aa (jW h l);have hLN:(fH h l).length<=1048576:=by
  have h1:=(pu h l).length_le;rw[List.length_map]at h1;have h2:=ki G;rw[fZ]at h2;omega
 have HW:=aa (show ∀ k,k<=(fH h l).length->1+(fV (((fH h l).take k).map (·.2))).length<=1048576 from fun k _=>by
  have h1:(fV (((fH h l).take k).map (·.2))).length<=(fV l).length:=r9 (((List.take_sublist k _).map _).trans (pu h l));have h2:=G.fit.room;have h3:=G.fit.hi;rw[G.laid.words,List.length_cons]at h2;omega)
 clear H G hs;unfold ptr at YH HH ⊢;go_enter Tryz.func91,Tryz.ntmps91;go_wp2_with fail;refine YH.o.mono ?_;rintro e w1 ⟨v,rfl,hown,hb⟩;have Sq:=aa hown;have ko:=aa hb;obtain⟨A,c,hv⟩:=kY hown;subst hv;rw[<-HLZ.o];clear hown hb YH;go_wp2_with fail
 go_loopw [3,4,6,7,8,12] (fun lv av _ _ _ iv wr=>∃ k:Nat,iv= .int .i64 k/\k<=(fH h l).length/\av= .int .i64 ((1+(fV (((fH h l).take k).map (·.2))).length:Nat):Int)/\wr.ownsRow w1.heap.size 176 2 lv k (SI (mP 1 ((fH h l).take k)))/\Below w1.heap.size w1 wr) (fun _ _ _ _ _ iv _=>(fH h l).length-(intOf iv).toNat)
 case atStart=>exact⟨0,rfl,by omega,rfl,⟨rfl,.inl ⟨rfl,rfl⟩⟩,Below.refl _ _⟩
 case round=>
  obtain⟨k,rfl,hk,rfl,hown,hb⟩:=hrel;have HOW:=aa hown;have HB:=aa hb;clear hown hb;by_cases hlt:k<(fH h l).length
  .have hL0:0<(gV h l).length:=(by rw[<-HLZ.o];omega);obtain⟨gv,cv,Oz,MB,_,hgv⟩:=Row.apk Sq.o hL0;rw[<-HLZ.o]at Oz;cases Oz;have acL:=MB.below HB.o;have mh:=acL.cell (ft (l:=gV h l) (i:=k) (by rw[<-HLZ.o];exact hlt));have hpz:(gV h l).getD k 0=((fH h l)[k]).1:=by
    rw[<-HLF.o,ai,List.getElem?_map,ah hlt];rfl
   rw[hpz]at mh;obtain⟨j,hj,SE,Iu,hp3⟩:=nk (aR hlt);have hib:=wm HG.o HG.o.sound.roots _ hp3;have Uf:(h.hd (((fH h l)[k]).1/2)).size=((fH h l)[k]).2.fs.length:=by
    rw[SE,fT,zx HG.o j hj,Iu];exact (HG.o.laid.ok _ (aR hj)).size
   have BM:=aa (fun (w':World) (hb:Below w.heap.size w w')=>Mi (HH.o w' hb) HG.o (HS.o w' hb) hib);rw[Uf]at BM;unfold ptr at BM;have K6:(fH h l).take (k+1)=(fH h l).take k++[(fH h l)[k]]:=(by rw[az,ah hlt];rfl);have HP:=aa (show mP 1 ((fH h l).take (k+1))=mP 1 ((fH h l).take k)++[(((fH h l)[k]).1,2*(1+(fV (((fH h l).take k).map (·.2))).length))] by rw[K6,Ak]);have HA:=aa (show 1+(fV (((fH h l).take (k+1)).map (·.2))).length=1+(fV (((fH h l).take k).map (·.2))).length+(3+((fH h l)[k]).2.fs.length) by
    rw[K6,aD,jU,aj,aG,List.map_nil,fD,km,aj,Ob.apt];simp;omega)
   have oq:=HW.o (k+1) (by omega);rw[HA.o]at oq;have LM:=aa (qi HG.o hib);clear hpz SE Iu hp3 Uf K6 hib hj MB acL hL0;generalize ((fH h l)[k]).1=o at*;generalize ((fH h l)[k]).2.fs.length=fl at*;generalize mP 1 ((fH h l).take k)=P0 at*;generalize hAT:1+(fV (((fH h l).take k).map (·.2))).length=at_ at*;have wR:1<=at_:=(by omega);have Cp:=aa (yG at_ wR (by omega));clear hAT;go_wp2_with fail;refine (Cp.o _).mono ?_;rintro e w2 ⟨rfl,rfl⟩;clear mh;have hbl:w1.heap.size<=wr.heap.size:=HB.o.size;go_wp2_with (at_builtin;refine eM _ rfl (.tmp 21) (.tmp 25) _ rfl w1.heap.size 176 i0 _ 2 8 Tryz.underlying173 iF hz0 hz1 hz2 rfl (by omega) u3 k _ rfl (jy HOW.o (fun q hq=>Below.heap_alloc wr (.cells #[.int .u32 (o:Int),.int .u32 ((2*at_:Nat):Int)] 176) q (HOW.o.lt q hq).2)) (wr.heap.size+1) (some ⟨wr.heap.size,0,none⟩) 1 1 [.int .u32 (o:Int),.int .u32 ((2*at_:Nat):Int)] rfl (NE wr _ _ _) (fun u hu=>by simp at hu;rcases hu with rfl|rfl <;> rfl) (by simp only[maxLen];omega) (by omega) (by simp;omega) ?_;intro v3 w3 CV p9 T5;have ig:=aa (je (aq _) (HB.o.alloc HB.o.size (.cells #[.int .u32 (o:Int),.int .u32 ((2*at_:Nat):Int)] 176)) p9 (fun q hq=>(HOW.o.lt q hq).1));have LL:=aa CV;clear CV p9 T5);refine (BM.o _ (ko.o.trans (ig.o.mono ko.o.size))).mono ?_;rintro e w4 ⟨rfl,hb4⟩;have Vf:=aa (mC LL.o hb4);have yM:=aa (eF ig.o hb4);clear hb4 LL ig;go_wp2_with fail;go_roundw
   case rel=>exact⟨k+1,by go_num,by omega,by rw[HA.o];first|rfl|(congr 1;push_cast;omega),by rw[HP.o,QZ];exact Vf.o,yM.o⟩
   case measure=>simp[intOf];omega
  .obtain rfl:k=(fH h l).length:=(by omega);have HE:=aa HOW.o;rw[aS]at HE;clear HOW;go_wp2_with fail;go_ret;refine⟨_,rfl,?_,ko.o.trans (HB.o.mono ko.o.size)⟩;unfold eV;rw[DF];exact zY HE.o ko.o.size
end
end
section
open Go.RowKit
attribute [local go_sem] ay
structure jM (w:World) (B mg mb:Nat) (hp:Value) (v:Value) (ws:List Nat) (pl:List (Nat × Nat)) (t0 t1 t2 t3 t4:Nat):Prop where
 box:eW w mg 172 #[hp,.map (some mb),v,.int .i64 (t0:Int),.int .i64 (t1:Int),.int .i64 (t2:Int),.int .i64 (t3:Int),.int .i64 (t4:Int)]
 own:w.ownsRow B 32 1 v ws.length (eN ws)
 map:lS 54 54 .u32 w mb pl.length (fun x=>(lX pl x:Nat)) (fun x=>decide (x∈pl.map (·.1)))
 hg:B<=mg
 hm:B<=mb
structure xv (mg:Nat) (v v':Value) (w w':World):Prop where
 os:w'.os=w.os
 tape:w'.tape=w.tape
 output:w'.output=w.output
 size:w.heap.size<=w'.heap.size
 same:∀ k,k<w.heap.size->k≠mg->v.ownBlock≠some k->w'.heap[k]? = w.heap[k]?
 blk:v'.ownBlock=v.ownBlock\/∃ k,v'.ownBlock=some k/\w.heap.size<=k
theorem xv.refl (mg:Nat)(v:Value)(w:World):xv mg v v w w:=⟨rfl,rfl,rfl,aq _,fun _ _ _ _=>rfl,.inl rfl⟩
theorem xv.apa {mg:Nat}{v:Value}{w w':World}(h:Below w.heap.size w w'):xv mg v v w w':=⟨h.os,h.tape,h.output,h.size,fun k hk _ _=>h.block k hk,.inl rfl⟩
theorem xv.trans {mg:Nat}{v v1 v2:Value}{w w1 w2:World}(h:xv mg v v1 w w1)(k:xv mg v1 v2 w1 w2):xv mg v v2 w w2:=by
 refine⟨k.os.trans h.os,k.tape.trans h.tape,k.output.trans h.output,aI h.size k.size,fun q hq hm hv=>?_,?_⟩
 .refine (k.same q (aF hq h.size) hm (fun e=>?_)).trans (h.same q hq hm hv);rcases h.blk with h1|⟨j,h1,h2⟩
  .exact hv (h1 ▸ e)
  .rw[h1]at e;injection e with e;omega
 .rcases k.blk with h1|⟨j,h1,h2⟩
  .rw[h1];exact h.blk
  .exact .inr ⟨j,h1,aI h.size h2⟩
theorem xv.row {mg g c:Nat}{v v':Value}{w w':World}{e:TypeId}{xs:List Value}(h:xv mg v v' w w')(r:Row w g e c xs)(hm:g≠mg)(hv:v.ownBlock≠some g):Row w' g e c xs/\v'.ownBlock≠some g:=
 ⟨r.same (h.same g r.lt hm hv),fun e=>by
   rcases h.blk with h1|⟨j,h1,h2⟩
   .exact hv (h1 ▸ e)
   .rw[h1]at e;injection e with e;have:=r.lt;omega⟩
theorem xv.aqh {mg g:Nat}{v v':Value}{w w':World}{t:TypeId}{cs:Array Value}(h:xv mg v v' w w')(r:eW w g t cs)(hm:g≠mg)(hv:v.ownBlock≠some g):eW w' g t cs:=r.same (h.same g r.lt hm hv)
theorem xv.below {mg B:Nat}{v v':Value}{w w':World}(h:xv mg v v' w w')(hm:B<=mg)(hv:∀ k,v.ownBlock=some k->B<=k)(hw:B<=w.heap.size):Below B w w':=
 ⟨h.os,h.tape,h.output,h.size,fun k hk=>h.same k (by omega) (by omega) (fun e=>by have:=hv k e;omega)⟩
section
variable {w w':World}{B mg mb:Nat}{hp v:Value}{ws:List Nat}{pl:List (Nat × Nat)}{t0 t1 t2 t3 t4:Nat}
theorem jM.below (M:jM w B mg mb hp v ws pl t0 t1 t2 t3 t4)(h:Below w.heap.size w w'):jM w' B mg mb hp v ws pl t0 t1 t2 t3 t4:=
 ⟨M.box.below h M.box.lt,mC M.own h,M.map.below h,M.hg,M.hm⟩
theorem jM.drew (M:jM w B mg mb hp v ws pl t0 t1 t2 t3 t4):jM w.drew B mg mb hp v ws pl t0 t1 t2 t3 t4:=M.below ⟨rfl,rfl,rfl,aq _,fun _ _=>rfl⟩
theorem nx (M:jM w B mg mb hp v ws pl t0 t1 t2 t3 t4){o:Nat}(ho:o<4294967296):
 Calls Tryz.prog 92 #[.pointer (some ⟨mg,0,none⟩),.int .u32 o] w (Fq (.tuple #[.int .u32 (fC pl o:Nat),.bool (!lV pl o)]) w):=by
 have c1:=M.box.cell 1;have hlk:=M.map.look_ok ac_ ho;have HK:=aa (xD o ho w);by_cases hk:eR o=2
 .have hk2:k2 o=true:=by unfold k2;simpa using hk
  rw[hk2]at HK;have HW:=aa (show fC pl o=lX pl o by unfold fC;rw[if_pos hk]);have HD:=aa (show (!lV pl o)=decide (o∈pl.map (·.1)) by
   unfold lV;by_cases hm:o∈pl.map (·.1)
   .rw[decide_eq_true hm,decide_eq_false (fun h=>h.2 hm)];rfl
   .rw[decide_eq_false hm,decide_eq_true ⟨hk,hm⟩];rfl)
  clear M hk hk2;generalize lX pl o=y at*;generalize decide (o∈pl.map (·.1))=b at*;go_enter Tryz.func92,Tryz.ntmps92;go_wp2_with fail;refine HK.o.mono ?_;rintro e w' ⟨rfl,rfl⟩;go_wp2_with fail;go_ret2;exact⟨by rw[HW.o,HD.o];rfl,rfl⟩
 .have hk2:k2 o=false:=by unfold k2;simpa using hk
  rw[hk2]at HK;have HW:=aa (show fC pl o=o by unfold fC;rw[if_neg hk]);have HD:=aa (show (!lV pl o)=true by unfold lV;rw[decide_eq_false (fun h=>hk h.1)];rfl);clear M hk hk2 hlk c1;go_enter Tryz.func92,Tryz.ntmps92;go_wp2_with fail;refine HK.o.mono ?_;rintro e w' ⟨rfl,rfl⟩;go_wp2_with fail;go_ret2;exact⟨by rw[HW.o,HD.o];rfl,rfl⟩
theorem ug {w2 w3:World}{o:Obj}(M:jM w2 B mg mb hp v ws pl t0 t1 t2 t3 t4)(hg:(w2.alloc o).grownBy w3 v.ownBlock):
 eW w3 mg 172 #[hp,.map (some mb),v,.int .i64 (t0:Int),.int .i64 (t1:Int),.int .i64 (t2:Int),.int .i64 (t3:Int),.int .i64 (t4:Int)]:=
 M.box.same ((hg.block mg (by have:=M.box.lt;simp;omega) (fun e=>gL M.own M.box (by decide) (by first|exact e|exact e.symm))).trans (Below.heap_alloc w2 o mg M.box.lt))
theorem sF {w2 w3:World}{o:Obj}{v1:Value}{ns:List Nat}(M:jM w2 B mg mb hp v ws pl t0 t1 t2 t3 t4)(hown:w3.ownsRow B 32 1 v1 (ws.length+ns.length) (eN ws++eN ns))(hg:(w2.alloc o).grownBy w3 v.ownBlock)
 (hat:v1.ownBlock=v.ownBlock\/v1.ownBlock=some (w2.alloc o).heap.size):
 jM (w3.setCell ⟨mg,2,none⟩ v1) B mg mb hp v1 (ws++ns) pl t0 t1 t2 t3 t4/\xv mg v v1 w2 (w3.setCell ⟨mg,2,none⟩ v1):=by
 have hb3:=ug M hg;have tr:∀ q,q≠mg->(w3.setCell ⟨mg,2,none⟩ v1).heap[q]? = w3.heap[q]? :=fun q hq=>Below.heap_setCell w3 ⟨mg,2,none⟩ v1 q hq;have po:∀ q,q<w2.heap.size->v.ownBlock≠some q->w3.heap[q]? = w2.heap[q]? :=fun q hq hn=>(hg.block q (by simp;omega) (fun e=>hn (by first|exact e|exact e.symm))).trans (Below.heap_alloc w2 o q hq);have hsz:w2.heap.size<=w3.heap.size:=aI (by simp) hg.size;have hown':w3.ownsRow B 32 1 v1 (ws++ns).length (eN (ws++ns)):=by
  rw[nZ,aj];exact hown
 have hmg:mb≠mg:=M.map.aph M.box
 refine⟨⟨hb3.apg 2 v1,jy hown' (fun q hq=>tr q (fun e=>gL hown' hb3 (by decide) (e ▸ hq))),M.map.same ((tr mb hmg).trans (po mb M.map.lt (ui M.own M.map))),M.hg,M.hm⟩,
  ⟨hg.os,hg.tape,hg.output,by simp[aM];exact hsz,fun q hq hm hv=>(tr q hm).trans (po q hq hv),?_⟩⟩
 rcases hat with h|h
 .exact .inl h
 .exact .inr ⟨_,h,by simp⟩
theorem Dg (M:jM w B mg mb hp v ws pl t0 t1 t2 t3 t4):jM (w.setCell ⟨mg,7,none⟩ (.int .i64 ((t4:Int)+1))) B mg mb hp v ws pl t0 t1 t2 t3 (t4+1)/\xv mg v v w (w.setCell ⟨mg,7,none⟩ (.int .i64 ((t4:Int)+1))):=by
 have tr:∀ q,q≠mg->(w.setCell ⟨mg,7,none⟩ (.int .i64 ((t4:Int)+1))).heap[q]? = w.heap[q]? :=fun q hq=>Below.heap_setCell w ⟨mg,7,none⟩ _ q hq;refine⟨⟨?_,jy M.own (fun q hq=>tr q (fun e=>gL M.own M.box (by decide) (e ▸ hq))),M.map.same (tr mb (M.map.aph M.box)),M.hg,M.hm⟩,⟨rfl,rfl,rfl,by simp[aM],fun q _ hm _=>tr q hm,.inl rfl⟩⟩;exact M.box.apg 7 (.int .i64 ((t4:Int)+1))
end
end
section
open Go.RowKit
attribute [local go_sem] ay
theorem NQ (wx:World)(ad:Addr)(n c l h:Nat)(h1:l<=h)(h2:h<=c):
 (Instr.slice 84 (.slice (some ad) n c) (some (.int .i64 (l:Int))) (some (.int .i64 (h:Int))) none).run Tryz.prog wx= .ok (.slice (if c=l then some ad else some (ad.add l)) (h-l) (c-l)) wx:=by
 have he:Program.elem Tryz.prog 84=32:=by simp[Program.elem,Tryz.underlying84]
 have hz:∀ w,(Go.sizeOf 32).run Tryz.prog w= .ok 1 w:=fun w=>by go_simp
 rw[run_slice_lh (P:=Tryz.prog) wx 84 (some ad) n c (by rw[he];exact Tryz.underlying84) .i64 .i64 l h (by omega) (by omega) (by omega),he,hz];simp only[Result.andThen,sliced];simp
def aaP (B mg mb:Nat)(hp v:Value)(ws:List Nat)(pl:List (Nat × Nat))(t0 t1 t2 t3 t4:Nat)(w:World)(e:Ending)(w':World):Prop:=
 e= .returned (.tuple #[])/\∃ v',jM w' B mg mb hp v' ws pl t0 t1 t2 t3 t4/\xv mg v v' w w'
section
variable {w:World}{p:HP}{h:HM}{l:List Ob}{B mg mb go co void:Nat}{v:Value}{ws:List Nat}{pl:List (Nat × Nat)}{t0 t1 t2 t3 t4:Nat}
theorem Uy (M:jM w B mg mb (ptr p.g) v ws pl t0 t1 t2 t3 t4)(H:fO w p h)(G:h.Good l)(hs:eX w){k:Nat}(hk:k<l.length)(hO:Row w go 32 co (eN h.words))(hne:v.ownBlock≠some go)(hB:B<=w.heap.size)
 (hwh:∀ x,x<4294967296->fC pl x<4294967296)(hvd:void<4294967296)(Gt:ws.length<=1048576)(ht4:t4<=1000000000000):
 Calls Tryz.prog 93 #[.pointer (some ⟨mg,0,none⟩),.int .u32 (2*eG (l.take k):Nat),.slice (some ⟨go,0,none⟩) h.words.length co,.int .u32 void] w
  (aaP B mg mb (ptr p.g) v (ws++(j6 pl void (l[k])).ws) pl t0 t1 t2 t3 (t4+lU pl (l[k])) w):=by
 have L:=G.laid;rw[kj l k hk]at L;have hib:h.isB (2*eG (l.take k))=true:=zH G k hk;have ho:=qi G hib;have HH:=aa (jm H G.fit G.laid.heads hs _ ho);have hV:h.api (2*eG (l.take k))= .tuple #[(l[k]).x.val,.int .i64 0]:=by
  unfold HM.api;rw[hib,fT,zx G k hk];rfl
 rw[hV]at HH;have HI:=aa (fun (w':World)=>pq (2*eG (l.take k)) ho w');have hIV:nP (2*eG (l.take k))= .tuple #[.int .i64 (eG (l.take k):Nat),.int .i64 0]:=by
  unfold nP;rw[rM,fT];rfl
 rw[hIV]at HI;have K:=L.apP;have VU:=L.words_len;have hroom:=G.fit.room;have Br:=G.fit.hi;have agM:=hO.aqW;rw[eY]at agM;have hw0:h.words.getD (eG (l.take k)) 0=(l[k]).x.w0:=by
  have:=L.aqf 0 (by omega);rw[aW,Yu]at this;exact this
 have hfd:∀ j,j<(l[k]).fs.length->h.words.getD (eG (l.take k)+3+j) 0=(l[k]).fs.getD j 0:=fun j hj=>by
  have:=L.aqf (3+j) (by omega);rw[Nat.add_comm 3 j,adc,<-Nat.add_assoc]at this;rw[show eG (l.take k)+3+j=eG (l.take k)+j+3 by omega];exact this
 have HM:=aa M;have hO':=hO;have HO:=aa hO;have pS:=aa hne;have HWH:=aa hwh;have OV:=aa hfd;have Fl:=aa hw0;have HK:=aa K;have hsz:=K.size;have Qa:=K.fit.cls;have hs5:(l[k]).fs.length<=65535:=by
  have:=K.may;unfold Hd.may at this;simp at this;omega
 clear L M H G hs hO hne hwh hfd hw0 K hV hIV hib;generalize hb:l[k]=b at*;clear hb;generalize eG (l.take k)=at_ at*;obtain⟨⟨n,t,s,c,r⟩,fs⟩:=b;simp only at hsz Qa hs5 VU;have anG:at_+3+fs.length<=h.words.length:=by omega
 clear VU;subst hsz;unfold Hd.val at HH;unfold ptr at HH ⊢;go_enter Tryz.func93,Tryz.ntmps93;have c0:=HM.o.box.cell 0;unfold ptr at c0;go_wp2_with fail;refine HH.o.mono ?_;rintro e w1 ⟨rfl,hb1⟩;have hb2:=hb1.alloc hb1.size (.cells #[.int .i64 (fs.length:Int),.int .i64 (t:Int),.int .i64 (s:Int),.int .u32 (c:Int),.int .u32 (r:Int)] 75);have BX:=aa (eW.new w1 75 #[.int .i64 (fs.length:Int),.int .i64 (t:Int),.int .i64 (s:Int),.int .u32 (c:Int),.int .u32 (r:Int)]);have tM:=aa hb2;have Ud:w.heap.size<=w1.heap.size:=hb1.size;clear c0 hb1 hb2 HH;go_upto_region 1 with fail;generalize w1.alloc (.cells #[.int .i64 (fs.length:Int),.int .i64 (t:Int),.int .i64 (s:Int),.int .u32 (c:Int),.int .u32 (r:Int)] 75)=W2 at*;generalize w1.heap.size=b8 at*;go_wp2_with fail;refine (HI.o W2).mono ?_;rintro e w3 ⟨rfl,rfl⟩;obtain⟨x0,x1,x2,x3,x4⟩:=BX.o.apd;have Fk:=aa (HM.o.below tM.o);have HWC:=aa (nx Fk.o Qa);go_wp2_with fail;refine HWC.o.mono ?_;rintro e w4 ⟨rfl,rfl⟩;go_upto_region 3 with fail;have acV:=HO.o.below tM.o;have Gj:at_<h.words.length:=by omega
 have hcw:=acV.cell (ft (l:=h.words) (i:=at_) Gj);rw[Fl.o]at hcw;have HOW:=aa acV;obtain⟨i0,iF,hz0,hz1,hz2⟩:=info_parts jR;have uK:=aa (HWH.o c Qa);have pR:=aa (show lU pl ⟨⟨fs.length,t,s,c,r⟩,fs⟩=if Hd.apb ⟨fs.length,t,s,c,r⟩=true then (fs.filter (lV pl)).length else 0 from rfl);have Ss:=aa (show (j6 pl void ⟨⟨fs.length,t,s,c,r⟩,fs⟩).ws=[Hd.w0 ⟨fs.length,t,s,c,r⟩,fC pl c,r]++(if Hd.apb ⟨fs.length,t,s,c,r⟩=true then fs.map (tW pl void) else fs) by unfold j6 Ob.ws Hd.w0;simp only;split <;> rfl);have HMF:=aa (show xv mg v v w W2 from xv.apa tM.o);have Cw:=aa (show mg<b8 from aF HM.o.box.lt Ud);have Gm:mg≠go:=fun e=>(hO'.aph HM.o.box (by decide)) e.symm;generalize Hd.w0 ⟨fs.length,t,s,c,r⟩=w0 at*;generalize hcm:fC pl c=c' at*;generalize j6 pl void ⟨⟨fs.length,t,s,c,r⟩,fs⟩=RB at*;generalize lU pl ⟨⟨fs.length,t,s,c,r⟩,fs⟩=CB at*;clear hcm HWC Fl HM;refine iB 16 (fun w'=>w'.cell? ⟨mg,2,none⟩=some v/\w'.cell? ⟨go,at_,none⟩=some (.int .u32 (w0:Int))/\w'.cell? ⟨b8,4,none⟩=some (.int .u32 (r:Int))) (by kernel_rfl) ?_;have ID:=aa Fk.o.drew;have WO:=aa (show Row W2.drew go 32 co (eN h.words) from HOW.o);have V4:=aa (show eW W2.drew b8 75 #[.int .i64 (fs.length:Int),.int .i64 (t:Int),.int .i64 (s:Int),.int .u32 (c:Int),.int .u32 (r:Int)] from BX.o);have Tb:=aa (show xv mg v v w W2.drew from HMF.o.trans (xv.apa ⟨rfl,rfl,rfl,aq _,fun _ _=>rfl⟩));have vh:W2.drew.cell? ⟨go,at_,none⟩=some (.int .u32 (w0:Int)):=hcw;clear x0 x1 x2 x3 x4 Fk HOW BX HMF hcw tM;generalize W2.drew=wq at*;have hS:wq.cell? ⟨mg,2,none⟩=some v/\wq.cell? ⟨go,at_,none⟩=some (.int .u32 (w0:Int))/\wq.cell? ⟨b8,4,none⟩=some (.int .u32 (r:Int)):=⟨ID.o.box.cell 2,vh,V4.o.cell 4⟩;refine eT 0 (v:=(.pointer (some ⟨mg,0,none⟩))) rfl (by kernel_rfl) (fun _ _ _ h=>h) hS (by rfl) (fun w' hw'=>by obtain⟨h0,h1,h2⟩:=hw';go_simp) ?_;try simp only[ak,ae,af,ag]
 refine eT 1 (v:=(.pointer (some ⟨mg,0,none⟩))) rfl (by kernel_rfl) (fun _ _ _ h=>h) hS (by rfl) (fun w' hw'=>by obtain⟨h0,h1,h2⟩:=hw';go_simp) ?_;try simp only[ak,ae,af,ag]
 refine eT 2 (v:=(.pointer (some ⟨mg,0,none⟩))) rfl (by kernel_rfl) (fun _ _ _ h=>h) hS (by rfl) (fun w' hw'=>by obtain⟨h0,h1,h2⟩:=hw';go_simp) ?_;try simp only[ak,ae,af,ag]
 refine eT 3 (v:=(.pointer (some ⟨mg,2,none⟩))) rfl (by kernel_rfl) (fun _ _ _ h=>h) hS (by rfl) (fun w' hw'=>by obtain⟨h0,h1,h2⟩:=hw';go_simp) ?_;try simp only[ak,ae,af,ag]
 refine eT 4 (v:=v) rfl (by kernel_rfl) (fun _ _ _ h=>h) hS (by rfl) (fun w' hw'=>by obtain⟨h0,h1,h2⟩:=hw';go_simp) ?_;try simp only[ak,ae,af,ag]
 refine eT 5 (v:=(.slice (some ⟨go,0,none⟩) h.words.length co)) rfl (by kernel_rfl) (fun _ _ _ h=>h) hS (by rfl) (fun w' hw'=>by obtain⟨h0,h1,h2⟩:=hw';go_simp) ?_;try simp only[ak,ae,af,ag]
 refine eT 6 (v:=(.int .i64 (at_:Int))) rfl (by kernel_rfl) (fun _ _ _ h=>h) hS (by rfl) (fun w' hw'=>by obtain⟨h0,h1,h2⟩:=hw';go_simp) ?_;try simp only[ak,ae,af,ag]
 refine eT 7 (v:=(.pointer (some ⟨go,at_,none⟩))) rfl (by kernel_rfl) (fun _ _ _ h=>h) hS (by rfl) (fun w' hw'=>by obtain⟨h0,h1,h2⟩:=hw';go_simp) ?_;try simp only[ak,ae,af,ag]
 refine eT 8 (v:=(.int .u32 (w0:Int))) rfl (by kernel_rfl) (fun _ _ _ h=>h) hS (by rfl) (fun w' hw'=>by obtain⟨h0,h1,h2⟩:=hw';go_simp) ?_;try simp only[ak,ae,af,ag]
 refine eT 9 (v:=(.int .u32 (c':Int))) rfl (by kernel_rfl) (fun _ _ _ h=>h) hS (by rfl) (fun w' hw'=>by obtain⟨h0,h1,h2⟩:=hw';go_simp) ?_;try simp only[ak,ae,af,ag]
 refine eT 10 (v:=(.pointer (some ⟨b8,4,none⟩))) rfl (by kernel_rfl) (fun _ _ _ h=>h) hS (by rfl) (fun w' hw'=>by obtain⟨h0,h1,h2⟩:=hw';go_simp) ?_;try simp only[ak,ae,af,ag]
 refine eT 11 (v:=(.int .u32 (r:Int))) rfl (by kernel_rfl) (fun _ _ _ h=>h) hS (by rfl) (fun w' hw'=>by obtain⟨h0,h1,h2⟩:=hw';go_simp) ?_;try simp only[ak,ae,af,ag]
 refine fh 12 (by kernel_rfl) rfl rfl (fun K hK=>?_);go_simp;have YJ:=aa (ID.o.below ((Below.refl _ _).alloc (aq _) (.cells #[.int .u32 (w0:Int),.int .u32 (c':Int),.int .u32 (r:Int)] 32)))
 have PY:(wq.alloc (.cells #[.int .u32 (w0:Int),.int .u32 (c':Int),.int .u32 (r:Int)] 32)).cell? ⟨mg,2,none⟩=some v/\(wq.alloc (.cells #[.int .u32 (w0:Int),.int .u32 (c':Int),.int .u32 (r:Int)] 32)).cell? ⟨go,at_,none⟩=some (.int .u32 (w0:Int))/\(wq.alloc (.cells #[.int .u32 (w0:Int),.int .u32 (c':Int),.int .u32 (r:Int)] 32)).cell? ⟨b8,4,none⟩=some (.int .u32 (r:Int)):=
  ⟨YJ.o.box.cell 2,(aw (Below.heap_alloc wq _ go WO.o.lt)).trans hS.2.1,(aw (Below.heap_alloc wq _ b8 V4.o.lt)).trans hS.2.2⟩
 refine hK _ _ (fun _=>PY) ?_;clear hK K;try simp only[ak,ae,af,ag]
 refine fh 13 (by kernel_rfl) rfl rfl (fun K hK=>?_);refine fS _ (.tmp 43) (.tmp 51) _ rfl B 32 i0 _ 1 4 Tryz.underlying84 iF hz0 hz1 hz2 rfl (by omega) v ws.length (eN ws) rfl YJ.o.own (wq.heap.size+1) (some ⟨wq.heap.size,0,none⟩) 3 3 (eN [w0,c',r]) rfl ⟨rfl,fun _=>⟨_,rfl,by simp,fun j u hu=>by
  rw[aC,aH];refine ((eW.new wq 32 #[.int .u32 (w0:Int),.int .u32 (c':Int),.int .u32 (r:Int)]).cell j).trans ?_;rw[<-hu];simp[eN]⟩⟩ (fU _) (by simp only[maxLen];omega) (by omega) (by have:=Tb.o.size;simp;omega) ?_
 intro v5 w5 fe hg5 j0;obtain⟨A5,c5,rfl⟩:=kY fe;have iW:=ug ID.o hg5;have nG:=aa (sF (ns:=[w0,c',r]) ID.o fe hg5 j0);have tE:=iW.frozen 2;have tD:=iW.cell 2;have Jq:∀ q,q<wq.heap.size->v.ownBlock≠some q->w5.heap[q]? = wq.heap[q]? :=fun q hq hn=>(hg5.block q (by simp;omega) (fun e=>hn (by first|exact e|exact e.symm))).trans (Below.heap_alloc wq _ q hq)
 have TZ:w5.cell? ⟨mg,2,none⟩=some v/\w5.cell? ⟨go,at_,none⟩=some (.int .u32 (w0:Int))/\w5.cell? ⟨b8,4,none⟩=some (.int .u32 (r:Int)):=
  ⟨tD,(aw (Jq go WO.o.lt pS.o)).trans hS.2.1,(aw (Jq b8 V4.o.lt (gL ID.o.own V4.o (by decide)))).trans hS.2.2⟩
 have hn8:v.ownBlock≠some b8:=gL ID.o.own V4.o (by decide);clear iW fe hg5 j0 YJ Jq;refine hK _ _ (fun _=>TZ) ?_;clear hK K;try simp only[ak,ae,af,ag]
 refine fh 14 (by kernel_rfl) rfl rfl (fun K hK=>?_);go_simp;refine hK _ _ (fun _=>TZ) ?_;clear hK K;try simp only[ak,ae,af,ag]
 refine fh 15 (by kernel_rfl) rfl rfl (fun K hK=>?_);go_simp;refine hK _ _ (fun _=>TZ) ?_;clear hK K;try simp only[ak,ae,af,ag]
 refine fh 16 (by kernel_rfl) rfl rfl (fun K hK=>?_);go_simp;refine hK _ _ (fun h=>absurd h (by decide)) ?_;clear hK K;try simp only[ak,ae,af,ag]
 refine g_ (by kernel_rfl) ?_ _;simp only[Calm,Exit.then];have ahj:b8≠mg:=by have:=Cw.o;omega
 obtain⟨CZ,acp⟩:=nG.o.2.row WO.o (fun e=>Gm e.symm) pS.o;have ww:=aa CZ;have WJ:=aa acp;have BX6:=aa (nG.o.2.aqh V4.o ahj hn8);have YI:=aa nG.o.1;have Si:=aa (Tb.o.trans nG.o.2);clear CZ acp hS PY TZ tE tD nG WO V4 ID Tb hn8 vh;generalize w5.setCell ⟨mg,2,none⟩ (.slice A5 (ws.length+3) c5)=W6 at*;generalize (Value.slice A5 (ws.length+3) c5)=v6 at*;obtain⟨x0,x1,x2,x3,x4⟩:=BX6.o.apd;have Iw:=fun (wx:World)=>NQ wx ⟨go,0,none⟩ h.words.length co (at_+3) (at_+3+fs.length) (by omega) (by omega);obtain⟨A7,hA7⟩ :∃ A7,A7=(if co=at_+3 then some (⟨go,0,none⟩ :Addr) else some ((⟨go,0,none⟩ :Addr).add (at_+3))):=⟨_,rfl⟩;rw[<-hA7,show at_+3+fs.length-(at_+3)=fs.length by omega]at Iw;have SS:=aa (show 0<fs.length->A7=some ⟨go,at_+3,none⟩ from fun h0=>by
  rw[hA7,if_neg (by omega),aC,aH])
 have e1:((at_+3:Nat):Int)=(at_:Int)+3:=by push_cast;rfl
 have e2:((at_+3+fs.length:Nat):Int)=(at_:Int)+3+(fs.length:Int):=by push_cast;rfl
 rw[e1,e2]at Iw;clear e1 e2 hA7;obtain⟨Fm,hFm⟩ :∃ Fm:Nat->Nat,∀ x,Fm x=if Hd.apb ⟨fs.length,t,s,c,r⟩=true then tW pl void x else x:=⟨_,fun _=>rfl⟩
 obtain⟨Df,hDf⟩ :∃ Df:Nat->Bool,∀ x,Df x=(Hd.apb ⟨fs.length,t,s,c,r⟩ && lV pl x):=⟨_,fun _=>rfl⟩;have II:=aa (show RB.ws=[w0,c',r]++fs.map Fm by
  rw[Ss.o];congr 1;by_cases hp:Hd.apb ⟨fs.length,t,s,c,r⟩=true
  .rw[if_pos hp];exact ax (fun x _=>by rw[hFm,if_pos hp])
  .rw[if_neg hp];have:fs.map Fm=fs.map id:=ax (fun x _=>by rw[hFm,if_neg hp];rfl);rw[this,aQ])
 have Cr:=aa (show CB=(fs.filter Df).length by
  rw[pR.o];by_cases hp:Hd.apb ⟨fs.length,t,s,c,r⟩=true
  .rw[if_pos hp];congr 1;exact List.filter_congr (fun x _=>by rw[hDf,hp];rfl)
  .rw[if_neg hp];have:fs.filter Df=[]:=List.filter_eq_nil_iff.2 (fun x _=>by rw[hDf];simp[hp]);rw[this];rfl)
 have ZL:=aa hFm;have ZI:=aa hDf;have Ks:=aa (show Hd.apb ⟨fs.length,t,s,c,r⟩=(decide (t=1) || decide (t=4)) from rfl);have yL:=aa HK.o.f32;clear hFm hDf Ss pR HK;go_wp2_with fail;clear x0 x1 x2 x3 x4
 go_loopw [15,16,17,65] (fun _ _ _ iv wr=>∃ (k:Nat) (v':Value),iv= .int .i64 k/\k<=fs.length/\jM wr B mg mb (ptr p.g) v' ((ws++[w0,c',r])++(fs.take k).map Fm) pl t0 t1 t2 t3 (t4+((fs.take k).filter Df).length)/\Row wr go 32 co (eN h.words)/\v'.ownBlock≠some go/\eW wr b8 75 #[.int .i64 (fs.length:Int),.int .i64 (t:Int),.int .i64 (s:Int),.int .u32 (c:Int),.int .u32 (r:Int)]/\xv mg v v' w wr) (fun _ _ _ iv _=>fs.length-(intOf iv).toNat)
 case atStart=>exact⟨0,v6,rfl,by omega,by simpa using YI.o,ww.o,WJ.o,BX6.o,Si.o⟩
 case round=>
  clear YI ww WJ BX6 Si;obtain⟨k,v',rfl,hk,hm,hro,hnv,Mo,hf⟩:=hrel;have HM:=aa hm;have Il:=aa hro;have O4:=aa hnv;have ni:=aa Mo;have HF:=aa hf;clear hm hro hnv Mo hf;by_cases hlt:k<fs.length
  .have hA:=SS.o (by omega);subst hA;have Uj:at_+3+k<h.words.length:=(by omega);have mh:=Il.o.cell (ft (l:=h.words) (i:=at_+3+k) Uj);rw[OV.o k hlt]at mh;have qW:fs.getD k 0<4294967296:=vg yL.o k;have uD:((fs.take k).filter Df).length<=65535:=(by have:=aB Df (fs.take k);rw[List.length_take]at this;omega);have acZ:((ws++[w0,c',r])++(fs.take k).map Fm).length<=2000000:=(by simp;omega);have mn:=aa (show (ws++[w0,c',r])++(fs.take (k+1)).map Fm=((ws++[w0,c',r])++(fs.take k).map Fm)++[Fm (fs.getD k 0)] by
    rw[az,ah hlt,aD,au,au,au,ai,ah hlt];rfl)
   have ZF:=aa (show t4+((fs.take (k+1)).filter Df).length=t4+((fs.take k).filter Df).length+(if Df (fs.getD k 0)=true then 1 else 0) by
    rw[az,ah hlt,List.filter_append,aj,ai,ah hlt];simp only[Option.toList_some,Option.getD_some,List.filter_cons,List.filter_nil];split <;> simp <;> omega)
   have HT4:=aa (show t4+((fs.take k).filter Df).length<=1000000065535 by omega);generalize fs.getD k 0=x at*;generalize (ws++[w0,c',r])++(fs.take k).map Fm=WS at*;generalize t4+((fs.take k).filter Df).length=T at*;have hc1:=ni.o.cell 1;have wy:=HM.o.box.cell 2;have hBw:B<=wr.heap.size:=(by have:=HF.o.size;omega);have Jm:b8≠mg:=(by have:=Cw.o;omega);by_cases h1:t=1
   .by_cases hdd:lV pl x=true
    .skip
     have XU:((t:Int) == 1)=true:=(by simp;omega);have sw:Hd.apb ⟨fs.length,t,s,c,r⟩=true:=(by rw[Ks.o];simp[h1]);have HY:=aa (show Fm x=void by
      rw[ZL.o,sw,if_pos rfl];unfold tW lV at*;rw[if_pos (of_decide_eq_true hdd)])
     have HD:=aa (show (if Df x=true then 1 else 0)=1 by rw[ZI.o,sw,hdd];rfl);have E9:=aa (nx HM.o qW);rw[hdd]at E9;have rf:=aa (Dg HM.o);have hz7:=HM.o.box.frozen 7;have hm7:=HM.o.box.cell 7;have hT:=HT4.o;generalize fC pl x=wx at E9;clear sw hdd h1;go_wp2_with fail;refine E9.o.mono ?_;rintro e w7 ⟨rfl,rfl⟩;have OU:=aa (HF.o.trans rf.o.2);have Cz:=aa (rf.o.2.row Il.o (fun e=>Gm e.symm) O4.o);have HX7:=aa (rf.o.2.aqh ni.o Jm (gL HM.o.own ni.o (by decide)));have Cv:=aa rf.o.1;have HRA:=aa Cz.o.1;have HRB:=aa Cz.o.2;go_upto_region 12 with fail;clear mh hm7 hz7 wy hc1 E9 rf;generalize wr.setCell ⟨mg,7,none⟩ (.int .i64 ((T:Int)+1))=W7 at*;have Uk:=Cv.o.box.cell 2;have TT:B<=W7.heap.size:=(by have:=OU.o.size;omega);go_wp2_with (at_builtin;refine eM _ rfl (.tmp 100) (.tmp 102) _ rfl B 32 i0 _ 1 4 Tryz.underlying84 iF hz0 hz1 hz2 rfl (by omega) v' WS.length _ rfl (jy Cv.o.own (fun q hq=>Below.heap_alloc W7 (.cells #[.int .u32 (void:Int)] 32) q (Cv.o.own.lt q hq).2)) (W7.heap.size+1) (some ⟨W7.heap.size,0,none⟩) 1 1 (eN [void]) rfl ⟨rfl,fun _=>⟨_,rfl,by simp,cell_one_new _ _ _⟩⟩ (fU _) (by simp only[maxLen];omega) (by omega) (by simp;omega) ?_;intro v8 w8 ke jH tj;obtain⟨A8,c8,rfl⟩:=kY ke;have mG:=aa (sF (ns:=[void]) Cv.o ke jH tj);have l9:=ug Cv.o jH;have Zf:=l9.frozen 2;have hc8:=l9.cell 2;clear ke jH tj l9);have Fi:=aa (OU.o.trans mG.o.2);have ri:=aa (mG.o.2.row HRA.o (fun e=>Gm e.symm) HRB.o);have TB:=aa (mG.o.2.aqh HX7.o Jm (gL Cv.o.own HX7.o (by decide)));have yx:=aa mG.o.1;go_wp2_with fail;go_roundw
     case rel=>exact⟨k+1,_,by go_num,by omega,by rw[mn.o,ZF.o,HY.o,HD.o];exact yx.o,ri.o.1,ri.o.2,TB.o,Fi.o⟩
     case measure=>simp[intOf];omega
    .have hdd:lV pl x=false:=(by simpa using hdd);have XU:((t:Int) == 1)=true:=(by simp;omega);have sw:Hd.apb ⟨fs.length,t,s,c,r⟩=true:=(by rw[Ks.o];simp[h1]);have HY:=aa (show Fm x=fC pl x by
      rw[ZL.o,sw,if_pos rfl];unfold tW;rw[if_neg (fun e=>by unfold lV at hdd;rw[decide_eq_true e]at hdd;cases hdd)])
     have HD:=aa (show (if Df x=true then 1 else 0)=0 by rw[ZI.o,sw,hdd];rfl);have E9:=aa (nx HM.o qW);rw[hdd]at E9;generalize fC pl x=wx at*;clear sw hdd h1;go_wp2_with fail;refine E9.o.mono ?_;rintro e w7 ⟨rfl,rfl⟩;clear mh;have Uk:=HM.o.box.cell 2;have TT:B<=wr.heap.size:=(by have:=HF.o.size;omega);go_wp2_with (at_builtin;refine eM _ rfl (.tmp 100) (.tmp 102) _ rfl B 32 i0 _ 1 4 Tryz.underlying84 iF hz0 hz1 hz2 rfl (by omega) v' WS.length _ rfl (jy HM.o.own (fun q hq=>Below.heap_alloc wr (.cells #[.int .u32 (wx:Int)] 32) q (HM.o.own.lt q hq).2)) (wr.heap.size+1) (some ⟨wr.heap.size,0,none⟩) 1 1 (eN [wx]) rfl ⟨rfl,fun _=>⟨_,rfl,by simp,cell_one_new _ _ _⟩⟩ (fU _) (by simp only[maxLen];omega) (by omega) (by simp;omega) ?_;intro v8 w8 ke jH tj;obtain⟨A8,c8,rfl⟩:=kY ke;have mG:=aa (sF (ns:=[wx]) HM.o ke jH tj);have l9:=ug HM.o jH;have Zf:=l9.frozen 2;have hc8:=l9.cell 2;clear ke jH tj l9);have Fi:=aa (HF.o.trans mG.o.2);have ri:=aa (mG.o.2.row Il.o (fun e=>Gm e.symm) O4.o);have TB:=aa (mG.o.2.aqh ni.o Jm (gL HM.o.own ni.o (by decide)));have yx:=aa mG.o.1;go_wp2_with fail;go_roundw
     case rel=>exact⟨k+1,_,by go_num,by omega,by rw[mn.o,ZF.o,HY.o,HD.o];exact yx.o,ri.o.1,ri.o.2,TB.o,Fi.o⟩
     case measure=>simp[intOf];omega
   by_cases h4:t=4
   .by_cases hdd:lV pl x=true
    .skip
     have XU:((t:Int) == 1)=false:=(by simp;omega);have hi4:((t:Int) == 4)=true:=(by simp;omega);have sw:Hd.apb ⟨fs.length,t,s,c,r⟩=true:=(by rw[Ks.o];simp[h4]);have HY:=aa (show Fm x=void by
      rw[ZL.o,sw,if_pos rfl];unfold tW lV at*;rw[if_pos (of_decide_eq_true hdd)])
     have HD:=aa (show (if Df x=true then 1 else 0)=1 by rw[ZI.o,sw,hdd];rfl);have E9:=aa (nx HM.o qW);rw[hdd]at E9;have rf:=aa (Dg HM.o);have hz7:=HM.o.box.frozen 7;have hm7:=HM.o.box.cell 7;have hT:=HT4.o;generalize fC pl x=wx at E9;clear sw hdd h4 h1;go_wp2_with fail;refine E9.o.mono ?_;rintro e w7 ⟨rfl,rfl⟩;have OU:=aa (HF.o.trans rf.o.2);have Cz:=aa (rf.o.2.row Il.o (fun e=>Gm e.symm) O4.o);have HX7:=aa (rf.o.2.aqh ni.o Jm (gL HM.o.own ni.o (by decide)));have Cv:=aa rf.o.1;have HRA:=aa Cz.o.1;have HRB:=aa Cz.o.2;go_upto_region 12 with fail;clear mh hm7 hz7 wy hc1 E9 rf;generalize wr.setCell ⟨mg,7,none⟩ (.int .i64 ((T:Int)+1))=W7 at*;have Uk:=Cv.o.box.cell 2;have TT:B<=W7.heap.size:=(by have:=OU.o.size;omega);go_wp2_with (at_builtin;refine eM _ rfl (.tmp 100) (.tmp 102) _ rfl B 32 i0 _ 1 4 Tryz.underlying84 iF hz0 hz1 hz2 rfl (by omega) v' WS.length _ rfl (jy Cv.o.own (fun q hq=>Below.heap_alloc W7 (.cells #[.int .u32 (void:Int)] 32) q (Cv.o.own.lt q hq).2)) (W7.heap.size+1) (some ⟨W7.heap.size,0,none⟩) 1 1 (eN [void]) rfl ⟨rfl,fun _=>⟨_,rfl,by simp,cell_one_new _ _ _⟩⟩ (fU _) (by simp only[maxLen];omega) (by omega) (by simp;omega) ?_;intro v8 w8 ke jH tj;obtain⟨A8,c8,rfl⟩:=kY ke;have mG:=aa (sF (ns:=[void]) Cv.o ke jH tj);have l9:=ug Cv.o jH;have Zf:=l9.frozen 2;have hc8:=l9.cell 2;clear ke jH tj l9);have Fi:=aa (OU.o.trans mG.o.2);have ri:=aa (mG.o.2.row HRA.o (fun e=>Gm e.symm) HRB.o);have TB:=aa (mG.o.2.aqh HX7.o Jm (gL Cv.o.own HX7.o (by decide)));have yx:=aa mG.o.1;go_wp2_with fail;go_roundw
     case rel=>exact⟨k+1,_,by go_num,by omega,by rw[mn.o,ZF.o,HY.o,HD.o];exact yx.o,ri.o.1,ri.o.2,TB.o,Fi.o⟩
     case measure=>simp[intOf];omega
    .have hdd:lV pl x=false:=(by simpa using hdd);have XU:((t:Int) == 1)=false:=(by simp;omega);have hi4:((t:Int) == 4)=true:=(by simp;omega);have sw:Hd.apb ⟨fs.length,t,s,c,r⟩=true:=(by rw[Ks.o];simp[h4]);have HY:=aa (show Fm x=fC pl x by
      rw[ZL.o,sw,if_pos rfl];unfold tW;rw[if_neg (fun e=>by unfold lV at hdd;rw[decide_eq_true e]at hdd;cases hdd)])
     have HD:=aa (show (if Df x=true then 1 else 0)=0 by rw[ZI.o,sw,hdd];rfl);have E9:=aa (nx HM.o qW);rw[hdd]at E9;generalize fC pl x=wx at*;clear sw hdd h4 h1;go_wp2_with fail;refine E9.o.mono ?_;rintro e w7 ⟨rfl,rfl⟩;clear mh;have Uk:=HM.o.box.cell 2;have TT:B<=wr.heap.size:=(by have:=HF.o.size;omega);go_wp2_with (at_builtin;refine eM _ rfl (.tmp 100) (.tmp 102) _ rfl B 32 i0 _ 1 4 Tryz.underlying84 iF hz0 hz1 hz2 rfl (by omega) v' WS.length _ rfl (jy HM.o.own (fun q hq=>Below.heap_alloc wr (.cells #[.int .u32 (wx:Int)] 32) q (HM.o.own.lt q hq).2)) (wr.heap.size+1) (some ⟨wr.heap.size,0,none⟩) 1 1 (eN [wx]) rfl ⟨rfl,fun _=>⟨_,rfl,by simp,cell_one_new _ _ _⟩⟩ (fU _) (by simp only[maxLen];omega) (by omega) (by simp;omega) ?_;intro v8 w8 ke jH tj;obtain⟨A8,c8,rfl⟩:=kY ke;have mG:=aa (sF (ns:=[wx]) HM.o ke jH tj);have l9:=ug HM.o jH;have Zf:=l9.frozen 2;have hc8:=l9.cell 2;clear ke jH tj l9);have Fi:=aa (HF.o.trans mG.o.2);have ri:=aa (mG.o.2.row Il.o (fun e=>Gm e.symm) O4.o);have TB:=aa (mG.o.2.aqh ni.o Jm (gL HM.o.own ni.o (by decide)));have yx:=aa mG.o.1;go_wp2_with fail;go_roundw
     case rel=>exact⟨k+1,_,by go_num,by omega,by rw[mn.o,ZF.o,HY.o,HD.o];exact yx.o,ri.o.1,ri.o.2,TB.o,Fi.o⟩
     case measure=>simp[intOf];omega
   .skip
    have XU:((t:Int) == 1)=false:=(by simp;omega);have hi4:((t:Int) == 4)=false:=(by simp;omega);have sw:Hd.apb ⟨fs.length,t,s,c,r⟩=false:=(by rw[Ks.o];simp[h1,h4]);have HY:=aa (show Fm x=x by rw[ZL.o,sw];rfl);have HD:=aa (show (if Df x=true then 1 else 0)=0 by rw[ZI.o,sw];rfl);clear sw h1 h4;have Uk:=HM.o.box.cell 2;have TT:B<=wr.heap.size:=(by have:=HF.o.size;omega);go_wp2_with (at_builtin;refine eM _ rfl (.tmp 100) (.tmp 102) _ rfl B 32 i0 _ 1 4 Tryz.underlying84 iF hz0 hz1 hz2 rfl (by omega) v' WS.length _ rfl (jy HM.o.own (fun q hq=>Below.heap_alloc wr (.cells #[.int .u32 (x:Int)] 32) q (HM.o.own.lt q hq).2)) (wr.heap.size+1) (some ⟨wr.heap.size,0,none⟩) 1 1 (eN [x]) rfl ⟨rfl,fun _=>⟨_,rfl,by simp,cell_one_new _ _ _⟩⟩ (fU _) (by simp only[maxLen];omega) (by omega) (by simp;omega) ?_;intro v8 w8 ke jH tj;obtain⟨A8,c8,rfl⟩:=kY ke;have mG:=aa (sF (ns:=[x]) HM.o ke jH tj);have l9:=ug HM.o jH;have Zf:=l9.frozen 2;have hc8:=l9.cell 2;clear ke jH tj l9);have Fi:=aa (HF.o.trans mG.o.2);have ri:=aa (mG.o.2.row Il.o (fun e=>Gm e.symm) O4.o);have TB:=aa (mG.o.2.aqh ni.o Jm (gL HM.o.own ni.o (by decide)));have yx:=aa mG.o.1;go_wp2_with fail;go_roundw
    case rel=>exact⟨k+1,_,by go_num,by omega,by rw[mn.o,ZF.o,HY.o,HD.o];exact yx.o,ri.o.1,ri.o.2,TB.o,Fi.o⟩
    case measure=>simp[intOf];omega
  .obtain rfl:k=fs.length:=(by omega);have hE:=HM.o;rw[aS]at hE;have HE:=aa (show jM wr B mg mb (ptr p.g) v' (ws++RB.ws) pl t0 t1 t2 t3 (t4+CB) by rw[II.o,Cr.o,<-au];exact hE);clear hE HM;go_wp2_with fail;refine bodyPost_end (v:=.tuple #[]) (by simp[results,Tryz.results93,go_sem]) rfl ?_;exact⟨rfl,v',HE.o,HF.o⟩
end
end
section
open Go.RowKit
attribute [local go_sem] ay
structure Cn (a b:Nat) (w w':World):Prop where
 os:w'.os=w.os
 tape:w'.tape=w.tape
 output:w'.output=w.output
 size:w.heap.size<=w'.heap.size
 same:∀ k,k<w.heap.size->k≠a->k≠b->w'.heap[k]? = w.heap[k]?
theorem Cn.refl (a b:Nat)(w:World):Cn a b w w:=⟨rfl,rfl,rfl,aq _,fun _ _ _ _=>rfl⟩
theorem Cn.apa {a b:Nat}{w w':World}(h:Below w.heap.size w w'):Cn a b w w':=⟨h.os,h.tape,h.output,h.size,fun k hk _ _=>h.block k hk⟩
theorem Cn.trans {a b:Nat}{w w1 w2:World}(h:Cn a b w w1)(k:Cn a b w1 w2):Cn a b w w2:=
 ⟨k.os.trans h.os,k.tape.trans h.tape,k.output.trans h.output,aI h.size k.size,fun q hq h1 h2=>(k.same q (aF hq h.size) h1 h2).trans (h.same q hq h1 h2)⟩
theorem Cn.grown {a b:Nat}{w w':World}(h:w.grownBy w' (some b)):Cn a b w w':=
 ⟨h.os,h.tape,h.output,h.size,fun k hk _ h2=>h.block k hk (fun e=>h2 (by injection e))⟩
theorem Cn.setA {b:Nat}(w:World)(a:Addr)(u:Value):Cn a.block b w (w.setCell a u):=
 ⟨rfl,rfl,rfl,by simp[aM],fun k _ h1 _=>Below.heap_setCell w a u k h1⟩
theorem Cn.below {a b B:Nat}{w w':World}(h:Cn a b w w')(ha:B<=a)(hb:B<=b)(hw:B<=w.heap.size):Below B w w':=
 ⟨h.os,h.tape,h.output,h.size,fun k hk=>h.same k (by omega) (by omega) (by omega)⟩
section
variable {w w':World}{B mg mb:Nat}{hp v:Value}{ws:List Nat}{pl:List (Nat × Nat)}{t0 t1 t2 t3 t4:Nat}
theorem M2 (w:World)(hp:Value):
 jM (((w.alloc (.map #[] 0)).alloc (.cells #[.int .u32 0] 32)).alloc (.cells #[hp,.map (some w.heap.size),.slice (some ⟨w.heap.size+1,0,none⟩) 1 1,.int .i64 0,.int .i64 0,.int .i64 0,.int .i64 0,.int .i64 0] 172)) w.heap.size (w.heap.size+2) w.heap.size hp (.slice (some ⟨w.heap.size+1,0,none⟩) 1 1) [0] [] 0 0 0 0 0:=by
 have b0:=eW.new ((w.alloc (.map #[] 0)).alloc (.cells #[.int .u32 0] 32)) 172 #[hp,.map (some w.heap.size),.slice (some ⟨w.heap.size+1,0,none⟩) 1 1,.int .i64 0,.int .i64 0,.int .i64 0,.int .i64 0,.int .i64 0];rw[aJ,aJ]at b0;have r0:=eW.new (w.alloc (.map #[] 0)) 32 #[.int .u32 0];rw[aJ]at r0;have r1:=r0.alloc (.cells #[hp,.map (some w.heap.size),.slice (some ⟨w.heap.size+1,0,none⟩) 1 1,.int .i64 0,.int .i64 0,.int .i64 0,.int .i64 0,.int .i64 0] 172);have m0:=lS.made w 54 54 .u32;have m1:=(m0.below ((Below.refl _ _).alloc (aq _) (.cells #[.int .u32 0] 32))).below ((Below.refl _ _).alloc (aq _) (.cells #[hp,.map (some w.heap.size),.slice (some ⟨w.heap.size+1,0,none⟩) 1 1,.int .i64 0,.int .i64 0,.int .i64 0,.int .i64 0,.int .i64 0] 172));refine⟨b0,?_,m1.ext (fun x=>by rw[FY (by simp)];rfl) (fun x=>by simp),by omega,aq _⟩;unfold eW at r1;exact⟨rfl,.inr ⟨w.heap.size+1,1,#[.int .u32 0],rfl,by omega,r1,by simp,by simp[maxLen],by simp,by simp[eN]⟩⟩
theorem UC (M:jM w B mg mb hp v ws pl t0 t1 t2 t3 t4){q:Nat × Nat}(hq:q.1∉pl.map (·.1))(h1:q.1<4294967296)(h2:q.2<4294967296)(hn:pl.length<=1048576):
 ∃ w',(Instr.mapUpdate 170 (.map (some mb)) (.int .u32 (q.1:Int)) (.int .u32 (q.2:Int))).run Tryz.prog w= .ok () w'/\jM w' B mg mb hp v ws (pl++[q]) t0 t1 t2 t3 t4/\w.grownBy w' (some mb):=by
 obtain⟨w',hr,hm,hg⟩:=M.map.put ac_ (v:=(q.2:Int)) h1 (by simp only[Lit.wf,show IntKind.u32.min=0 by decide,show IntKind.u32.max=4294967295 by decide,Bool.and_eq_true,decide_eq_true_eq];omega) (by omega);have hne:mb≠mg:=M.map.aph M.box;refine⟨w',hr,⟨M.box.same (hg.block mg M.box.lt (fun e=>hne (by first|exact Option.some.inj e|exact (Option.some.inj e).symm))),jy M.own (fun k hk=>hg.block k (M.own.lt k hk).2 (fun e=>ui M.own M.map (hk.trans (by first|exact e|exact e.symm)))),?_,M.hg,M.hm⟩,hg⟩;rw[aj];refine hm.ext (fun x=>?_) (fun x=>?_)
 .by_cases hx:x=q.1
  .subst hx;rw[if_pos rfl];unfold lX;rw[aP,List.find?_eq_none.2 (fun y hy e=>hq (aU.2 ⟨y,hy,by simpa using e⟩))];simp
  .rw[if_neg hx];unfold lX;rw[aP]
   cases hf:pl.find? (fun p=>p.1 == x) with
   | some y=>simp
   | none=>simp[List.find?_cons,show (q.1 == x)=false from by simp;exact fun e=>hx e.symm]
 .by_cases hx:x=q.1
  .simp[hx]
  .rw[if_neg hx];simp[hx]
theorem De {u0 u1 u2 u3 u4:Nat}(M:jM w B mg mb hp v ws pl t0 t1 t2 t3 t4)(hb:eW w' mg 172 #[hp,.map (some mb),v,.int .i64 (u0:Int),.int .i64 (u1:Int),.int .i64 (u2:Int),.int .i64 (u3:Int),.int .i64 (u4:Int)])(hs:∀ k,k≠mg->w'.heap[k]? = w.heap[k]?):
 jM w' B mg mb hp v ws pl u0 u1 u2 u3 u4:=
 ⟨hb,jy M.own (fun q hq=>hs q (fun e=>gL M.own M.box (by decide) (e ▸ hq))),M.map.same (hs mb (M.map.aph M.box)),M.hg,M.hm⟩
theorem QX (M:jM w B mg mb hp v ws pl t0 t1 t2 t3 t4)(h1:w'.heap[mg]? = w.heap[mg]?)(h2:w'.heap[mb]? = w.heap[mb]?)(h3:∀ k,v.ownBlock=some k->w'.heap[k]? = w.heap[k]?):jM w' B mg mb hp v ws pl t0 t1 t2 t3 t4:=
 ⟨M.box.same h1,jy M.own h3,M.map.same h2,M.hg,M.hm⟩
end
theorem QR (f:Nat->Nat)(rs:List Nat)(k:Nat)(hk:k<rs.length):((rs.take k).map f++rs.drop k).getD k 0=rs.getD k 0:=by
 have hl:((rs.take k).map f).length=k:=by simp;omega
 rw[ai,ai,List.getElem?_append_right (by omega),hl,aX,List.getElem?_drop,aW]
theorem QS (f:Nat->Nat)(rs:List Nat)(k:Nat)(hk:k<rs.length):(eN ((rs.take k).map f++rs.drop k)).set k (.int .u32 (f (rs.getD k 0):Int))=eN ((rs.take (k+1)).map f++rs.drop (k+1)):=by
 have hl:(eN ((rs.take k).map f)).length=k:=by rw[eY];simp;omega
 have hg:rs.getD k 0=rs[k]:=by rw[ai,ah hk];rfl
 have hd:rs.drop k=rs[k] :: rs.drop (k+1):=List.drop_eq_getElem_cons hk;rw[nZ,hd,List.set_append_right _ _ (by omega),hl,aX,hg,az,ah hk,aD,nZ,nZ,au];rfl
def yf (pl:List (Nat × Nat))(z:List (Nat × Ob)):Nat:=(z.map (fun p=>lU pl p.2)).sum
theorem PH (pl:List (Nat × Nat)):∀ z:List (Nat × Ob),yf pl z<=(fV (z.map (·.2))).length
 | []=>aq _
 | a :: z=>by
   have ih:=PH pl z;unfold yf at*;rw[aG,List.sum_cons,aG,fD,aj,Ob.apt];have h1:lU pl a.2<=a.2.fs.length:=by
    unfold lU;split
    .exact aB _ _
    .exact Nat.zero_le _
   omega
theorem PI (pl:List (Nat × Nat))(z:List (Nat × Ob))(p:Nat × Ob):yf pl (z++[p])=yf pl z+lU pl p.2:=by
 unfold yf;rw[aD,List.sum_append];simp
def PK (h:HM)(l:List Ob):Value:=
 .agg #[.int .i64 ((gV h l).length:Nat),.int .i64 ((l.length-(gV h l).length:Nat):Nat),.int .i64 ((h.words.length-(1+(fV (gZ h l)).length):Nat):Nat),.int .i64 (QY h l:Nat),.int .i64 (PF h l:Nat)]
end
end Go.Proofs.YtlkahgagmfhdaaaGreatDoor
